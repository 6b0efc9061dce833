/- ParcelBack, part 2: what the row leans on. -/
import Derived.Test.YtneiiplppcjjlaaGreatDoorZParcelBack1
set_option linter.unusedVariables false
set_option linter.unusedSimpArgs false
set_option maxRecDepth 100000
namespace Go.Proofs.YtneiiplppcjjlaaGreatDoor
open Go.Den
noncomputable section
theorem RSize2.pure (id inc st lo hi : Int) (cut : Bool) (bag : LF) (hl : bagFit bag = true) :
  RSize2.f (bag.length + 1) id inc st lo hi cut bag = some (recLen (id, inc, st, (lo, hi), cut, bag)) := by
 obtain ⟨h1, h2⟩ := (bagFit_iff bag).1 hl
 obtain ⟨b1, b2, b3⟩ := bagOk_len h1
 unfold RSize2.f RSize2.b
 have := RSize2.loop (bag.length + 1) id inc st lo hi cut bag b1 (bag.length + 1) 0 23 (by omega) (by omega) (by omega) (by rw [List.drop_zero]; omega)
 rw [List.drop_zero] at this
 exact this
theorem rec_eta (r : Int × Int × Int × (Int × Int) × Bool × LF) : (r.1, r.2.1, r.2.2.1, (r.2.2.2.1.1, r.2.2.2.1.2), r.2.2.2.2.1, r.2.2.2.2.2) = r := rfl
theorem recLen_le {r : Int × Int × Int × (Int × Int) × Bool × LF} (h : recOkT r = true) : 23 ≤ recLen r ∧ recLen r ≤ 4215 := by
 obtain ⟨_, _, _, _, _, _, _, f8, _⟩ := recOk_facts h
 have := bagOk_len f8
 unfold recLen
 omega
theorem recsLen_le : ∀ (l : LR), (∀ r ∈ l, recOkT r = true) → 0 ≤ recsLen l ∧ recsLen l ≤ 4215 * (l.length : Int)
 | [], h => by simp [recsLen]
 | r :: l, h => by
  have h1 := recLen_le (h r (by simp))
  have h2 := recsLen_le l (fun r hr => h r (by simp [hr]))
  simp [recsLen]
  omega
theorem Size2.loop (fuel : Nat) (kind from0 inc lo hi seq target life epoch base : Int) (recs : LR) (hr : ∀ r ∈ recs, recOkT r = true ∧ smallBag r.2.2.2.2.2 = true) (hlen : recs.length ≤ 255) : ∀ (k i : Nat) (n : Int), i ≤ recs.length → recs.length - i < k → 0 ≤ n → n + recsLen (recs.drop i) < 2000000 →
  Size2.l9 fuel kind from0 inc lo hi seq target life epoch base recs k n (recs.length : Int) (i : Int) = some (n + recsLen (recs.drop i)) := by
 intro k
 induction k with
 | zero => intro i n h1 h2; omega
 | succ k ih =>
  intro i n h1 h2 h3 h4
  rw [Size2.l9]
  unfold Size2.b9
  by_cases hi' : i < recs.length
  ·rw [if_pos (by simp; omega), idx_at, List.getElem?_eq_getElem hi']
   dsimp only
   rw [List.drop_eq_getElem_cons hi'] at h4 ⊢
   have hn := recsLen_le (recs.drop (i + 1)) (fun r hm => (hr r (List.mem_of_mem_drop hm)).1)
   obtain ⟨hok, hs⟩ := hr recs[i] (List.getElem_mem hi')
   have hfit : bagFit recs[i].2.2.2.2.2 = true := (bagFit_iff _).2 ⟨(recOk_facts hok).2.2.2.2.2.2.2.1, hs⟩
   have hq := recLen_le hok
   simp only [recsLen] at h4 ⊢
   rw [rec_eta, if_pos hfit, wrap_small (n + _) (by omega) (by omega), wrap_small ((i : Int) + 1) (by omega) (by omega)]
   have := ih (i + 1) (n + recLen recs[i]) (by omega) (by omega) (by omega) (by omega)
   rw [show ((i + 1 : Nat) : Int) = (i : Int) + 1 from by omega] at this
   rw [this]
   congr 1
   omega
  ·rw [if_neg (by simp; omega), List.drop_of_length_le (by omega)]
   simp [recsLen]
theorem Size2.pure (kind from0 inc lo hi seq target life epoch base : Int) (recs : LR) (hl : smallRecs recs = true) :
  Size2.f (recs.length + 1) kind from0 inc lo hi seq target life epoch base recs = some (size2 kind from0 inc lo hi seq target life epoch base recs) := by
 unfold Size2.f Size2.b size2
 rw [if_pos hl]
 cases hv : validF kind from0 inc lo hi seq target life epoch base recs
 ·rfl
 obtain ⟨v1, v2, v3, v4, v5, v6, v7, v8, v9, v10, v11, _, v12, v13⟩ := valid_facts hv
 have hs := ((smallRecs_iff recs).1 hl).2
 have hn := recsLen_le recs v13
 have hlp := fun n h0 h1 => Size2.loop (recs.length + 1) kind from0 inc lo hi seq target life epoch base recs (fun r hr => ⟨v13 r hr, hs r hr⟩) v12 (recs.length + 1) 0 n (by omega) (by omega) h0 h1
 simp only [List.drop_zero] at hlp
 have w1 : IntKind.wrap .i64 (22 + 5) = 27 := rfl
 have w2 : IntKind.wrap .i64 (27 + 5) = 32 := rfl
 have hz : ((0 : Nat) : Int) = 0 := rfl
 rw [hz] at hlp
 simp only [w1, w2, hlp 22 (by omega) (by omega), hlp 27 (by omega) (by omega), hlp 32 (by omega) (by omega)]
 cases hasF kind 0 <;> cases hasF kind 1 <;> simp
theorem Fits2.loop (fuel : Nat) (kind from0 inc lo hi seq target life epoch base : Int) (recs : LR) (hlen : recs.length < 281474976710656) : ∀ (k i : Nat), i ≤ recs.length → recs.length - i < k →
  Fits2.l4 fuel kind from0 inc lo hi seq target life epoch base recs k (recs.length : Int) (i : Int) = some (fit2Go (recs.drop i)) := by
 intro k
 induction k with
 | zero => intro i h1 h2; omega
 | succ k ih =>
  intro i h1 h2
  rw [Fits2.l4]
  unfold Fits2.b4
  by_cases hi' : i < recs.length
  ·rw [if_pos (by simp; omega), idx_at, List.getElem?_eq_getElem hi', veil_eq]
   dsimp only
   rw [List.drop_eq_getElem_cons hi', fit2Go]
   have := ih (i + 1) (by omega) (by omega)
   rw [show ((i + 1 : Nat) : Int) = (i : Int) + 1 from by omega] at this
   rw [wrap_small ((i : Int) + 1) (by omega) (by omega), this]
   split <;> rfl
  ·rw [if_neg (by simp; omega), List.drop_of_length_le (by omega)]
   rfl
theorem Fits2.pure (kind from0 inc lo hi seq target life epoch base : Int) (recs : LR) (hl : smallRecs recs = true) :
  Fits2.f (recs.length + 1) kind from0 inc lo hi seq target life epoch base recs = some (fits2 kind from0 inc lo hi seq target life epoch base recs) := by
 unfold Fits2.f Fits2.b fits2
 have := Fits2.loop (recs.length + 1) kind from0 inc lo hi seq target life epoch base recs ((smallRecs_iff recs).1 hl).1 (recs.length + 1) 0 (by omega) (by omega)
 rw [show ((0 : Nat) : Int) = 0 from rfl, List.drop_zero] at this
 rw [if_pos hl, this]
 cases validF kind from0 inc lo hi seq target life epoch base recs <;> cases (kind == 9) <;> cases (epoch != 0) <;> cases (decide (size2 kind from0 inc lo hi seq target life epoch base recs > 65499)) <;> simp [hl]
theorem tagOk_iff (t : Int) : tagOk t = true ↔ 0 ≤ t ∧ t ≤ 255 := by unfold tagOk; simp
theorem TNum.pure (t n v : Int) (hf : fitsF n v = true) : TNum.f 0 t n v = some (t, be n.toNat v) := by
 unfold TNum.f TNum.b
 have hr : roomy (be n.toNat v) = true := roomy_of (by rw [be_length]; have := (fitsF_iff n v).1 hf; omega)
 rw [if_pos hf, if_pos hr]
theorem s_rsz2_det : SumDet s_rsz2 := sdet fun _ _ _ _ => by
 unfold s_rsz2
 simp only
 split
 ·first | rfl | (split <;> rfl)
 ·rfl
theorem s_rsz2_ok : SumOk Tryz.prog 128 s_rsz2 := by
 have hE : EnvOk Tryz.prog RSize2_E := env_ok (l := []) th_ok any_ok trivial _
 refine sum_ok hE Tryz.func128 rfl (by kernel_rfl) s_rsz2 [.raw] RSize2.k ?_
 intro R avs objs κ r h
 unfold s_rsz2 at h
 simp only at h
 split at h
 ·rename_i rid rinc rst rlo rhi rcut rbag
  split at h
  case isFalse => cases h
  rename_i hl
  refine ⟨rbag.length + 1, _, _, _, (RSize2.eq (rbag.length + 1) rid rinc rst rlo rhi rcut rbag).trans (RSize2.pure rid rinc rst rlo rhi rcut rbag hl), ?_, h⟩
  intro rs ros hk
  unfold RSize2.k at hk
  split at hk
  ·first | (cases hk; exact ⟨rfl, rfl⟩) | (rw [← Option.some.inj hk]; exact ⟨rfl, rfl⟩)
  ·cases hk
 ·cases h
theorem s_size2_det : SumDet s_size2 := sdet fun _ _ _ _ => by
 unfold s_size2
 simp only
 split
 ·first | rfl | (split <;> rfl)
 ·rfl
theorem s_size2_ok : SumOk Tryz.prog 114 s_size2 := by
 have hE : EnvOk Tryz.prog Size2_E := env_ok (l := [(76, s_valid), (41, s_has), (128, s_rsz2)]) th_ok any_ok ⟨⟨s_valid_ok, s_valid_det⟩, ⟨s_has_ok, s_has_det⟩, ⟨s_rsz2_ok, s_rsz2_det⟩, trivial⟩ _
 refine sum_ok hE Tryz.func114 rfl (by kernel_rfl) s_size2 [.raw] Size2.k ?_
 intro R avs objs κ r h
 unfold s_size2 at h
 simp only at h
 split at h
 ·rename_i mkind mfrom0 minc mlo mhi mseq mtarget mlife mepoch mbase mrecs
  split at h
  case isFalse => cases h
  rename_i hl
  refine ⟨mrecs.length + 1, _, _, _, (Size2.eq (mrecs.length + 1) mkind mfrom0 minc mlo mhi mseq mtarget mlife mepoch mbase mrecs).trans (Size2.pure mkind mfrom0 minc mlo mhi mseq mtarget mlife mepoch mbase mrecs hl), ?_, h⟩
  intro rs ros hk
  unfold Size2.k at hk
  split at hk
  ·first | (cases hk; exact ⟨rfl, rfl⟩) | (rw [← Option.some.inj hk]; exact ⟨rfl, rfl⟩)
  ·cases hk
 ·cases h
theorem s_fits2_det : SumDet s_fits2 := sdet fun _ _ _ _ => by
 unfold s_fits2
 simp only
 split
 ·first | rfl | (split <;> rfl)
 ·rfl
theorem s_fits2_ok : SumOk Tryz.prog 87 s_fits2 := by
 have hE : EnvOk Tryz.prog Fits2_E := env_ok (l := [(76, s_valid), (114, s_size2)]) th_ok any_ok ⟨⟨s_valid_ok, s_valid_det⟩, ⟨s_size2_ok, s_size2_det⟩, trivial⟩ _
 refine sum_ok hE Tryz.func87 rfl (by kernel_rfl) s_fits2 [.raw] Fits2.k ?_
 intro R avs objs κ r h
 unfold s_fits2 at h
 simp only at h
 split at h
 ·rename_i mkind mfrom0 minc mlo mhi mseq mtarget mlife mepoch mbase mrecs
  split at h
  case isFalse => cases h
  rename_i hl
  refine ⟨mrecs.length + 1, _, _, _, (Fits2.eq (mrecs.length + 1) mkind mfrom0 minc mlo mhi mseq mtarget mlife mepoch mbase mrecs).trans (Fits2.pure mkind mfrom0 minc mlo mhi mseq mtarget mlife mepoch mbase mrecs hl), ?_, h⟩
  intro rs ros hk
  unfold Fits2.k at hk
  split at hk
  ·first | (cases hk; exact ⟨rfl, rfl⟩) | (rw [← Option.some.inj hk]; exact ⟨rfl, rfl⟩)
  ·cases hk
 ·cases h
theorem s_tnum_det : SumDet s_tnum := sdet fun _ _ _ _ => by
 unfold s_tnum
 simp only
 split
 ·first | rfl | (split <;> rfl)
 ·rfl
theorem s_tnum_ok : SumOk Tryz.prog 88 s_tnum := by
 have hE : EnvOk Tryz.prog TNum_E := env_ok (l := [(78, s_write), (79, s_num), (82, s_bytes)]) th_ok any_ok ⟨⟨s_write_ok, s_write_det⟩, ⟨s_num_ok, s_num_det⟩, ⟨s_bytes_ok, s_bytes_det⟩, trivial⟩ _
 refine sum_ok hE Tryz.func88 rfl (by kernel_rfl) s_tnum [.dat (.pair tQi (.sl (.int .u8))) true] TNum.k ?_
 intro R avs objs κ r h
 unfold s_tnum at h
 simp only at h
 split at h
 ·rename_i t n v
  split at h
  case isFalse => cases h
  rename_i hl
  refine ⟨0, _, _, _, (TNum.eq (0) t n v).trans (TNum.pure t n v hl), ?_, h⟩
  intro rs ros hk
  unfold TNum.k at hk
  split at hk
  ·first | (cases hk; exact ⟨rfl, rfl⟩) | (rw [← Option.some.inj hk]; exact ⟨rfl, rfl⟩)
  ·cases hk
 ·cases h
def fieldB (x : (Int × List Int)) : List Int := x.1 :: ((x.2.length / 256 : Nat) : Int) :: ((x.2.length % 256 : Nat) : Int) :: x.2
def itB (t n v : Int) : List Int := t :: 0 :: n :: be n.toNat v
def cutSt (r : (Int × Int × Int × (Int × Int) × Bool × LF)) : Int := if r.2.2.2.2.1 then r.2.2.1 + 128 else r.2.2.1
def innerL (r : (Int × Int × Int × (Int × Int) × Bool × LF)) : List Int := itB 1 2 r.1 ++ (itB 2 4 r.2.1 ++ (itB 3 1 (cutSt r) ++ (itB 4 1 (r.2.2.2.1.1 * 16 + r.2.2.2.1.2) ++ r.2.2.2.2.2.flatMap fieldB)))
def recB2 (r : (Int × Int × Int × (Int × Int) × Bool × LF)) : List Int := fieldB (7, innerL r)
def body2 (kind from0 inc lo hi seq target : Int) (recs : LR) : List Int :=
 itB 1 1 kind ++ (itB 2 2 from0 ++ (itB 3 6 inc ++ (itB 4 1 (lo * 16 + hi) ++ ((if hasF kind 0 then itB 5 2 seq else []) ++ ((if hasF kind 1 then itB 6 2 target else []) ++ recs.flatMap recB2)))))
def recFit (r : (Int × Int × Int × (Int × Int) × Bool × LF)) : Bool := recOkT r && smallBag r.2.2.2.2.2
def recFit2 (r : (Int × Int × Int × (Int × Int) × Bool × LF)) : Bool := recFit r && decide (r.2.1 ≤ 4294967295)
def withinL (r : (Int × Int × Int × (Int × Int) × Bool × LF)) : LF := [(1, be 2 r.1), (2, be 4 r.2.1), (3, be 1 (cutSt r)), (4, be 1 (r.2.2.2.1.1 * 16 + r.2.2.2.1.2))] ++ r.2.2.2.2.2
def fits13 (kind from0 inc lo hi seq target life epoch base : Int) (recs : LR) : Bool :=
 if !validF kind from0 inc lo hi seq target life epoch base recs || (kind == 9 || (life != 0 || (epoch != 0 || base != 0))) then false else if !fit2Go recs then false else decide (((body2 kind from0 inc lo hi seq target recs).length : Int) ≤ 65499)
def joinOk (l : LF) : Bool := decide (l.length ≤ 300) && l.all fun x => tagOk x.1 && decide (x.2.length ≤ 65535)
def enc2 (kind from0 inc lo hi seq target life epoch base : Int) (recs : LR) : List Int × Int :=
 if !validF kind from0 inc lo hi seq target life epoch base recs then ([], 1) else if !fits2 kind from0 inc lo hi seq target life epoch base recs then ([], 14) else (body2 kind from0 inc lo hi seq target recs, 0)
def s_within2 : Den.Sum := ⟨[.dat tQr true], fun args objs κ => match args, objs with
 | [.agg [.d (.int .i64) rid, .d (.int .i64) rinc, .d (.int .i64) rst, .d (.int .i64) rlo, .d (.int .i64) rhi, .d .bool rcut, .d (.sl (.pair (.int .i64) (.sl (.int .u8)))) rbag]], [] => if recFit2 (rid, rinc, rst, (rlo, rhi), rcut, rbag) = true then κ [.d (.sl (.pair (.int .i64) (.sl (.int .u8)))) (withinL (rid, rinc, rst, (rlo, rhi), rcut, rbag))] [] else none
 | _, _ => none⟩
def s_join : Den.Sum := ⟨[.dat (.sl (.pair tQi (.sl (.int .u8)))) false], fun args objs κ => match args, objs with
 | [.d (.sl (.pair (.int .i64) (.sl (.int .u8)))) l], [] => if joinOk l = true then κ [.d (.sl (.int .u8)) (l.flatMap fieldB), .d (.int .i64) 0] [] else none
 | _, _ => none⟩
def s_enc2 : Den.Sum := ⟨[.dat (.pair tQi (.pair tQi (.pair tQi (.pair (.pair tQi tQi) (.pair tQi (.pair tQi (.pair tQi (.pair tQi (.pair tQi (.sl tQr)))))))))) true], fun args objs κ => match args, objs with
 | [.agg [.d (.int .i64) mkind, .d (.int .i64) mfrom0, .d (.int .i64) minc, .d (.int .i64) mlo, .d (.int .i64) mhi, .d (.int .i64) mseq, .d (.int .i64) mtarget, .d (.int .i64) mlife, .d (.int .i64) mepoch, .d (.int .i64) mbase, .d (.sl (.pair (.int .i64) (.pair (.int .i64) (.pair (.int .i64) (.pair (.pair (.int .i64) (.int .i64)) (.pair .bool (.sl (.pair (.int .i64) (.sl (.int .u8)))))))))) mrecs]], [] => if smallRecs mrecs = true then κ [.d (.sl (.int .u8)) (enc2 mkind mfrom0 minc mlo mhi mseq mtarget mlife mepoch mbase mrecs).1, .d (.int .i64) (enc2 mkind mfrom0 minc mlo mhi mseq mtarget mlife mepoch mbase mrecs).2] [] else none
 | _, _ => none⟩
def Within2_E : Env := ⟨th, gam [(88, s_tnum), (80, s_code)], fun i => ⟨[], [], []⟩⟩
def Within2.k (rs : List AV) (os : List Den.Obj) : Option LF :=
 match rs, os with
 | [.d (.sl (.pair (.int .i64) (.sl (.int .u8)))) r0], [] => some r0
 | _, _ => none
def Within2.b (rid rinc rst rlo rhi : Int) (rcut : Bool) (rbag : LF) : Option LF :=
 (if rcut then (if (fitsF (2 : Int) rid) then (if (fitsF (4 : Int) rinc) then (if (fitsF (1 : Int) (IntKind.wrap .i64 (rst + (128 : Int)))) then (if (fitsF (1 : Int) (codeF rlo rhi)) then (if ((((List.length (((1 : Int), (be (Int.toNat (2 : Int)) rid)) :: (((2 : Int), (be (Int.toNat (4 : Int)) rinc)) :: (((3 : Int), (be (Int.toNat (1 : Int)) (IntKind.wrap .i64 (rst + (128 : Int))))) :: (((4 : Int), (be (Int.toNat (1 : Int)) (codeF rlo rhi))) :: ([] : LF)))))) + (List.length rbag)) * (32 : Nat)) ≤ lim) then some (((((1 : Int), (be (Int.toNat (2 : Int)) rid)) :: (((2 : Int), (be (Int.toNat (4 : Int)) rinc)) :: (((3 : Int), (be (Int.toNat (1 : Int)) (IntKind.wrap .i64 (rst + (128 : Int))))) :: (((4 : Int), (be (Int.toNat (1 : Int)) (codeF rlo rhi))) :: ([] : LF))))) ++ rbag)) else none) else none) else none) else none) else none) else (if (fitsF (2 : Int) rid) then (if (fitsF (4 : Int) rinc) then (if (fitsF (1 : Int) rst) then (if (fitsF (1 : Int) (codeF rlo rhi)) then (if ((((List.length (((1 : Int), (be (Int.toNat (2 : Int)) rid)) :: (((2 : Int), (be (Int.toNat (4 : Int)) rinc)) :: (((3 : Int), (be (Int.toNat (1 : Int)) rst)) :: (((4 : Int), (be (Int.toNat (1 : Int)) (codeF rlo rhi))) :: ([] : LF)))))) + (List.length rbag)) * (32 : Nat)) ≤ lim) then some (((((1 : Int), (be (Int.toNat (2 : Int)) rid)) :: (((2 : Int), (be (Int.toNat (4 : Int)) rinc)) :: (((3 : Int), (be (Int.toNat (1 : Int)) rst)) :: (((4 : Int), (be (Int.toNat (1 : Int)) (codeF rlo rhi))) :: ([] : LF))))) ++ rbag)) else none) else none) else none) else none) else none))
def Within2.f (fuel : Nat) (rid rinc rst rlo rhi : Int) (rcut : Bool) (rbag : LF) : Option LF := Within2.b rid rinc rst rlo rhi rcut rbag
theorem Within2.eq (fuel : Nat) (rid rinc rst rlo rhi : Int) (rcut : Bool) (rbag : LF) : (denF Within2_E loopN fuel Tryz.f90 [.dat (.sl (.pair tQi (.sl (.int .u8)))) false] [.agg [.d tQi rid, .d tQi rinc, .d tQi rst, .d tQi rlo, .d tQi rhi, .d .bool rcut, .d (.sl (.pair tQi (.sl (.int .u8)))) rbag]] [] Within2.k) = Within2.f fuel rid rinc rst rlo rhi rcut rbag := by
 kernel_rfl
def Join_E : Env := ⟨th, gam [], fun i => if i = 3 then ⟨[4, 8, 9, 10], [(4, 5, (.int .u8))], []⟩ else if i = 11 then ⟨[4, 6, 8, 9, 10, 32], [], []⟩ else ⟨[], [], []⟩⟩
def Join.k (rs : List AV) (os : List Den.Obj) : Option ((List Int) × Int) :=
 match rs, os with
 | [.d (.sl (.int .u8)) r0, .d (.int .i64) r1], [] => some (r0, r1)
 | _, _ => none
def Join.s11 (l : LF) (x4 x5 x6 : Int) (x7 : (List Int)) (x8 : Int) (x9 : (List Int)) : St := ⟨[dD, dD, dD, dD, .row 64, .dead, .ptr 65 0, .dead, .d (.sl (.pair tQi (.sl (.int .u8)))) (l), .d tQi x4, .d tQi x5, dD, dD, dD, dD, dD, dD, dD, dD, dD, dD, dD, dD, dD, dD, dD, dD, dD, dD, dD, dD, dD, .d tQi x6, dD, dD, dD, dD, dD, dD, dD, dD, dD, dD, dD, dD, dD, dD, dD, dD, dD, dD, dD, .dead], ofL [(64, .row 5 (.int .u8) x7 false), (65, .box [.d tQi x8, .d (.sl (.int .u8)) x9])], 0⟩
def Join.p11 (fuel : Nat) (l : LF) (k3 k : Nat) := fun x4 x5 x6 x7 x8 x9 => lp Join_E fuel Tryz.f89 [.dat (.sl (.int .u8)) false, .raw] 0 Join.k 11 [k3] k (Join.s11 l x4 x5 x6 x7 x8 x9)
def Join.b11 (l : LF) (A3 : Int → Int → (List Int) → Option ((List Int) × Int)) (A11 : Int → Int → Int → (List Int) → Int → (List Int) → Option ((List Int) × Int)) (x4 : Int) (x5 : Int) (x6 : Int) (x7 : (List Int)) (x8 : Int) (x9 : (List Int)) : Option ((List Int) × Int) :=
 (if (decide (x6 < (2 : Int))) then (if ((IntKind.wrap .i64 ((8 : Int) - (IntKind.wrap .i64 ((8 : Int) * x6)))) < (0 : Int)) then none else (if ((((List.length x7) + (List.length ((IntKind.wrap .u8 (Int.fdiv ((((List.length x9)) : Nat) : Int) ((2 : Int) ^ (Min.min (Int.toNat (IntKind.wrap .i64 ((8 : Int) - (IntKind.wrap .i64 ((8 : Int) * x6))))) (IntKind.bits .i64))))) :: ([] : List Int)))) * (1 : Nat)) ≤ lim) then A11 x4 x5 (IntKind.wrap .i64 (x6 + (1 : Int))) (x7 ++ ((IntKind.wrap .u8 (Int.fdiv ((((List.length x9)) : Nat) : Int) ((2 : Int) ^ (Min.min (Int.toNat (IntKind.wrap .i64 ((8 : Int) - (IntKind.wrap .i64 ((8 : Int) * x6))))) (IntKind.bits .i64))))) :: ([] : List Int))) x8 x9 else none)) else (if ((((List.length x7) + (List.length x9)) * (1 : Nat)) ≤ lim) then A3 x4 (IntKind.wrap .i64 (x5 + (1 : Int))) (x7 ++ x9) else none))
def Join.l11 (fuel : Nat) (l : LF) (A3 : Int → Int → (List Int) → Option ((List Int) × Int)) : Nat → Int → Int → Int → (List Int) → Int → (List Int) → Option ((List Int) × Int)
 | 0, _, _, _, _, _, _ => none
 | k + 1, x4, x5, x6, x7, x8, x9 => Join.b11 l A3 (Join.l11 fuel l A3 k) x4 x5 x6 x7 x8 x9
def Join.s3 (l : LF) (x0 x1 : Int) (x2 : (List Int)) : St := ⟨[dD, dD, dD, dD, .row 64, dD, dD, dD, .d (.sl (.pair tQi (.sl (.int .u8)))) (l), .d tQi x0, .d tQi x1, dD, dD, dD, dD, dD, dD, dD, dD, dD, dD, dD, dD, dD, dD, dD, dD, dD, dD, dD, dD, dD, dD, dD, dD, dD, dD, dD, dD, dD, dD, dD, dD, dD, dD, dD, dD, dD, dD, dD, dD, dD, .dead], ofL [(64, .row 5 (.int .u8) x2 false)], 0⟩
def Join.p3 (fuel : Nat) (l : LF) (k : Nat) := fun x0 x1 x2 => lp Join_E fuel Tryz.f89 [.dat (.sl (.int .u8)) false, .raw] 0 Join.k 3 [] k (Join.s3 l x0 x1 x2)
def Join.b3 (l : LF) (A3 : Int → Int → (List Int) → Option ((List Int) × Int)) (E11 : Int → Int → Int → (List Int) → Int → (List Int) → Option ((List Int) × Int)) (x0 : Int) (x1 : Int) (x2 : (List Int)) : Option ((List Int) × Int) :=
 (if (decide (x1 < x0)) then (match (idx l x1) with | none => none | some y3 => (if (decide (y3.1 < (0 : Int))) then some (([] : List Int), (5 : Int)) else (if (decide (y3.1 > (255 : Int))) then some (([] : List Int), (5 : Int)) else (if (decide (((((List.length y3.2)) : Nat) : Int) > (65535 : Int))) then some (([] : List Int), (3 : Int)) else (if ((((List.length x2) + (List.length ((IntKind.wrap .u8 y3.1) :: ([] : List Int)))) * (1 : Nat)) ≤ lim) then E11 x0 x1 (0 : Int) (x2 ++ ((IntKind.wrap .u8 y3.1) :: ([] : List Int))) y3.1 y3.2 else none))))) else some (x2, (0 : Int)))
def Join.l3 (fuel : Nat) (l : LF) : Nat → Int → Int → (List Int) → Option ((List Int) × Int)
 | 0, _, _, _ => none
 | k + 1, x0, x1, x2 => Join.b3 l (Join.l3 fuel l k) (Join.l11 fuel l (Join.l3 fuel l k) fuel) x0 x1 x2
def Join.b (l : LF) (E3 : Int → Int → (List Int) → Option ((List Int) × Int)) : Option ((List Int) × Int) :=
 E3 ((((List.length l)) : Nat) : Int) (0 : Int) ([] : List Int)
def Join.f (fuel : Nat) (l : LF) : Option ((List Int) × Int) := Join.b l (Join.l3 fuel l fuel)
theorem Join.l11_eq (fuel : Nat) (l : LF) (k3 : Nat) : ∀ k : Nat, Join.p11 fuel l k3 k = Join.l11 fuel l (Join.p3 fuel l k3) k
 | 0 => by kernel_rfl
 | k + 1 => by
  refine Eq.trans (b := Join.b11 l (Join.p3 fuel l k3) (Join.p11 fuel l k3 k)) (by kernel_rfl) ?_
  rw [Join.l11_eq fuel l k3 k]
  kernel_rfl
theorem Join.l3_eq (fuel : Nat) (l : LF) : ∀ k : Nat, Join.p3 fuel l k = Join.l3 fuel l k
 | 0 => by kernel_rfl
 | k + 1 => by
  refine Eq.trans (b := Join.b3 l (Join.p3 fuel l k) (Join.p11 fuel l k fuel)) (by kernel_rfl) ?_
  rw [Join.l3_eq fuel l k, Join.l11_eq fuel l k fuel, Join.l3_eq fuel l k]
  kernel_rfl
theorem Join.eq (fuel : Nat) (l : LF) : (denF Join_E loopN fuel Tryz.f89 [.dat (.sl (.int .u8)) false, .raw] [.d (.sl (.pair tQi (.sl (.int .u8)))) l] [] Join.k) = Join.f fuel l := by
 refine Eq.trans (b := Join.b l (Join.p3 fuel l fuel)) (by kernel_rfl) ?_
 rw [Join.l3_eq fuel l fuel]
 kernel_rfl
def Encode2_E : Env := ⟨th, gam [(76, s_valid), (87, s_fits2), (88, s_tnum), (80, s_code), (41, s_has), (90, s_within2), (89, s_join)], fun i => if i = 11 then ⟨[4, 48, 49, 50], [], []⟩ else ⟨[], [], []⟩⟩
def Encode2.k (rs : List AV) (os : List Den.Obj) : Option ((List Int) × Int) :=
 match rs, os with
 | [.d (.sl (.int .u8)) r0, .d (.int .i64) r1], [] => some (r0, r1)
 | _, _ => none
def Encode2.s11 (mkind mfrom0 minc mlo mhi mseq mtarget mlife mepoch mbase : Int) (mrecs : LR) (x0 x1 : Int) (x2 : LF) : St := ⟨[dD, dD, dD, dD, .row 64, dD, dD, dD, dD, dD, dD, dD, dD, dD, dD, dD, dD, dD, dD, dD, dD, dD, dD, dD, dD, dD, dD, dD, dD, dD, dD, dD, dD, dD, dD, dD, dD, dD, dD, dD, dD, dD, dD, dD, dD, dD, dD, dD, .d (.sl tQr) (mrecs), .d tQi x0, .d tQi x1, dD, dD, dD, dD, dD, dD, dD, dD, dD, dD, dD, dD, dD, dD, dD, dD, dD, dD, .dead], ofL [(64, .row 86 (.pair tQi (.sl (.int .u8))) x2 false)], 0⟩
def Encode2.p11 (fuel : Nat) (mkind mfrom0 minc mlo mhi mseq mtarget mlife mepoch mbase : Int) (mrecs : LR) (k : Nat) := fun x0 x1 x2 => lp Encode2_E fuel Tryz.f61 [.dat (.sl (.int .u8)) false, .raw] 0 Encode2.k 11 [] k (Encode2.s11 mkind mfrom0 minc mlo mhi mseq mtarget mlife mepoch mbase mrecs x0 x1 x2)
def Encode2.b11 (mkind mfrom0 minc mlo mhi mseq mtarget mlife mepoch mbase : Int) (mrecs : LR) (A11 : Int → Int → LF → Option ((List Int) × Int)) (x0 : Int) (x1 : Int) (x2 : LF) : Option ((List Int) × Int) :=
 (if (decide (x1 < x0)) then (match (idx mrecs x1) with | none => none | some y3 => (if (recFit2 (y3.1, (y3.2.1, (y3.2.2.1, ((y3.2.2.2.1.1, y3.2.2.2.1.2), (y3.2.2.2.2.1, y3.2.2.2.2.2)))))) then (if (joinOk (withinL (y3.1, (y3.2.1, (y3.2.2.1, ((y3.2.2.2.1.1, y3.2.2.2.1.2), (y3.2.2.2.2.1, y3.2.2.2.2.2))))))) then (if ((((List.length x2) + (List.length (((7 : Int), (List.flatMap fieldB (withinL (y3.1, (y3.2.1, (y3.2.2.1, ((y3.2.2.2.1.1, y3.2.2.2.1.2), (y3.2.2.2.2.1, y3.2.2.2.2.2)))))))) :: ([] : LF)))) * (32 : Nat)) ≤ lim) then A11 x0 (IntKind.wrap .i64 (x1 + (1 : Int))) (x2 ++ (((7 : Int), (List.flatMap fieldB (withinL (y3.1, (y3.2.1, (y3.2.2.1, ((y3.2.2.2.1.1, y3.2.2.2.1.2), (y3.2.2.2.2.1, y3.2.2.2.2.2)))))))) :: ([] : LF))) else none) else none) else none)) else (if (joinOk x2) then some ((List.flatMap fieldB x2), 0) else none))
def Encode2.l11 (fuel : Nat) (mkind mfrom0 minc mlo mhi mseq mtarget mlife mepoch mbase : Int) (mrecs : LR) : Nat → Int → Int → LF → Option ((List Int) × Int)
 | 0, _, _, _ => none
 | k + 1, x0, x1, x2 => Encode2.b11 mkind mfrom0 minc mlo mhi mseq mtarget mlife mepoch mbase mrecs (Encode2.l11 fuel mkind mfrom0 minc mlo mhi mseq mtarget mlife mepoch mbase mrecs k) x0 x1 x2
def Encode2.b (mkind mfrom0 minc mlo mhi mseq mtarget mlife mepoch mbase : Int) (mrecs : LR) (E11 : Int → Int → LF → Option ((List Int) × Int)) : Option ((List Int) × Int) :=
 (if (smallRecs mrecs) then (if (!(validF mkind mfrom0 minc mlo mhi mseq mtarget mlife mepoch mbase mrecs)) then some (([] : List Int), (1 : Int)) else (if (smallRecs mrecs) then (if (!(fits2 mkind mfrom0 minc mlo mhi mseq mtarget mlife mepoch mbase mrecs)) then some (([] : List Int), (14 : Int)) else (if (fitsF (1 : Int) mkind) then (if (fitsF (2 : Int) mfrom0) then (if (fitsF (6 : Int) minc) then (if (fitsF (1 : Int) (codeF mlo mhi)) then (if (hasF mkind (0 : Int)) then (if (fitsF (2 : Int) mseq) then (if (hasF mkind (1 : Int)) then (if (fitsF (2 : Int) mtarget) then E11 ((((List.length mrecs)) : Nat) : Int) (0 : Int) (((((1 : Int), (be (Int.toNat (1 : Int)) mkind)) :: (((2 : Int), (be (Int.toNat (2 : Int)) mfrom0)) :: (((3 : Int), (be (Int.toNat (6 : Int)) minc)) :: (((4 : Int), (be (Int.toNat (1 : Int)) (codeF mlo mhi))) :: ([] : LF))))) ++ (((5 : Int), (be (Int.toNat (2 : Int)) mseq)) :: ([] : LF))) ++ (((6 : Int), (be (Int.toNat (2 : Int)) mtarget)) :: ([] : LF))) else none) else E11 ((((List.length mrecs)) : Nat) : Int) (0 : Int) ((((1 : Int), (be (Int.toNat (1 : Int)) mkind)) :: (((2 : Int), (be (Int.toNat (2 : Int)) mfrom0)) :: (((3 : Int), (be (Int.toNat (6 : Int)) minc)) :: (((4 : Int), (be (Int.toNat (1 : Int)) (codeF mlo mhi))) :: ([] : LF))))) ++ (((5 : Int), (be (Int.toNat (2 : Int)) mseq)) :: ([] : LF)))) else none) else (if (hasF mkind (1 : Int)) then (if (fitsF (2 : Int) mtarget) then E11 ((((List.length mrecs)) : Nat) : Int) (0 : Int) ((((1 : Int), (be (Int.toNat (1 : Int)) mkind)) :: (((2 : Int), (be (Int.toNat (2 : Int)) mfrom0)) :: (((3 : Int), (be (Int.toNat (6 : Int)) minc)) :: (((4 : Int), (be (Int.toNat (1 : Int)) (codeF mlo mhi))) :: ([] : LF))))) ++ (((6 : Int), (be (Int.toNat (2 : Int)) mtarget)) :: ([] : LF))) else none) else E11 ((((List.length mrecs)) : Nat) : Int) (0 : Int) (((1 : Int), (be (Int.toNat (1 : Int)) mkind)) :: (((2 : Int), (be (Int.toNat (2 : Int)) mfrom0)) :: (((3 : Int), (be (Int.toNat (6 : Int)) minc)) :: (((4 : Int), (be (Int.toNat (1 : Int)) (codeF mlo mhi))) :: ([] : LF))))))) else none) else none) else none) else none)) else none)) else none)
def Encode2.f (fuel : Nat) (mkind mfrom0 minc mlo mhi mseq mtarget mlife mepoch mbase : Int) (mrecs : LR) : Option ((List Int) × Int) := Encode2.b mkind mfrom0 minc mlo mhi mseq mtarget mlife mepoch mbase mrecs (Encode2.l11 fuel mkind mfrom0 minc mlo mhi mseq mtarget mlife mepoch mbase mrecs fuel)
theorem Encode2.l11_eq (fuel : Nat) (mkind mfrom0 minc mlo mhi mseq mtarget mlife mepoch mbase : Int) (mrecs : LR) : ∀ k : Nat, Encode2.p11 fuel mkind mfrom0 minc mlo mhi mseq mtarget mlife mepoch mbase mrecs k = Encode2.l11 fuel mkind mfrom0 minc mlo mhi mseq mtarget mlife mepoch mbase mrecs k
 | 0 => by kernel_rfl
 | k + 1 => by
  refine Eq.trans (b := Encode2.b11 mkind mfrom0 minc mlo mhi mseq mtarget mlife mepoch mbase mrecs (Encode2.p11 fuel mkind mfrom0 minc mlo mhi mseq mtarget mlife mepoch mbase mrecs k)) (by kernel_rfl) ?_
  rw [Encode2.l11_eq fuel mkind mfrom0 minc mlo mhi mseq mtarget mlife mepoch mbase mrecs k]
  kernel_rfl
theorem Encode2.eq (fuel : Nat) (mkind mfrom0 minc mlo mhi mseq mtarget mlife mepoch mbase : Int) (mrecs : LR) : (denF Encode2_E loopN fuel Tryz.f61 [.dat (.sl (.int .u8)) false, .raw] [.agg [.d tQi mkind, .d tQi mfrom0, .d tQi minc, .d tQi mlo, .d tQi mhi, .d tQi mseq, .d tQi mtarget, .d tQi mlife, .d tQi mepoch, .d tQi mbase, .d (.sl tQr) mrecs]] [] Encode2.k) = Encode2.f fuel mkind mfrom0 minc mlo mhi mseq mtarget mlife mepoch mbase mrecs := by
 refine Eq.trans (b := Encode2.b mkind mfrom0 minc mlo mhi mseq mtarget mlife mepoch mbase mrecs (Encode2.p11 fuel mkind mfrom0 minc mlo mhi mseq mtarget mlife mepoch mbase mrecs fuel)) (by kernel_rfl) ?_
 rw [Encode2.l11_eq fuel mkind mfrom0 minc mlo mhi mseq mtarget mlife mepoch mbase mrecs fuel]
 kernel_rfl
theorem tag8 {t : Int} (h : 0 ≤ t ∧ t ≤ 255) : IntKind.wrap .u8 t = t := by rw [wrap8]; omega
theorem fieldB_len (x : Int × List Int) : (fieldB x).length = 3 + x.2.length := by unfold fieldB; simp; omega
theorem flatF_len : ∀ (l : LF), (((l.flatMap fieldB).length : Nat) : Int) = bagLen l
 | [] => by simp [bagLen]
 | x :: l => by
  rw [List.flatMap_cons, List.length_append, bagLen_cons, ← flatF_len l, fieldB_len]
  omega
theorem itB_len (t n v : Int) : (itB t n v).length = 3 + n.toNat := by unfold itB; simp [be_length]; omega
theorem inner_len (r : Int × Int × Int × (Int × Int) × Bool × LF) : ((innerL r).length : Int) = 20 + bagLen r.2.2.2.2.2 := by
 unfold innerL
 simp only [List.length_append, itB_len]
 have := flatF_len r.2.2.2.2.2
 omega
theorem bagGo_tag : ∀ (l : LF) (last size : Int), bagGo l last size = true → 0 ≤ size → ∀ x ∈ l, last ≤ x.1 ∧ x.1 ≤ 255 ∧ x.2.length ≤ 4096
 | [], _, _, _, _, x, hx => by simp at hx
 | y :: l, last, size, h, h0, x, hx => by
  unfold bagGo at h
  split at h
  ·cases h
  ·split at h
   ·cases h
   ·rename_i h1 h2
    simp at h1 h2
    rcases List.mem_cons.1 hx with rfl | hx
    ·omega
    ·have := bagGo_tag l y.1 _ h (by omega) x hx
     omega
theorem bag_tags {b : LF} (h : bagOk b = true) : ∀ x ∈ b, 32 ≤ x.1 ∧ x.1 ≤ 255 ∧ x.2.length ≤ 4096 := by
 unfold bagOk at h
 split at h
 ·cases h
 ·exact bagGo_tag b 32 0 h (by omega)
theorem recFit_iff (r : Int × Int × Int × (Int × Int) × Bool × LF) : recFit r = true ↔ recOkT r = true ∧ smallBag r.2.2.2.2.2 = true := by unfold recFit; simp
theorem inner_le {r : Int × Int × Int × (Int × Int) × Bool × LF} (h : recOkT r = true) : (innerL r).length ≤ 4212 := by
 have := inner_len r
 have := bagOk_len (recOk_facts h).2.2.2.2.2.2.2.1
 omega
theorem recB2_len (r : Int × Int × Int × (Int × Int) × Bool × LF) : ((recB2 r).length : Int) = recLen r := by
 unfold recB2 recLen
 rw [fieldB_len]
 have := inner_len r
 dsimp only
 omega
theorem fits_four {v : Int} (h0 : 0 ≤ v) (h1 : v ≤ 4294967295) : fitsF 4 v = true := (fitsF_iff 4 v).2 ⟨by omega, by omega, h0, by simp; omega⟩
theorem recFit2_iff (r : Int × Int × Int × (Int × Int) × Bool × LF) : recFit2 r = true ↔ recFit r = true ∧ r.2.1 ≤ 4294967295 := by unfold recFit2; simp
theorem Within2.pure (id inc st lo hi : Int) (cut : Bool) (bag : LF) (hl : recFit2 (id, inc, st, (lo, hi), cut, bag) = true) :
  Within2.f 0 id inc st lo hi cut bag = some (withinL (id, inc, st, (lo, hi), cut, bag)) := by
 obtain ⟨hf, hi4⟩ := (recFit2_iff _).1 hl
 obtain ⟨hok, hs⟩ := (recFit_iff _).1 hf
 obtain ⟨f1, f2, f3, f4, f5, f6, f7, f8, _⟩ := recOk_facts hok
 have f9 := (okS_iff _ _).1 f7
 dsimp only at f1 f2 f3 f4 f5 f6 f7 f8 f9 hi4
 obtain ⟨b1, b2, b3⟩ := bagOk_len f8
 unfold Within2.f Within2.b
 rw [code_eq f7]
 cases cut
 ·rw [if_neg (by simp), if_pos (fits_two f1 (by omega)), if_pos (fits_four f3 hi4), if_pos (fits_byte f5 (by omega)), if_pos (fits_byte (by omega) (by omega)), if_pos (by simp [lim]; omega)]
  rfl
 ·have e' : IntKind.wrap .i64 (st + 128) = st + 128 := wrap_small _ (by omega) (by omega)
  rw [if_pos rfl, e', if_pos (fits_two f1 (by omega)), if_pos (fits_four f3 hi4), if_pos (fits_byte (by omega) (by omega)), if_pos (fits_byte (by omega) (by omega)), if_pos (by simp [lim]; omega)]
  rfl
theorem joinOk_iff (l : LF) : joinOk l = true ↔ l.length ≤ 300 ∧ ∀ x ∈ l, (0 ≤ x.1 ∧ x.1 ≤ 255) ∧ x.2.length ≤ 65535 := by
 unfold joinOk
 simp only [Bool.and_eq_true, decide_eq_true_eq, List.all_eq_true, tagOk_iff]
theorem sw8 : IntKind.wrap .i64 ((8 : Int) - IntKind.wrap .i64 ((8 : Int) * 0)) = 8 := rfl
theorem sw0 : IntKind.wrap .i64 ((8 : Int) - IntKind.wrap .i64 ((8 : Int) * 1)) = 0 := rfl
theorem wi1 : IntKind.wrap .i64 ((0 : Int) + 1) = 1 := rfl
theorem wi2 : IntKind.wrap .i64 ((1 : Int) + 1) = 2 := rfl
theorem sb8 (n : Nat) (h : n ≤ 65535) : IntKind.wrap .u8 (Int.fdiv (n : Int) ((2 : Int) ^ 8)) = ((n / 256 : Nat) : Int) := by
 rw [wrap8, Int.fdiv_eq_ediv_of_nonneg _ (by decide), show (2 : Int) ^ 8 = 256 from rfl]; omega
theorem sb0 (n : Nat) : IntKind.wrap .u8 (Int.fdiv (n : Int) ((2 : Int) ^ 0)) = ((n % 256 : Nat) : Int) := by
 rw [wrap8, Int.fdiv_eq_ediv_of_nonneg _ (by decide), show (2 : Int) ^ 0 = 1 from rfl]; omega
theorem Join.step (fuel : Nat) (l : LF) (A3 : Int → Int → List Int → Option (List Int × Int)) (m : Nat) (x4 x5 : Int) (acc : List Int) (t : Int) (d : List Int) (hd : d.length ≤ 65535) (ha : acc.length < 100000000) :
  Join.l11 fuel l A3 (m + 3) x4 x5 0 acc t d = A3 x4 (IntKind.wrap .i64 (x5 + 1)) (((acc ++ [((d.length / 256 : Nat) : Int)]) ++ [((d.length % 256 : Nat) : Int)]) ++ d) := by
 rw [Join.l11]; unfold Join.b11
 rw [if_pos (by decide), sw8, if_neg (by decide), show Min.min (Int.toNat 8) (IntKind.bits .i64) = 8 from rfl, sb8 d.length hd, if_pos (by simp [lim]; omega), wi1]
 rw [Join.l11]; unfold Join.b11
 rw [if_pos (by decide), sw0, if_neg (by decide), show Min.min (Int.toNat 0) (IntKind.bits .i64) = 0 from rfl, sb0 d.length, if_pos (by simp [lim]; omega), wi2]
 rw [Join.l11]; unfold Join.b11
 rw [if_neg (by decide), if_pos (by simp [lim]; omega)]
theorem Join.loop (m : Nat) (l : LF) (hb : l.length ≤ 300) (ht : ∀ x ∈ l, (0 ≤ x.1 ∧ x.1 ≤ 255) ∧ x.2.length ≤ 65535) : ∀ (k i : Nat) (acc : List Int), i ≤ l.length → l.length - i < k → acc.length + 70000 * (l.length - i) < 50000000 →
  Join.l3 (m + 3) l k (l.length : Int) (i : Int) acc = some (acc ++ (l.drop i).flatMap fieldB, 0) := by
 intro k
 induction k with
 | zero => intro i acc h1 h2; omega
 | succ k ih =>
  intro i acc h1 h2 h3
  rw [Join.l3]
  unfold Join.b3
  by_cases hi' : i < l.length
  ·rw [if_pos (by simp; omega), idx_at, List.getElem?_eq_getElem hi']
   dsimp only
   have hx := ht l[i] (List.getElem_mem hi')
   rw [List.drop_eq_getElem_cons hi', List.flatMap_cons]
   generalize l[i] = x at hx ⊢
   rw [if_neg (by simp; omega), if_neg (by simp; omega), if_neg (by simp; omega), if_pos (by simp [lim]; omega), tag8 hx.1, Join.step (m + 3) l _ m _ _ _ _ _ hx.2 (by simp; omega), wrap_small ((i : Int) + 1) (by omega) (by omega)]
   have := ih (i + 1) ((((acc ++ [x.1]) ++ [((x.2.length / 256 : Nat) : Int)]) ++ [((x.2.length % 256 : Nat) : Int)]) ++ x.2) (by omega) (by omega) (by simp; omega)
   rw [show ((i + 1 : Nat) : Int) = (i : Int) + 1 from by omega] at this
   rw [this]
   simp [fieldB]
  ·rw [if_neg (by simp; omega), List.drop_of_length_le (by omega)]
   simp
theorem Join.pure (l : LF) (hl : joinOk l = true) : Join.f (l.length + 3) l = some (l.flatMap fieldB, 0) := by
 obtain ⟨h1, h2⟩ := (joinOk_iff l).1 hl
 unfold Join.f Join.b
 have := Join.loop l.length l h1 h2 (l.length + 3) 0 [] (by omega) (by omega) (by simp; omega)
 rw [show ((0 : Nat) : Int) = 0 from rfl] at this
 rw [this]
 simp
theorem within_join {r : Int × Int × Int × (Int × Int) × Bool × LF} (h : recOkT r = true) : joinOk (withinL r) = true := by
 have f8 := (recOk_facts h).2.2.2.2.2.2.2.1
 have b1 := (bagOk_len f8).1
 refine (joinOk_iff _).2 ⟨by unfold withinL; simp; omega, ?_⟩
 intro x hx
 unfold withinL at hx
 rcases List.mem_append.1 hx with hx | hx
 ·simp at hx
  rcases hx with rfl | rfl | rfl | rfl <;> simp [be_length]
 ·have := bag_tags f8 x hx
  omega
theorem within_flat (r : Int × Int × Int × (Int × Int) × Bool × LF) : (withinL r).flatMap fieldB = innerL r := by
 unfold withinL innerL
 simp [fieldB, itB, be_length]
theorem fit2_all : ∀ (l : LR), fit2Go l = true → ∀ r ∈ l, r.2.1 ≤ 4294967295
 | [], h, r, hr => by simp at hr
 | x :: l, h, r, hr => by
  unfold fit2Go at h
  split at h
  ·cases h
  ·rename_i hc
   rcases List.mem_cons.1 hr with rfl | hr
   ·simpa using hc
   ·exact fit2_all l h r hr
theorem fits2_facts {kind from0 inc lo hi seq target life epoch base : Int} {recs : LR} (h : fits2 kind from0 inc lo hi seq target life epoch base recs = true) :
  validF kind from0 inc lo hi seq target life epoch base recs = true ∧ kind ≠ 9 ∧ epoch = 0 ∧ size2 kind from0 inc lo hi seq target life epoch base recs ≤ 65499 ∧ fit2Go recs = true := by
 unfold fits2 at h
 split at h
 ·cases h
 ·rename_i hc
  simp at hc
  exact ⟨hc.1, hc.2.1, hc.2.2.1, hc.2.2.2, h⟩
theorem Encode2.loop (fuel : Nat) (kind from0 inc lo hi seq target life epoch base : Int) (recs : LR) (hr : ∀ r ∈ recs, recFit2 r = true) (hlen : recs.length ≤ 255) : ∀ (k i : Nat) (acc : LF), i ≤ recs.length → recs.length - i < k → acc.length + (recs.length - i) ≤ 300 → (∀ x ∈ acc, (0 ≤ x.1 ∧ x.1 ≤ 255) ∧ x.2.length ≤ 65535) →
  Encode2.l11 fuel kind from0 inc lo hi seq target life epoch base recs k (recs.length : Int) (i : Int) acc = some (acc.flatMap fieldB ++ (recs.drop i).flatMap recB2, 0) := by
 intro k
 induction k with
 | zero => intro i acc h1 h2; omega
 | succ k ih =>
  intro i acc h1 h2 h3 h4
  rw [Encode2.l11]
  unfold Encode2.b11
  by_cases hi' : i < recs.length
  ·rw [if_pos (by simp; omega), idx_at, List.getElem?_eq_getElem hi']
   dsimp only
   have hf := hr recs[i] (List.getElem_mem hi')
   rw [List.drop_eq_getElem_cons hi', List.flatMap_cons]
   generalize recs[i] = r at hf ⊢
   have hok := ((recFit_iff r).1 ((recFit2_iff r).1 hf).1).1
   simp only [rec_eta]
   rw [if_pos hf, if_pos (within_join hok), within_flat, if_pos (by simp [lim]; omega), wrap_small ((i : Int) + 1) (by omega) (by omega)]
   have := ih (i + 1) (acc ++ [(7, innerL r)]) (by omega) (by omega) (by simp; omega) (by
    intro x hx
    rcases List.mem_append.1 hx with hx | hx
    ·exact h4 x hx
    ·have hq := inner_le hok
     simp at hx
     subst hx
     exact ⟨by simp, by simp; omega⟩)
   rw [show ((i + 1 : Nat) : Int) = (i : Int) + 1 from by omega] at this
   rw [this]
   simp [recB2]
  ·rw [if_neg (by simp; omega), List.drop_of_length_le (by omega), if_pos ((joinOk_iff acc).2 ⟨by omega, h4⟩)]
   simp
theorem Encode2.pure (kind from0 inc lo hi seq target life epoch base : Int) (recs : LR) (hl : smallRecs recs = true) :
  Encode2.f (recs.length + 1) kind from0 inc lo hi seq target life epoch base recs = some ((enc2 kind from0 inc lo hi seq target life epoch base recs).1, (enc2 kind from0 inc lo hi seq target life epoch base recs).2) := by
 unfold Encode2.f Encode2.b enc2
 rw [if_pos hl]
 cases hv0 : validF kind from0 inc lo hi seq target life epoch base recs
 ·rfl
 rw [if_neg (by simp), if_pos hl]
 cases hf : fits2 kind from0 inc lo hi seq target life epoch base recs
 ·rfl
 obtain ⟨hv, w1, w2, w3, w4⟩ := fits2_facts hf
 obtain ⟨v1, v2, v3, v4, v5, v6, v7, v8, v9, v10, v11, _, v12, v13⟩ := valid_facts hv
 have v14 := (okS_iff _ _).1 v7
 have hs := ((smallRecs_iff recs).1 hl).2
 have h4 := fit2_all recs w4
 have hlp := fun acc ha hb => Encode2.loop (recs.length + 1) kind from0 inc lo hi seq target life epoch base recs (fun r hr => (recFit2_iff r).2 ⟨(recFit_iff r).2 ⟨v13 r hr, hs r hr⟩, h4 r hr⟩) v12 (recs.length + 1) 0 acc (by omega) (by omega) ha hb
 rw [show ((0 : Nat) : Int) = 0 from rfl] at hlp
 simp only [List.drop_zero] at hlp
 have n5 : fitsF 2 seq = true := fits_two v8 (by omega)
 have n6 : fitsF 2 target = true := fits_two v10 (by omega)
 rw [if_neg (by simp), code_eq v7, if_pos (fits_byte (by omega) (by omega)), if_pos (fits_two v3 (by omega)), if_pos (fits_six v5 (by omega)), if_pos (fits_byte (by omega) (by omega))]
 cases h5 : hasF kind 0 <;> cases h6 : hasF kind 1
 ·rw [if_neg (by simp), if_neg (by simp), hlp _ (by simp; omega) (by simp [be_length])]
  simp [body2, itB, fieldB, be_length, h5, h6, List.append_assoc]
 ·rw [if_neg (by simp), if_pos rfl, if_pos n6, hlp _ (by simp; omega) (by simp [be_length])]
  simp [body2, itB, fieldB, be_length, h5, h6, List.append_assoc]
 ·rw [if_pos rfl, if_pos n5, if_neg (by simp), hlp _ (by simp; omega) (by simp [be_length])]
  simp [body2, itB, fieldB, be_length, h5, h6, List.append_assoc]
 ·rw [if_pos rfl, if_pos n5, if_pos rfl, if_pos n6, hlp _ (by simp; omega) (by simp [be_length])]
  simp [body2, itB, fieldB, be_length, h5, h6, List.append_assoc]
theorem s_within2_det : SumDet s_within2 := sdet fun _ _ _ _ => by
 unfold s_within2
 simp only
 split
 ·first | rfl | (split <;> rfl)
 ·rfl
theorem s_within2_ok : SumOk Tryz.prog 90 s_within2 := by
 have hE : EnvOk Tryz.prog Within2_E := env_ok (l := [(88, s_tnum), (80, s_code)]) th_ok any_ok ⟨⟨s_tnum_ok, s_tnum_det⟩, ⟨s_code_ok, s_code_det⟩, trivial⟩ _
 refine sum_ok hE Tryz.func90 rfl (by kernel_rfl) s_within2 [.dat (.sl (.pair tQi (.sl (.int .u8)))) false] Within2.k ?_
 intro R avs objs κ r h
 unfold s_within2 at h
 simp only at h
 split at h
 ·rename_i rid rinc rst rlo rhi rcut rbag
  split at h
  case isFalse => cases h
  rename_i hl
  refine ⟨0, _, _, _, (Within2.eq (0) rid rinc rst rlo rhi rcut rbag).trans (Within2.pure rid rinc rst rlo rhi rcut rbag hl), ?_, h⟩
  intro rs ros hk
  unfold Within2.k at hk
  split at hk
  ·first | (cases hk; exact ⟨rfl, rfl⟩) | (rw [← Option.some.inj hk]; exact ⟨rfl, rfl⟩)
  ·cases hk
 ·cases h
theorem s_join_det : SumDet s_join := sdet fun _ _ _ _ => by
 unfold s_join
 simp only
 split
 ·first | rfl | (split <;> rfl)
 ·rfl
theorem s_join_ok : SumOk Tryz.prog 89 s_join := by
 have hE : EnvOk Tryz.prog Join_E := env_ok (l := []) th_ok any_ok trivial _
 refine sum_ok hE Tryz.func89 rfl (by kernel_rfl) s_join [.dat (.sl (.int .u8)) false, .raw] Join.k ?_
 intro R avs objs κ r h
 unfold s_join at h
 simp only at h
 split at h
 ·rename_i l
  split at h
  case isFalse => cases h
  rename_i hl
  refine ⟨l.length + 3, _, _, _, (Join.eq (l.length + 3) l).trans (Join.pure l hl), ?_, h⟩
  intro rs ros hk
  unfold Join.k at hk
  split at hk
  ·first | (cases hk; exact ⟨rfl, rfl⟩) | (rw [← Option.some.inj hk]; exact ⟨rfl, rfl⟩)
  ·cases hk
 ·cases h
theorem s_enc2_det : SumDet s_enc2 := sdet fun _ _ _ _ => by
 unfold s_enc2
 simp only
 split
 ·first | rfl | (split <;> rfl)
 ·rfl
theorem s_enc2_ok : SumOk Tryz.prog 61 s_enc2 := by
 have hE : EnvOk Tryz.prog Encode2_E := env_ok (l := [(76, s_valid), (87, s_fits2), (88, s_tnum), (80, s_code), (41, s_has), (90, s_within2), (89, s_join)]) th_ok any_ok ⟨⟨s_valid_ok, s_valid_det⟩, ⟨s_fits2_ok, s_fits2_det⟩, ⟨s_tnum_ok, s_tnum_det⟩, ⟨s_code_ok, s_code_det⟩, ⟨s_has_ok, s_has_det⟩, ⟨s_within2_ok, s_within2_det⟩, ⟨s_join_ok, s_join_det⟩, trivial⟩ _
 refine sum_ok hE Tryz.func61 rfl (by kernel_rfl) s_enc2 [.dat (.sl (.int .u8)) false, .raw] Encode2.k ?_
 intro R avs objs κ r h
 unfold s_enc2 at h
 simp only at h
 split at h
 ·rename_i mkind mfrom0 minc mlo mhi mseq mtarget mlife mepoch mbase mrecs
  split at h
  case isFalse => cases h
  rename_i hl
  refine ⟨mrecs.length + 1, _, _, _, (Encode2.eq (mrecs.length + 1) mkind mfrom0 minc mlo mhi mseq mtarget mlife mepoch mbase mrecs).trans (Encode2.pure mkind mfrom0 minc mlo mhi mseq mtarget mlife mepoch mbase mrecs hl), ?_, h⟩
  intro rs ros hk
  unfold Encode2.k at hk
  split at hk
  ·first | (cases hk; exact ⟨rfl, rfl⟩) | (rw [← Option.some.inj hk]; exact ⟨rfl, rfl⟩)
  ·cases hk
 ·cases h
theorem flatR_len : ∀ (l : LR), (((l.flatMap recB2).length : Nat) : Int) = recsLen l
 | [] => rfl
 | r :: l => by
  have h1 := flatR_len l
  have h2 := recB2_len r
  rw [List.flatMap_cons, List.length_append, recsLen]
  omega
theorem size_body {kind from0 inc lo hi seq target life epoch base : Int} {recs : LR} (hv : validF kind from0 inc lo hi seq target life epoch base recs = true) :
  size2 kind from0 inc lo hi seq target life epoch base recs = ((body2 kind from0 inc lo hi seq target recs).length : Int) := by
 have h := flatR_len recs
 unfold size2 body2
 rw [hv, if_neg (by simp)]
 generalize recs.flatMap recB2 = L at h ⊢
 simp only [List.length_append, itB_len]
 cases hasF kind 0 <;> cases hasF kind 1 <;> simp [itB_len] <;> omega
theorem fits2_same (kind from0 inc lo hi seq target life epoch base : Int) (recs : LR) : fits2 kind from0 inc lo hi seq target life epoch base recs = fits13 kind from0 inc lo hi seq target life epoch base recs := by
 unfold fits2 fits13
 cases hv : validF kind from0 inc lo hi seq target life epoch base recs
 ·rfl
 ·rw [size_body hv]
  generalize hn : ((body2 kind from0 inc lo hi seq target recs).length : Int) = n
  by_cases he : epoch = 0
  ·subst he
   obtain ⟨_, _, _, _, _, _, _, _, _, _, _, hl, _⟩ := valid_facts hv
   obtain ⟨rfl, rfl⟩ := lives_zero hl
   by_cases h9 : kind = 9
   ·simp [h9]
   ·by_cases hs : n > 65499
    ·simp [h9, hs]
    ·simp [h9, hs]
     omega
  ·by_cases h9 : kind = 9
   ·simp [h9]
   ·simp [he, h9]
def inS (l : List Int) : Bool := inB l && decide (l.length < 1000000000)
def n7 (n : Int) : Bool := decide (1 ≤ n) && decide (n ≤ 7)
def fldsOk (l : LF) : Bool := decide (l.length < 1099511600) && l.all fun x => inS x.2
def valF (x : (Int × List Int)) (n : Int) : Int × Bool := if ((x.2.length : Int) == n) = true then (numB x.2, true) else (0, false)
def takeN (l : LF) (bad : Bool) (t n : Int) : Int × LF × Bool :=
 match l with
 | [] => (0, [], true)
 | x :: m => if bad || x.1 != t then (0, x :: m, true) else ((valF x n).1, m, !(valF x n).2)
def spanN (l : LF) (bad : Bool) (t : Int) : Int × Int × LF × Bool :=
 ((ofGo allF (takeN l bad t 1).1).1, (ofGo allF (takeN l bad t 1).1).2.1, (takeN l bad t 1).2.1, (takeN l bad t 1).2.2)
def splitGo : Nat → List Int → Option LF
 | _, [] => some []
 | k + 1, t :: h :: w :: m => if (h * 256 + w) > (m.length : Int) then none else (splitGo k (m.drop (h * 256 + w).toNat)).map fun r => (t, m.take (h * 256 + w).toNat) :: r
 | _, _ => none
def splitF (l : List Int) : LF × Int := match splitGo l.length l with | some r => (r, 0) | none => ([], 2)
def s_take : Den.Sum := ⟨[.raw, .raw], fun args objs κ => match args, objs with
 | [.ptr 0 0, .d (.int .i64) n], [.box [.d (.sl (.int .u8)) l, .d (.int .i64) a, .d .bool bad]] => if atOk l a = true then κ [.d (.sl (.int .u8)) (stepF l n a bad).1] [.box [.d (.sl (.int .u8)) l, .d (.int .i64) (stepF l n a bad).2.2.1, .d .bool (stepF l n a bad).2.2.2]] else none
 | _, _ => none⟩
def s_takeb : Den.Sum := ⟨[.raw, .raw], fun args objs κ => match args, objs with
 | [.ptr 0 0, .d (.int .i64) n], [.box [.d (.sl (.int .u8)) l, .d (.int .i64) a, .d .bool bad]] => if atOk l a = true then (match veil (some (stepF l n a bad)) with | none => none | some y => κ [.d (.sl (.int .u8)) y.1] [.box [.d (.sl (.int .u8)) l, .d (.int .i64) y.2.2.1, .d .bool y.2.2.2]]) else none
 | _, _ => none⟩
def s_split : Den.Sum := ⟨[.dat (.sl (.int .u8)) false], fun args objs κ => match args, objs with
 | [.d (.sl (.int .u8)) l], [] => if inS l = true then κ [.d (.sl (.pair (.int .i64) (.sl (.int .u8)))) (splitF l).1, .d (.int .i64) (splitF l).2] [] else none
 | _, _ => none⟩
def s_splitb : Den.Sum := ⟨[.dat (.sl (.int .u8)) false], fun args objs κ => match args, objs with
 | [.d (.sl (.int .u8)) l], [] => if inS l = true then (match veil (some (splitF l)) with | none => none | some y => κ [.d (.sl (.pair (.int .i64) (.sl (.int .u8)))) y.1, .d (.int .i64) y.2] []) else none
 | _, _ => none⟩
def s_value : Den.Sum := ⟨[.dat (.pair tQi (.sl (.int .u8))) true, .raw], fun args objs κ => match args, objs with
 | [.agg [.d (.int .i64) t, .d (.sl (.int .u8)) d], .d (.int .i64) n], [] => if (inB d && n7 n) = true then κ [.d (.int .i64) (valF (t, d) n).1, .d .bool (valF (t, d) n).2] [] else none
 | _, _ => none⟩
def s_inum : Den.Sum := ⟨[.raw, .raw, .raw], fun args objs κ => match args, objs with
 | [.ptr 0 0, .d (.int .i64) t, .d (.int .i64) n], [.box [.d (.sl (.pair (.int .i64) (.sl (.int .u8)))) l, .d .bool bad]] => if (fldsOk l && n7 n) = true then κ [.d (.int .i64) (takeN l bad t n).1] [.box [.d (.sl (.pair (.int .i64) (.sl (.int .u8)))) (takeN l bad t n).2.1, .d .bool (takeN l bad t n).2.2]] else none
 | _, _ => none⟩
def s_inumb : Den.Sum := ⟨[.raw, .raw, .raw], fun args objs κ => match args, objs with
 | [.ptr 0 0, .d (.int .i64) t, .d (.int .i64) n], [.box [.d (.sl (.pair (.int .i64) (.sl (.int .u8)))) l, .d .bool bad]] => if (fldsOk l && n7 n) = true then (match veil (some (takeN l bad t n)) with | none => none | some y => κ [.d (.int .i64) y.1] [.box [.d (.sl (.pair (.int .i64) (.sl (.int .u8)))) y.2.1, .d .bool y.2.2]]) else none
 | _, _ => none⟩
def s_ispan : Den.Sum := ⟨[.raw, .raw], fun args objs κ => match args, objs with
 | [.ptr 0 0, .d (.int .i64) t], [.box [.d (.sl (.pair (.int .i64) (.sl (.int .u8)))) l, .d .bool bad]] => if fldsOk l = true then κ [.agg [.d (.int .i64) (spanN l bad t).1, .d (.int .i64) (spanN l bad t).2.1]] [.box [.d (.sl (.pair (.int .i64) (.sl (.int .u8)))) (spanN l bad t).2.2.1, .d .bool (spanN l bad t).2.2.2]] else none
 | _, _ => none⟩
def s_ispanb : Den.Sum := ⟨[.raw, .raw], fun args objs κ => match args, objs with
 | [.ptr 0 0, .d (.int .i64) t], [.box [.d (.sl (.pair (.int .i64) (.sl (.int .u8)))) l, .d .bool bad]] => if fldsOk l = true then (match veil (some (spanN l bad t)) with | none => none | some y => κ [.agg [.d (.int .i64) y.1, .d (.int .i64) y.2.1]] [.box [.d (.sl (.pair (.int .i64) (.sl (.int .u8)))) y.2.2.1, .d .bool y.2.2.2]]) else none
 | _, _ => none⟩
def RTake_E : Env := ⟨th, gam [(73, s_step)], fun i => ⟨[], [], []⟩⟩
def RTake.k (rs : List AV) (os : List Den.Obj) : Option ((List Int) × (List Int) × Int × Bool) :=
 match rs, os with
 | [.d (.sl (.int .u8)) r0], [.box [.d (.sl (.int .u8)) r1, .d (.int .i64) r2, .d .bool r3]] => some (r0, r1, r2, r3)
 | _, _ => none
def RTake.b (n : Int) (l : List Int) (a : Int) (bad : Bool) : Option ((List Int) × (List Int) × Int × Bool) :=
 (if (atOk l a) then (if (!(stepF l n a bad).2.1) then some (([] : List Int), l, (stepF l n a bad).2.2.1, (stepF l n a bad).2.2.2) else (if (((0 : Int) ≤ ((((List.length (stepF l n a bad).1)) : Nat) : Int)) ∧ ((((((List.length (stepF l n a bad).1)) : Nat) : Int) ≤ ((((List.length (stepF l n a bad).1)) : Nat) : Int)) ∧ (((((((List.length (stepF l n a bad).1)) : Nat) : Int) * ((((1 : Nat)) : Nat) : Int)) ≤ (1099511627776 : Int)) ∧ (((((List.length (stepF l n a bad).1)) : Nat) : Int) ≤ (1099511627776 : Int))))) then (if ((false = false) ∧ ((List.length (stepF l n a bad).1) ≤ (List.length (List.replicate (Int.toNat ((((List.length (stepF l n a bad).1)) : Nat) : Int)) (zeroI (Go.Den.Ty.int .u8)))))) then some (((stepF l n a bad).1 ++ (List.drop (List.length (stepF l n a bad).1) (List.replicate (Int.toNat ((((List.length (stepF l n a bad).1)) : Nat) : Int)) (zeroI (Go.Den.Ty.int .u8))))), l, (stepF l n a bad).2.2.1, (stepF l n a bad).2.2.2) else none) else none)) else none)
def RTake.f (fuel : Nat) (n : Int) (l : List Int) (a : Int) (bad : Bool) : Option ((List Int) × (List Int) × Int × Bool) := RTake.b n l a bad
theorem RTake.eq (fuel : Nat) (n : Int) (l : List Int) (a : Int) (bad : Bool) : (denF RTake_E loopN fuel Tryz.f53 [.dat (.sl (.int .u8)) false] [.ptr 0 0, .d tQi n] [.box [.d (.sl (.int .u8)) l, .d tQi a, .d .bool bad]] RTake.k) = RTake.f fuel n l a bad := by
 kernel_rfl
def Split_E : Env := ⟨th, gam [(51, s_read), (113, s_left), (52, s_rnumb), (53, s_takeb), (84, s_bad)], fun i => if i = 3 then ⟨[4, 5], [(4, 86, (.pair tQi (.sl (.int .u8))))], []⟩ else ⟨[], [], []⟩⟩
def Split.k (rs : List AV) (os : List Den.Obj) : Option (LF × Int) :=
 match rs, os with
 | [.d (.sl (.pair (.int .i64) (.sl (.int .u8)))) r0, .d (.int .i64) r1], [] => some (r0, r1)
 | _, _ => none
def Split.s3 (l : List Int) (x0 : LF) (x1 : Int) (x2 : Bool) : St := ⟨[dD, dD, dD, dD, .row 64, .ptr 65 0, dD, dD, dD, dD, dD, dD, dD, dD, dD, dD, dD, dD, dD, dD, dD, dD, dD, dD, dD, dD, .dead], ofL [(64, .row 86 (.pair tQi (.sl (.int .u8))) x0 false), (65, .box [.d (.sl (.int .u8)) (l), .d tQi x1, .d .bool x2])], 0⟩
def Split.p3 (fuel : Nat) (l : List Int) (k : Nat) := fun x0 x1 x2 => lp Split_E fuel Tryz.f91 [.dat (.sl (.pair tQi (.sl (.int .u8)))) false, .raw] 0 Split.k 3 [] k (Split.s3 l x0 x1 x2)
def Split.b3 (l : List Int) (A3 : LF → Int → Bool → Option (LF × Int)) (x0 : LF) (x1 : Int) (x2 : Bool) : Option (LF × Int) :=
 (if (atOk l x1) then (if (decide ((leftF l x1 x2) > (0 : Int))) then (if (atOk l x1) then (match (veil (Option.some (readF l (1 : Int) x1 x2))) with | none => none | some y3 => (if (atOk l y3.2.1) then (match (veil (Option.some (readF l (2 : Int) y3.2.1 y3.2.2))) with | none => none | some y4 => (if (atOk l y4.2.1) then (match (veil (Option.some (stepF l y4.1 y4.2.1 y4.2.2))) with | none => none | some y5 => (if y5.2.2.2 then some (([] : LF), (2 : Int)) else (if ((((List.length x0) + (List.length ((y3.1, y5.1) :: ([] : LF)))) * (32 : Nat)) ≤ lim) then A3 (x0 ++ ((y3.1, y5.1) :: ([] : LF))) y5.2.2.1 y5.2.2.2 else none))) else none)) else none)) else none) else some (x0, (0 : Int))) else none)
def Split.l3 (fuel : Nat) (l : List Int) : Nat → LF → Int → Bool → Option (LF × Int)
 | 0, _, _, _ => none
 | k + 1, x0, x1, x2 => Split.b3 l (Split.l3 fuel l k) x0 x1 x2
def Split.b (l : List Int) (E3 : LF → Int → Bool → Option (LF × Int)) : Option (LF × Int) :=
 (if (inB l) then E3 ([] : LF) 0 false else none)
def Split.f (fuel : Nat) (l : List Int) : Option (LF × Int) := Split.b l (Split.l3 fuel l fuel)
theorem Split.l3_eq (fuel : Nat) (l : List Int) : ∀ k : Nat, Split.p3 fuel l k = Split.l3 fuel l k
 | 0 => by kernel_rfl
 | k + 1 => by
  refine Eq.trans (b := Split.b3 l (Split.p3 fuel l k)) (by kernel_rfl) ?_
  rw [Split.l3_eq fuel l k]
  kernel_rfl
theorem Split.eq (fuel : Nat) (l : List Int) : (denF Split_E loopN fuel Tryz.f91 [.dat (.sl (.pair tQi (.sl (.int .u8)))) false, .raw] [.d (.sl (.int .u8)) l] [] Split.k) = Split.f fuel l := by
 refine Eq.trans (b := Split.b l (Split.p3 fuel l fuel)) (by kernel_rfl) ?_
 rw [Split.l3_eq fuel l fuel]
 kernel_rfl
def Value_E : Env := ⟨th, gam [(51, s_read), (52, s_rnum), (86, s_done)], fun i => ⟨[], [], []⟩⟩
def Value.k (rs : List AV) (os : List Den.Obj) : Option (Int × Bool) :=
 match rs, os with
 | [.d (.int .i64) r0, .d .bool r1], [] => some (r0, r1)
 | _, _ => none
def Value.b (t : Int) (d : List Int) (n : Int) : Option (Int × Bool) :=
 (if (inB d) then (if (atOk d 0) then (if (atOk d (readF d n 0 false).2.1) then (if (!((!(readF d n 0 false).2.2) && ((leftF d (readF d n 0 false).2.1 (readF d n 0 false).2.2) == (0 : Int)))) then some ((0 : Int), false) else some ((readF d n 0 false).1, true)) else none) else none) else none)
def Value.f (fuel : Nat) (t : Int) (d : List Int) (n : Int) : Option (Int × Bool) := Value.b t d n
theorem Value.eq (fuel : Nat) (t : Int) (d : List Int) (n : Int) : (denF Value_E loopN fuel Tryz.f115 [.raw, .raw] [.agg [.d tQi t, .d (.sl (.int .u8)) d], .d tQi n] [] Value.k) = Value.f fuel t d n := by
 kernel_rfl
def INum_E : Env := ⟨th, gam [(115, s_value)], fun i => ⟨[], [], []⟩⟩
def INum.k (rs : List AV) (os : List Den.Obj) : Option (Int × LF × Bool) :=
 match rs, os with
 | [.d (.int .i64) r0], [.box [.d (.sl (.pair (.int .i64) (.sl (.int .u8)))) r1, .d .bool r2]] => some (r0, r1, r2)
 | _, _ => none
def INum.b (t n : Int) (l : LF) (bad : Bool) : Option (Int × LF × Bool) :=
 (if bad then some ((0 : Int), l, true) else (if (((((List.length l)) : Nat) : Int) == (0 : Int)) then some ((0 : Int), l, true) else (match (idx l (0 : Int)) with | none => none | some y0 => (if (y0.1 != t) then some ((0 : Int), l, true) else (match (idx l (0 : Int)) with | none => none | some y1 => (if ((inB y1.2) && (n7 n)) then (if (((0 : Int) ≤ (1 : Int)) ∧ ((1 : Int) ≤ ((((List.length l)) : Nat) : Int))) then some ((valF (y1.1, y1.2) n).1, (List.drop (Int.toNat (1 : Int)) (List.take (List.length l) l)), (!(valF (y1.1, y1.2) n).2)) else none) else none))))))
def INum.f (fuel : Nat) (t n : Int) (l : LF) (bad : Bool) : Option (Int × LF × Bool) := INum.b t n l bad
theorem INum.eq (fuel : Nat) (t n : Int) (l : LF) (bad : Bool) : (denF INum_E loopN fuel Tryz.f92 [.raw] [.ptr 0 0, .d tQi t, .d tQi n] [.box [.d (.sl (.pair tQi (.sl (.int .u8)))) l, .d .bool bad]] INum.k) = INum.f fuel t n l bad := by
 kernel_rfl
def ISpan_E : Env := ⟨th, gam [(92, s_inumb), (83, s_sofb)], fun i => ⟨[], [], []⟩⟩
def ISpan.k (rs : List AV) (os : List Den.Obj) : Option (Int × Int × LF × Bool) :=
 match rs, os with
 | [.agg [.d (.int .i64) r0, .d (.int .i64) r1]], [.box [.d (.sl (.pair (.int .i64) (.sl (.int .u8)))) r2, .d .bool r3]] => some (r0, r1, r2, r3)
 | _, _ => none
def ISpan.b (t : Int) (l : LF) (bad : Bool) : Option (Int × Int × LF × Bool) :=
 (if ((fldsOk l) && (n7 (1 : Int))) then (match (veil (Option.some (takeN l bad t (1 : Int)))) with | none => none | some y0 => (match (veil (Option.some (ofGo allF y0.1))) with | none => none | some y1 => some (y1.1, y1.2.1, y0.2.1, y0.2.2))) else none)
def ISpan.f (fuel : Nat) (t : Int) (l : LF) (bad : Bool) : Option (Int × Int × LF × Bool) := ISpan.b t l bad
theorem ISpan.eq (fuel : Nat) (t : Int) (l : LF) (bad : Bool) : (denF ISpan_E loopN fuel Tryz.f94 [.dat (.pair tQi tQi) true] [.ptr 0 0, .d tQi t] [.box [.d (.sl (.pair tQi (.sl (.int .u8)))) l, .d .bool bad]] ISpan.k) = ISpan.f fuel t l bad := by
 kernel_rfl
theorem inS_iff (l : List Int) : inS l = true ↔ inB l = true ∧ l.length < 1000000000 := by unfold inS; simp
theorem n7_iff (n : Int) : n7 n = true ↔ 1 ≤ n ∧ n ≤ 7 := by unfold n7; simp
theorem fldsOk_iff (l : LF) : fldsOk l = true ↔ l.length < 1099511600 ∧ ∀ x ∈ l, inS x.2 = true := by unfold fldsOk; simp [List.all_eq_true]
theorem step_len (l : List Int) (n a : Int) (bad : Bool) : (stepF l n a bad).1.length ≤ l.length := by
 unfold stepF
 split
 ·simp
 ·split
  ·simp
  ·unfold seg; simp; omega
theorem step_none (l : List Int) (n a : Int) (bad : Bool) (h : (stepF l n a bad).2.1 = false) : (stepF l n a bad).1 = [] := by
 unfold stepF at h ⊢
 split
 ·rfl
 ·rename_i c
  rw [if_neg c] at h
  split
  ·rfl
  ·rename_i c2
   rw [if_neg c2] at h
   cases h
theorem RTake.pure (n : Int) (l : List Int) (a : Int) (bad : Bool) (hl : atOk l a = true) : RTake.f 0 n l a bad = some ((stepF l n a bad).1, l, (stepF l n a bad).2.2.1, (stepF l n a bad).2.2.2) := by
 unfold RTake.f RTake.b
 rw [if_pos hl]
 have h1 := step_len l n a bad
 obtain ⟨k1, k2, k3⟩ := (atOk_iff l a).1 hl
 have h2 := ((inB_iff l).1 k1).1
 cases hs : (stepF l n a bad).2.1
 ·rw [if_pos (by simp), step_none l n a bad hs]
 ·rw [if_neg (by simp), if_pos (by refine ⟨by omega, by omega, by omega, by omega⟩), if_pos (by simp)]
  simp
theorem Value.pure (t n : Int) (d : List Int) (hl : (inB d && n7 n) = true) : Value.f 0 t d n = some ((valF (t, d) n).1, (valF (t, d) n).2) := by
 rw [Bool.and_eq_true] at hl
 obtain ⟨hb, hn⟩ := hl
 obtain ⟨n1, n7⟩ := (n7_iff n).1 hn
 have h0 : atOk d 0 = true := (atOk_iff d 0).2 ⟨hb, by omega, by omega⟩
 have h1 := readF_at d n 0 false h0
 unfold Value.f Value.b
 rw [if_pos hb, if_pos h0, if_pos h1]
 have hn' : (if (decide (n < 1) || decide (n > 7)) = true then (-1 : Int) else n) = n := if_neg (by simp; omega)
 unfold valF
 by_cases c : n ≤ (d.length : Int)
 ·have hst : stepF d n 0 false = (seg d 0 n, true, 0 + n, false) := by
   unfold stepF
   rw [if_neg (by simp), if_neg (by simp; omega)]
  have hr : readF d n 0 false = (numB (seg d 0 n), 0 + n, false) := by
   unfold readF
   dsimp only
   rw [hn', hst]
   rfl
  rw [hr]
  by_cases c2 : (d.length : Int) = n
  ·have hseg : seg d 0 n = d := by
    unfold seg
    rw [show (0 : Int).toNat = 0 from rfl, List.drop_zero, List.take_of_length_le (by omega)]
   rw [hseg]
   simp [leftF, c2]
  ·have c3 : ¬ ((d.length : Int) - (0 + n) = 0) := by omega
   simp [leftF, c2]
   omega
 ·have hst : stepF d n 0 false = ([], false, 0, true) := by
   unfold stepF
   rw [if_neg (by simp), if_pos (by simp; omega)]
  have hr : readF d n 0 false = (0, 0, true) := by
   unfold readF
   dsimp only
   rw [hn', hst]
   rfl
  rw [hr]
  have c2 : ¬ ((d.length : Int) = n) := by omega
  simp [c2]
theorem idx_zero_cons {α : Type} (x : α) (m : List α) : idx (x :: m) (0 : Int) = some x := rfl
theorem INum.pure (t n : Int) (l : LF) (bad : Bool) (hl : (fldsOk l && n7 n) = true) : INum.f 0 t n l bad = some ((takeN l bad t n).1, (takeN l bad t n).2.1, (takeN l bad t n).2.2) := by
 rw [Bool.and_eq_true] at hl
 obtain ⟨hf, hn⟩ := hl
 obtain ⟨f1, f2⟩ := (fldsOk_iff l).1 hf
 unfold INum.f INum.b takeN
 cases bad
 ·cases l with
  | nil => rfl
  | cons x m =>
   have hx : inB x.2 = true := ((inS_iff _).1 (f2 x (by simp))).1
   rw [if_neg (by simp), if_neg (by simp; omega), idx_zero_cons]
   dsimp only
   by_cases c : x.1 = t
   ·rw [if_neg (by simpa using c), if_pos (by rw [hx, hn]; rfl), if_pos (by simp; omega), if_neg (by simp [c])]
    simp
   ·rw [if_pos (by simpa using c), if_pos (by simp [c])]
 ·rw [if_pos rfl]
  cases l <;> simp
theorem ISpan.pure (t : Int) (l : LF) (bad : Bool) (hl : fldsOk l = true) : ISpan.f 0 t l bad = some ((spanN l bad t).1, (spanN l bad t).2.1, (spanN l bad t).2.2.1, (spanN l bad t).2.2.2) := by
 unfold ISpan.f ISpan.b spanN
 simp only [veil_eq]
 rw [hl, if_pos (by rfl)]
theorem read_short (l : List Int) (n a : Int) (rest : List Int) (h1 : 1 ≤ n) (h7 : n ≤ 7) (h0 : 0 ≤ a) (hd : l.drop a.toNat = rest) (ha : a ≤ (l.length : Int)) (hr : (rest.length : Int) < n) : readF l n a false = (0, a, true) := by
 have hn' : (if (decide (n < 1) || decide (n > 7)) = true then (-1 : Int) else n) = n := if_neg (by simp; omega)
 have hlen : rest.length = l.length - a.toNat := by rw [← hd]; simp
 have hst : stepF l n a false = ([], false, a, true) := by
  unfold stepF
  rw [if_neg (by simp), if_pos (by simp; omega)]
 unfold readF
 dsimp only
 rw [hn', hst]
 rfl
theorem be2 (h w : Int) (h0 : 0 ≤ h) (h1 : h < 256) (w0 : 0 ≤ w) (w1 : w < 256) : be 2 (h * 256 + w) = [h, w] := by
 show be 1 ((h * 256 + w) / 256) ++ [(h * 256 + w) % 256] = [h, w]
 rw [show (h * 256 + w) / 256 = h from by omega, show (h * 256 + w) % 256 = w from by omega, be1 h h0 h1]
 rfl
theorem Split.loop (fuel : Nat) (l : List Int) (hl : inS l = true) : ∀ (k m : Nat) (a : Int) (acc : LF), atOk l a = true → l.length - a.toNat < k → l.length - a.toNat ≤ m → acc.length ≤ a.toNat →
  Split.l3 fuel l k acc a false = (match splitGo m (l.drop a.toNat) with | some r => some (acc ++ r, 0) | none => some ([], 2)) := by
 obtain ⟨hb, hlen⟩ := (inS_iff l).1 hl
 intro k
 induction k with
 | zero => intro m a acc h1 h2; omega
 | succ k ih =>
  intro m a acc h1 h2 h3 h4
  obtain ⟨k1, k2, k3⟩ := (atOk_iff l a).1 h1
  rw [Split.l3]
  unfold Split.b3
  simp only [veil_eq]
  rw [if_pos h1]
  generalize hd : l.drop a.toNat = rest
  have hrl : rest.length = l.length - a.toNat := by rw [← hd]; simp
  have hmem : ∀ c ∈ rest, 0 ≤ c ∧ c ≤ 255 := fun c hc => ((inB_iff l).1 hb).2 c (List.mem_of_mem_drop (hd ▸ hc))
  cases rest with
  | nil =>
   simp at hrl
   rw [if_neg (by simp [leftF]; omega)]
   cases m <;> simp [splitGo]
  | cons t rest =>
   simp at hrl
   obtain ⟨m, rfl⟩ : ∃ m', m = m' + 1 := ⟨m - 1, by omega⟩
   have ht := hmem t (by simp)
   rw [if_pos (by simp [leftF]; omega), if_pos h1]
   have hr1 := read_be l 1 a t rest h1 (by omega) (by omega) ht.1 (by simp; omega) (by rw [hd, n1, be1 t ht.1 (by omega)]; rfl)
   obtain ⟨r1, r2, r3⟩ := hr1
   rw [r1]
   dsimp only
   rw [if_pos r3]
   match rest, hrl, hmem, hd, r2 with
   | [], hrl, hmem, hd, r2 =>
    rw [read_short l 2 (a + 1) [] (by omega) (by omega) (by omega) r2 (by simp at hrl; omega) (by simp)]
    dsimp only
    rw [if_pos r3]
    simp [stepF, splitGo]
   | [h], hrl, hmem, hd, r2 =>
    rw [read_short l 2 (a + 1) [h] (by omega) (by omega) (by omega) r2 (by simp at hrl; omega) (by simp)]
    dsimp only
    rw [if_pos r3]
    simp [stepF, splitGo]
   | h :: w :: rest, hrl, hmem, hd, r2 =>
    have hh := hmem h (by simp)
    have hw := hmem w (by simp)
    simp at hrl
    obtain ⟨q1, q2, q3⟩ := read_be l 2 (a + 1) (h * 256 + w) rest r3 (by omega) (by omega) (by omega) (by simp; omega) (by rw [r2, n2, be2 h w hh.1 (by omega) hw.1 (by omega)]; rfl)
    rw [q1]
    dsimp only
    rw [if_pos q3]
    rw [splitGo]
    have e3 : a + 1 + 2 = a + 3 := by omega
    rw [e3] at q2 q3 ⊢
    by_cases c : h * 256 + w > (rest.length : Int)
    ·have hst : stepF l (h * 256 + w) (a + 3) false = ([], false, a + 3, true) := by
      unfold stepF
      rw [if_neg (by simp), if_pos (by simp; omega)]
     rw [hst, if_pos c]
     rfl
    ·have hst : stepF l (h * 256 + w) (a + 3) false = (seg l (a + 3) (h * 256 + w), true, a + 3 + (h * 256 + w), false) := by
      unfold stepF
      rw [if_neg (by simp), if_neg (by simp; omega)]
     have hseg : seg l (a + 3) (h * 256 + w) = rest.take (h * 256 + w).toNat := by
      unfold seg
      rw [List.drop_take, show (a + 3 + (h * 256 + w)).toNat = (a + 3).toNat + (h * 256 + w).toNat from by omega, Nat.add_sub_cancel_left, q2]
     have hdr : l.drop (a + 3 + (h * 256 + w)).toNat = rest.drop (h * 256 + w).toNat := by
      rw [show (a + 3 + (h * 256 + w)).toNat = (a + 3).toNat + (h * 256 + w).toNat from by omega, ← List.drop_drop, q2]
     rw [hst, if_neg c]
     dsimp only
     rw [if_neg (by simp), if_pos (by simp [lim]; omega)]
     rw [ih m (a + 3 + (h * 256 + w)) _ ((atOk_iff _ _).2 ⟨hb, by omega, by omega⟩) (by omega) (by omega) (by simp; omega), hdr, hseg]
     cases splitGo m (rest.drop (h * 256 + w).toNat) <;> simp
theorem Split.pure (l : List Int) (hl : inS l = true) : Split.f (l.length + 1) l = some ((splitF l).1, (splitF l).2) := by
 obtain ⟨hb, hlen⟩ := (inS_iff l).1 hl
 unfold Split.f Split.b
 rw [if_pos hb, Split.loop (l.length + 1) l hl (l.length + 1) l.length 0 [] ((atOk_iff _ _).2 ⟨hb, by omega, by omega⟩) (by simp) (by simp) (by simp)]
 unfold splitF
 rw [show (0 : Int).toNat = 0 from rfl, List.drop_zero]
 cases splitGo l.length l <;> rfl
theorem s_take_ok : SumOk Tryz.prog 53 s_take := by
 have hE : EnvOk Tryz.prog RTake_E := env_ok (l := [(73, s_step)]) th_ok any_ok ⟨⟨s_step_ok, s_step_det⟩, trivial⟩ _
 refine sum_ok hE Tryz.func53 rfl (by kernel_rfl) s_take [.dat (.sl (.int .u8)) false] RTake.k ?_
 intro R avs objs κ r h
 unfold s_take at h
 simp only at h
 split at h
 ·rename_i n l a bad
  split at h
  case isFalse => cases h
  rename_i hl
  refine ⟨0, _, _, _, (RTake.eq (0) n l a bad).trans (RTake.pure n l a bad hl), ?_, h⟩
  intro rs ros hk
  unfold RTake.k at hk
  split at hk
  ·first | (cases hk; exact ⟨rfl, rfl⟩) | (rw [← Option.some.inj hk]; exact ⟨rfl, rfl⟩)
  ·cases hk
 ·cases h
theorem s_takeb_det : SumDet s_takeb := sdet fun _ _ _ _ => by
 unfold s_takeb
 simp only [veil_eq]
 split
 ·first | rfl | (split <;> rfl)
 ·rfl
theorem s_takeb_ok : SumOk Tryz.prog 53 s_takeb := ⟨s_take_ok.1, fun avs objs κ r hr => s_take_ok.2 avs objs κ r (by
 unfold s_takeb at hr
 simp only [veil_eq] at hr
 split at hr
 ·exact hr
 ·cases hr)⟩
theorem s_split_ok : SumOk Tryz.prog 91 s_split := by
 have hE : EnvOk Tryz.prog Split_E := env_ok (l := [(51, s_read), (113, s_left), (52, s_rnumb), (53, s_takeb), (84, s_bad)]) th_ok any_ok ⟨⟨s_read_ok, s_read_det⟩, ⟨s_left_ok, s_left_det⟩, ⟨s_rnumb_ok, s_rnumb_det⟩, ⟨s_takeb_ok, s_takeb_det⟩, ⟨s_bad_ok, s_bad_det⟩, trivial⟩ _
 refine sum_ok hE Tryz.func91 rfl (by kernel_rfl) s_split [.dat (.sl (.pair tQi (.sl (.int .u8)))) false, .raw] Split.k ?_
 intro R avs objs κ r h
 unfold s_split at h
 simp only at h
 split at h
 ·rename_i l
  split at h
  case isFalse => cases h
  rename_i hl
  refine ⟨l.length + 1, _, _, _, (Split.eq (l.length + 1) l).trans (Split.pure l hl), ?_, h⟩
  intro rs ros hk
  unfold Split.k at hk
  split at hk
  ·first | (cases hk; exact ⟨rfl, rfl⟩) | (rw [← Option.some.inj hk]; exact ⟨rfl, rfl⟩)
  ·cases hk
 ·cases h
theorem s_splitb_det : SumDet s_splitb := sdet fun _ _ _ _ => by
 unfold s_splitb
 simp only [veil_eq]
 split
 ·first | rfl | (split <;> rfl)
 ·rfl
theorem s_splitb_ok : SumOk Tryz.prog 91 s_splitb := ⟨s_split_ok.1, fun avs objs κ r hr => s_split_ok.2 avs objs κ r (by
 unfold s_splitb at hr
 simp only [veil_eq] at hr
 split at hr
 ·exact hr
 ·cases hr)⟩
theorem s_value_det : SumDet s_value := sdet fun _ _ _ _ => by
 unfold s_value
 simp only
 split
 ·first | rfl | (split <;> rfl)
 ·rfl
theorem s_value_ok : SumOk Tryz.prog 115 s_value := by
 have hE : EnvOk Tryz.prog Value_E := env_ok (l := [(51, s_read), (52, s_rnum), (86, s_done)]) th_ok any_ok ⟨⟨s_read_ok, s_read_det⟩, ⟨s_rnum_ok, s_rnum_det⟩, ⟨s_done_ok, s_done_det⟩, trivial⟩ _
 refine sum_ok hE Tryz.func115 rfl (by kernel_rfl) s_value [.raw, .raw] Value.k ?_
 intro R avs objs κ r h
 unfold s_value at h
 simp only at h
 split at h
 ·rename_i t d n
  split at h
  case isFalse => cases h
  rename_i hl
  refine ⟨0, _, _, _, (Value.eq (0) t d n).trans (Value.pure t n d hl), ?_, h⟩
  intro rs ros hk
  unfold Value.k at hk
  split at hk
  ·first | (cases hk; exact ⟨rfl, rfl⟩) | (rw [← Option.some.inj hk]; exact ⟨rfl, rfl⟩)
  ·cases hk
 ·cases h
theorem s_inum_ok : SumOk Tryz.prog 92 s_inum := by
 have hE : EnvOk Tryz.prog INum_E := env_ok (l := [(115, s_value)]) th_ok any_ok ⟨⟨s_value_ok, s_value_det⟩, trivial⟩ _
 refine sum_ok hE Tryz.func92 rfl (by kernel_rfl) s_inum [.raw] INum.k ?_
 intro R avs objs κ r h
 unfold s_inum at h
 simp only at h
 split at h
 ·rename_i t n l bad
  split at h
  case isFalse => cases h
  rename_i hl
  refine ⟨0, _, _, _, (INum.eq (0) t n l bad).trans (INum.pure t n l bad hl), ?_, h⟩
  intro rs ros hk
  unfold INum.k at hk
  split at hk
  ·first | (cases hk; exact ⟨rfl, rfl⟩) | (rw [← Option.some.inj hk]; exact ⟨rfl, rfl⟩)
  ·cases hk
 ·cases h
theorem s_inumb_det : SumDet s_inumb := sdet fun _ _ _ _ => by
 unfold s_inumb
 simp only [veil_eq]
 split
 ·first | rfl | (split <;> rfl)
 ·rfl
theorem s_inumb_ok : SumOk Tryz.prog 92 s_inumb := ⟨s_inum_ok.1, fun avs objs κ r hr => s_inum_ok.2 avs objs κ r (by
 unfold s_inumb at hr
 simp only [veil_eq] at hr
 split at hr
 ·exact hr
 ·cases hr)⟩
theorem s_ispan_ok : SumOk Tryz.prog 94 s_ispan := by
 have hE : EnvOk Tryz.prog ISpan_E := env_ok (l := [(92, s_inumb), (83, s_sofb)]) th_ok any_ok ⟨⟨s_inumb_ok, s_inumb_det⟩, ⟨s_sofb_ok, s_sofb_det⟩, trivial⟩ _
 refine sum_ok hE Tryz.func94 rfl (by kernel_rfl) s_ispan [.dat (.pair tQi tQi) true] ISpan.k ?_
 intro R avs objs κ r h
 unfold s_ispan at h
 simp only at h
 split at h
 ·rename_i t l bad
  split at h
  case isFalse => cases h
  rename_i hl
  refine ⟨0, _, _, _, (ISpan.eq (0) t l bad).trans (ISpan.pure t l bad hl), ?_, h⟩
  intro rs ros hk
  unfold ISpan.k at hk
  split at hk
  ·first | (cases hk; exact ⟨rfl, rfl⟩) | (rw [← Option.some.inj hk]; exact ⟨rfl, rfl⟩)
  ·cases hk
 ·cases h
theorem s_ispanb_det : SumDet s_ispanb := sdet fun _ _ _ _ => by
 unfold s_ispanb
 simp only [veil_eq]
 split
 ·first | rfl | (split <;> rfl)
 ·rfl
theorem s_ispanb_ok : SumOk Tryz.prog 94 s_ispanb := ⟨s_ispan_ok.1, fun avs objs κ r hr => s_ispan_ok.2 avs objs κ r (by
 unfold s_ispanb at hr
 simp only [veil_eq] at hr
 split at hr
 ·exact hr
 ·cases hr)⟩
def recD (b : List Int) : (Int × Int × Int × (Int × Int) × Bool × LF) × Bool :=
 let y := splitF b
 let y1 := takeN y.1 (y.2 != 0) 1 2
 let y2 := takeN y1.2.1 y1.2.2 2 4
 let y3 := takeN y2.2.1 y2.2.2 3 1
 let y4 := spanN y3.2.1 y3.2.2 4
 ((y1.1, y2.1, y3.1 % 128, (y4.1, y4.2.1), decide (y3.1 ≥ 128), y4.2.2.1), !y4.2.2.2)
def takeIf (kind p : Int) (l : LF) (bad : Bool) (t : Int) : Int × LF × Bool := if hasF kind p then takeN l bad t 2 else (0, l, bad)
def s_rec2 : Den.Sum := ⟨[.dat (.sl (.int .u8)) false], fun args objs κ => match args, objs with
 | [.d (.sl (.int .u8)) b], [] => if inS b = true then κ [.agg [.d (.int .i64) (recD b).1.1, .d (.int .i64) (recD b).1.2.1, .d (.int .i64) (recD b).1.2.2.1, .d (.int .i64) (recD b).1.2.2.2.1.1, .d (.int .i64) (recD b).1.2.2.2.1.2, .d .bool (recD b).1.2.2.2.2.1, .d (.sl (.pair (.int .i64) (.sl (.int .u8)))) (recD b).1.2.2.2.2.2], .d .bool (recD b).2] [] else none
 | _, _ => none⟩
def s_rec2b : Den.Sum := ⟨[.dat (.sl (.int .u8)) false], fun args objs κ => match args, objs with
 | [.d (.sl (.int .u8)) b], [] => if inS b = true then (match veil (some (recD b)) with | none => none | some y => κ [.agg [.d (.int .i64) y.1.1, .d (.int .i64) y.1.2.1, .d (.int .i64) y.1.2.2.1, .d (.int .i64) y.1.2.2.2.1.1, .d (.int .i64) y.1.2.2.2.1.2, .d .bool y.1.2.2.2.2.1, .d (.sl (.pair (.int .i64) (.sl (.int .u8)))) y.1.2.2.2.2.2], .d .bool y.2] []) else none
 | _, _ => none⟩
def s_tk : Den.Sum := ⟨[.raw, .raw, .raw, .raw], fun args objs κ => match args, objs with
 | [.d (.int .i64) p, .d (.int .i64) t, .ptr 0 0, .ptr 1 0], [.box [.d (.int .i64) kind, .d (.int .i64) from0, .d (.int .i64) inc, .d (.int .i64) lo, .d (.int .i64) hi, .d (.int .i64) seq, .d (.int .i64) target, .d (.int .i64) life, .d (.int .i64) epoch, .d (.int .i64) base, .nilsl], .box [.ptr 2 0], .box [.d (.sl (.pair (.int .i64) (.sl (.int .u8)))) l, .d .bool bad]] => if fldsOk l = true then κ [.d (.int .i64) (takeIf kind p l bad t).1] [.box [.d (.int .i64) kind, .d (.int .i64) from0, .d (.int .i64) inc, .d (.int .i64) lo, .d (.int .i64) hi, .d (.int .i64) seq, .d (.int .i64) target, .d (.int .i64) life, .d (.int .i64) epoch, .d (.int .i64) base, .nilsl], .box [.ptr 2 0], .box [.d (.sl (.pair (.int .i64) (.sl (.int .u8)))) (takeIf kind p l bad t).2.1, .d .bool (takeIf kind p l bad t).2.2]] else none
 | _, _ => none⟩
def s_tkb : Den.Sum := ⟨[.raw, .raw, .raw, .raw], fun args objs κ => match args, objs with
 | [.d (.int .i64) p, .d (.int .i64) t, .ptr 0 0, .ptr 1 0], [.box [.d (.int .i64) kind, .d (.int .i64) from0, .d (.int .i64) inc, .d (.int .i64) lo, .d (.int .i64) hi, .d (.int .i64) seq, .d (.int .i64) target, .d (.int .i64) life, .d (.int .i64) epoch, .d (.int .i64) base, .nilsl], .box [.ptr 2 0], .box [.d (.sl (.pair (.int .i64) (.sl (.int .u8)))) l, .d .bool bad]] => if fldsOk l = true then (match veil (some (takeIf kind p l bad t)) with | none => none | some y => κ [.d (.int .i64) y.1] [.box [.d (.int .i64) kind, .d (.int .i64) from0, .d (.int .i64) inc, .d (.int .i64) lo, .d (.int .i64) hi, .d (.int .i64) seq, .d (.int .i64) target, .d (.int .i64) life, .d (.int .i64) epoch, .d (.int .i64) base, .nilsl], .box [.ptr 2 0], .box [.d (.sl (.pair (.int .i64) (.sl (.int .u8)))) y.2.1, .d .bool y.2.2]]) else none
 | _, _ => none⟩
def Rec2_E : Env := ⟨th, gam [(91, s_splitb), (92, s_inumb), (94, s_ispanb)], fun i => ⟨[], [], []⟩⟩
def Rec2.k (rs : List AV) (os : List Den.Obj) : Option (Int × Int × Int × Int × Int × Bool × LF × Bool) :=
 match rs, os with
 | [.agg [.d (.int .i64) r0, .d (.int .i64) r1, .d (.int .i64) r2, .d (.int .i64) r3, .d (.int .i64) r4, .d .bool r5, .d (.sl (.pair (.int .i64) (.sl (.int .u8)))) r6], .d .bool r7], [] => some (r0, r1, r2, r3, r4, r5, r6, r7)
 | _, _ => none
def Rec2.b (b : List Int) : Option (Int × Int × Int × Int × Int × Bool × LF × Bool) :=
 (if (inS b) then (match (veil (Option.some (splitF b))) with | none => none | some y0 => (if ((fldsOk y0.1) && (n7 (2 : Int))) then (match (veil (Option.some (takeN y0.1 (y0.2 != (0 : Int)) (1 : Int) (2 : Int)))) with | none => none | some y1 => (if ((fldsOk y1.2.1) && (n7 (4 : Int))) then (match (veil (Option.some (takeN y1.2.1 y1.2.2 (2 : Int) (4 : Int)))) with | none => none | some y2 => (if ((fldsOk y2.2.1) && (n7 (1 : Int))) then (match (veil (Option.some (takeN y2.2.1 y2.2.2 (3 : Int) (1 : Int)))) with | none => none | some y3 => (if (fldsOk y3.2.1) then (match (veil (Option.some (spanN y3.2.1 y3.2.2 (4 : Int)))) with | none => none | some y4 => (if (((((List.length y4.2.2.1)) : Nat) : Int) == (0 : Int)) then some (y1.1, y2.1, (bits BinOp.andNot .i64 y3.1 (128 : Int)), y4.1, y4.2.1, (decide (y3.1 ≥ (128 : Int))), ([] : LF), (!y4.2.2.2)) else some (y1.1, y2.1, (bits BinOp.andNot .i64 y3.1 (128 : Int)), y4.1, y4.2.1, (decide (y3.1 ≥ (128 : Int))), y4.2.2.1, (!y4.2.2.2)))) else none)) else none)) else none)) else none)) else none)
def Rec2.f (fuel : Nat) (b : List Int) : Option (Int × Int × Int × Int × Int × Bool × LF × Bool) := Rec2.b b
theorem Rec2.eq (fuel : Nat) (b : List Int) : (denF Rec2_E loopN fuel Tryz.f95 [.dat tQr true, .raw] [.d (.sl (.int .u8)) b] [] Rec2.k) = Rec2.f fuel b := by
 kernel_rfl
def Tk_E : Env := ⟨th, gam [(41, s_has), (92, s_inumb)], fun i => ⟨[], [], []⟩⟩
def Tk.k (rs : List AV) (os : List Den.Obj) : Option (Int × Int × Int × Int × Int × Int × Int × Int × Int × Int × Int × LF × Bool) :=
 match rs, os with
 | [.d (.int .i64) r0], [.box [.d (.int .i64) r1, .d (.int .i64) r2, .d (.int .i64) r3, .d (.int .i64) r4, .d (.int .i64) r5, .d (.int .i64) r6, .d (.int .i64) r7, .d (.int .i64) r8, .d (.int .i64) r9, .d (.int .i64) r10, .nilsl], .box [.ptr 2 0], .box [.d (.sl (.pair (.int .i64) (.sl (.int .u8)))) r11, .d .bool r12]] => some (r0, r1, r2, r3, r4, r5, r6, r7, r8, r9, r10, r11, r12)
 | _, _ => none
def Tk.b (p t kind from0 inc lo hi seq target life epoch base : Int) (l : LF) (bad : Bool) : Option (Int × Int × Int × Int × Int × Int × Int × Int × Int × Int × Int × LF × Bool) :=
 (if (!(hasF kind p)) then some ((0 : Int), kind, from0, inc, lo, hi, seq, target, life, epoch, base, l, bad) else (if ((fldsOk l) && (n7 (2 : Int))) then (match (veil (Option.some (takeN l bad t (2 : Int)))) with | none => none | some y0 => some (y0.1, kind, from0, inc, lo, hi, seq, target, life, epoch, base, y0.2.1, y0.2.2)) else none))
def Tk.f (fuel : Nat) (p t kind from0 inc lo hi seq target life epoch base : Int) (l : LF) (bad : Bool) : Option (Int × Int × Int × Int × Int × Int × Int × Int × Int × Int × Int × LF × Bool) := Tk.b p t kind from0 inc lo hi seq target life epoch base l bad
theorem Tk.eq (fuel : Nat) (p t kind from0 inc lo hi seq target life epoch base : Int) (l : LF) (bad : Bool) : (denF Tk_E loopN fuel Tryz.f93 [.raw] [.d tQi p, .d tQi t, .ptr 0 0, .ptr 1 0] [.box [.d tQi kind, .d tQi from0, .d tQi inc, .d tQi lo, .d tQi hi, .d tQi seq, .d tQi target, .d tQi life, .d tQi epoch, .d tQi base, .nilsl], .box [.ptr 2 0], .box [.d (.sl (.pair tQi (.sl (.int .u8)))) l, .d .bool bad]] Tk.k) = Tk.f fuel p t kind from0 inc lo hi seq target life epoch base l bad := by
 kernel_rfl
theorem splitGo_ok : ∀ (k : Nat) (l : List Int) (r : LF), (∀ c ∈ l, 0 ≤ c ∧ c ≤ 255) → splitGo k l = some r →
  r.flatMap fieldB = l ∧ 3 * r.length ≤ l.length ∧ ∀ x ∈ r, (0 ≤ x.1 ∧ x.1 ≤ 255) ∧ x.2.length ≤ 65535 ∧ x.2.length ≤ l.length ∧ ∀ c ∈ x.2, 0 ≤ c ∧ c ≤ 255
 | k, [], r, hl, h => by
  have : r = [] := by cases k <;> simp [splitGo] at h <;> exact h.symm ▸ rfl
  subst this
  simp
 | 0, t :: l, r, hl, h => by simp [splitGo] at h
 | k + 1, [t], r, hl, h => by simp [splitGo] at h
 | k + 1, [t, a], r, hl, h => by simp [splitGo] at h
 | k + 1, t :: a :: w :: m, r, hl, h => by
  rw [splitGo] at h
  have ht := hl t (by simp)
  have ha := hl a (by simp)
  have hw := hl w (by simp)
  split at h
  ·cases h
  ·rename_i c
   generalize hn : (a * 256 + w).toNat = n at h
   have hnn : (n : Int) = a * 256 + w := by omega
   cases hs : splitGo k (m.drop n) with
   | none => rw [hs] at h; cases h
   | some q =>
    rw [hs] at h
    simp at h
    subst h
    obtain ⟨i1, i2, i3⟩ := splitGo_ok k (m.drop n) q (fun c hc => hl c (by simp [List.mem_of_mem_drop hc])) hs
    have hlen : (m.take n).length = n := by rw [List.length_take]; omega
    refine ⟨?_, ?_, ?_⟩
    ·rw [List.flatMap_cons, i1]
     unfold fieldB
     rw [hlen]
     have e1 : ((n / 256 : Nat) : Int) = a := by omega
     have e2 : ((n % 256 : Nat) : Int) = w := by omega
     simp only [e1, e2]
     simp
    ·simp at i2 ⊢; omega
    ·intro x hx
     rcases List.mem_cons.1 hx with rfl | hx
     ·refine ⟨ht, by rw [hlen]; omega, by rw [hlen]; simp; omega, fun c hc => hl c (by simp [List.mem_of_mem_take hc])⟩
     ·obtain ⟨j1, j2, j3, j4⟩ := i3 x hx
      refine ⟨j1, j2, ?_, j4⟩
      simp at j3 ⊢
      omega
theorem inB_bytes {l : List Int} (h : inB l = true) : ∀ c ∈ l, 0 ≤ c ∧ c ≤ 255 := ((inB_iff l).1 h).2
theorem inS_of {l : List Int} (h : ∀ c ∈ l, 0 ≤ c ∧ c ≤ 255) (hl : l.length < 1000000000) : inS l = true := (inS_iff l).2 ⟨(inB_iff l).2 ⟨by omega, h⟩, hl⟩
theorem split_flds (b : List Int) (h : inS b = true) : fldsOk (splitF b).1 = true := by
 obtain ⟨hb, hl⟩ := (inS_iff b).1 h
 unfold splitF
 cases hs : splitGo b.length b with
 | none => rfl
 | some r =>
  obtain ⟨i1, i2, i3⟩ := splitGo_ok b.length b r (inB_bytes hb) hs
  refine (fldsOk_iff _).2 ⟨by show r.length < _; omega, fun x hx => ?_⟩
  obtain ⟨j1, j2, j3, j4⟩ := i3 x hx
  exact inS_of j4 (by omega)
theorem take_flds {l : LF} (h : fldsOk l = true) (bad : Bool) (t n : Int) : fldsOk (takeN l bad t n).2.1 = true := by
 unfold takeN
 cases l with
 | nil => rfl
 | cons x m =>
  dsimp only
  split
  ·exact h
  ·obtain ⟨h1, h2⟩ := (fldsOk_iff _).1 h
   refine (fldsOk_iff _).2 ⟨?_, fun y hy => h2 y (by simp [hy])⟩
   simp at h1
   show m.length < _
   omega
theorem span_flds {l : LF} (h : fldsOk l = true) (bad : Bool) (t : Int) : fldsOk (spanN l bad t).2.2.1 = true := take_flds h bad t 1
theorem take_byte {l : LF} (h : fldsOk l = true) (bad : Bool) (t : Int) : 0 ≤ (takeN l bad t 1).1 ∧ (takeN l bad t 1).1 ≤ 255 := by
 unfold takeN
 cases l with
 | nil => simp
 | cons x m =>
  dsimp only
  split
  ·simp
  ·unfold valF
   split
   ·rename_i c
    have hx := ((inS_iff _).1 (((fldsOk_iff _).1 h).2 x (by simp))).1
    have hb := inB_bytes hx
    obtain ⟨a, v⟩ := x
    simp at c
    match v, c with
    | [c0], _ =>
     have := hb c0 (by simp)
     simp [numB]
     omega
   ·simp
theorem andNot128 (v : Int) (h0 : 0 ≤ v) (h1 : v ≤ 255) : bits BinOp.andNot .i64 v 128 = v % 128 := by
 have key : ∀ i : Fin 256, bits BinOp.andNot .i64 ((i.val : Nat) : Int) 128 = ((i.val : Nat) : Int) % 128 := by decide +kernel
 have := key ⟨v.toNat, by omega⟩
 simp only [Int.toNat_of_nonneg h0] at this
 exact this
theorem Rec2.pure (b : List Int) (hl : inS b = true) : Rec2.f 0 b = some ((recD b).1.1, (recD b).1.2.1, (recD b).1.2.2.1, (recD b).1.2.2.2.1.1, (recD b).1.2.2.2.1.2, (recD b).1.2.2.2.2.1, (recD b).1.2.2.2.2.2, (recD b).2) := by
 unfold Rec2.f Rec2.b
 simp only [veil_eq]
 have h0 := split_flds b hl
 have h1 := take_flds h0 ((splitF b).2 != 0) 1 2
 unfold recD
 dsimp only
 generalize takeN (splitF b).1 ((splitF b).2 != 0) 1 2 = y1 at h1 ⊢
 have h2 := take_flds h1 y1.2.2 2 4
 generalize takeN y1.2.1 y1.2.2 2 4 = y2 at h2 ⊢
 have h3 := take_flds h2 y2.2.2 3 1
 have h3b := take_byte h2 y2.2.2 3
 generalize takeN y2.2.1 y2.2.2 3 1 = y3 at h3 h3b ⊢
 generalize spanN y3.2.1 y3.2.2 4 = y4
 rw [hl, h0, h1, h2, h3, andNot128 _ h3b.1 h3b.2]
 have k2 : n7 2 = true := rfl
 have k4 : n7 4 = true := rfl
 have k1 : n7 1 = true := rfl
 rw [k2, k4, k1]
 simp only [Bool.and_self, if_true]
 split
 ·rename_i c
  have : y4.2.2.1 = [] := by simpa using c
  rw [this]
 ·rfl
theorem Tk.pure (p t kind from0 inc lo hi seq target life epoch base : Int) (l : LF) (bad : Bool) (hl : fldsOk l = true) :
  Tk.f 0 p t kind from0 inc lo hi seq target life epoch base l bad = some ((takeIf kind p l bad t).1, kind, from0, inc, lo, hi, seq, target, life, epoch, base, (takeIf kind p l bad t).2.1, (takeIf kind p l bad t).2.2) := by
 unfold Tk.f Tk.b takeIf
 simp only [veil_eq]
 have k2 : n7 2 = true := rfl
 rw [hl, k2]
 cases hasF kind p <;> rfl
theorem s_rec2_ok : SumOk Tryz.prog 95 s_rec2 := by
 have hE : EnvOk Tryz.prog Rec2_E := env_ok (l := [(91, s_splitb), (92, s_inumb), (94, s_ispanb)]) th_ok any_ok ⟨⟨s_splitb_ok, s_splitb_det⟩, ⟨s_inumb_ok, s_inumb_det⟩, ⟨s_ispanb_ok, s_ispanb_det⟩, trivial⟩ _
 refine sum_ok hE Tryz.func95 rfl (by kernel_rfl) s_rec2 [.dat tQr true, .raw] Rec2.k ?_
 intro R avs objs κ r h
 unfold s_rec2 at h
 simp only at h
 split at h
 ·rename_i b
  split at h
  case isFalse => cases h
  rename_i hl
  refine ⟨0, _, _, _, (Rec2.eq (0) b).trans (Rec2.pure b hl), ?_, h⟩
  intro rs ros hk
  unfold Rec2.k at hk
  split at hk
  ·first | (cases hk; exact ⟨rfl, rfl⟩) | (rw [← Option.some.inj hk]; exact ⟨rfl, rfl⟩)
  ·cases hk
 ·cases h
theorem s_rec2b_det : SumDet s_rec2b := sdet fun _ _ _ _ => by
 unfold s_rec2b
 simp only [veil_eq]
 split
 ·first | rfl | (split <;> rfl)
 ·rfl
theorem s_rec2b_ok : SumOk Tryz.prog 95 s_rec2b := ⟨s_rec2_ok.1, fun avs objs κ r hr => s_rec2_ok.2 avs objs κ r (by
 unfold s_rec2b at hr
 simp only [veil_eq] at hr
 split at hr
 ·exact hr
 ·cases hr)⟩
theorem s_tk_ok : SumOk Tryz.prog 93 s_tk := by
 have hE : EnvOk Tryz.prog Tk_E := env_ok (l := [(41, s_has), (92, s_inumb)]) th_ok any_ok ⟨⟨s_has_ok, s_has_det⟩, ⟨s_inumb_ok, s_inumb_det⟩, trivial⟩ _
 refine sum_ok hE Tryz.func93 rfl (by kernel_rfl) s_tk [.raw] Tk.k ?_
 intro R avs objs κ r h
 unfold s_tk at h
 simp only at h
 split at h
 ·rename_i p t kind from0 inc lo hi seq target life epoch base l bad
  split at h
  case isFalse => cases h
  rename_i hl
  refine ⟨0, _, _, _, (Tk.eq (0) p t kind from0 inc lo hi seq target life epoch base l bad).trans (Tk.pure p t kind from0 inc lo hi seq target life epoch base l bad hl), ?_, h⟩
  intro rs ros hk
  unfold Tk.k at hk
  split at hk
  ·first | (cases hk; exact ⟨rfl, rfl⟩) | (rw [← Option.some.inj hk]; exact ⟨rfl, rfl⟩)
  ·cases hk
 ·cases h
theorem s_tkb_det : SumDet s_tkb := sdet fun _ _ _ _ => by
 unfold s_tkb
 simp only [veil_eq]
 split
 ·first | rfl | (split <;> rfl)
 ·rfl
theorem s_tkb_ok : SumOk Tryz.prog 93 s_tkb := ⟨s_tk_ok.1, fun avs objs κ r hr => s_tk_ok.2 avs objs κ r (by
 unfold s_tkb at hr
 simp only [veil_eq] at hr
 split at hr
 ·exact hr
 ·cases hr)⟩
def recsD : LF → Option LR
 | [] => some []
 | x :: m => if !(recD x.2).2 || x.1 != 7 then none else (recsD m).map fun r => (recD x.2).1 :: r
def end2 (bad : Bool) (kind from0 inc lo hi seq target : Int) (recs : Option LR) : Int × Int × Int × Int × Int × Int × Int × LR × Int :=
 match recs with
 | none => (0, 0, 0, 0, 0, 0, 0, [], 4)
 | some r => if !bad && fits2 kind from0 inc lo hi seq target 0 0 0 r then (kind, from0, inc, lo, hi, seq, target, r, 0) else (0, 0, 0, 0, 0, 0, 0, [], 4)
def decF2 (b : List Int) : Int × Int × Int × Int × Int × Int × Int × LR × Int :=
 let y := splitF b
 let y1 := takeN y.1 (y.2 != 0 || decide ((b.length : Int) > 65499)) 1 1
 let y2 := takeN y1.2.1 y1.2.2 2 2
 let y3 := takeN y2.2.1 y2.2.2 3 6
 let y4 := spanN y3.2.1 y3.2.2 4
 let y5 := takeIf y1.1 0 y4.2.2.1 y4.2.2.2 5
 let y6 := takeIf y1.1 1 y5.2.1 y5.2.2 6
 end2 y6.2.2 y1.1 y2.1 y3.1 y4.1 y4.2.1 y5.1 y6.1 (recsD y6.2.1)
def s_dec2 : Den.Sum := ⟨[.dat (.sl (.int .u8)) false], fun args objs κ => match args, objs with
 | [.d (.sl (.int .u8)) b], [] => if inS b = true then κ [.agg [.d (.int .i64) (decF2 b).1, .d (.int .i64) (decF2 b).2.1, .d (.int .i64) (decF2 b).2.2.1, .d (.int .i64) (decF2 b).2.2.2.1, .d (.int .i64) (decF2 b).2.2.2.2.1, .d (.int .i64) (decF2 b).2.2.2.2.2.1, .d (.int .i64) (decF2 b).2.2.2.2.2.2.1, .d (.int .i64) 0, .d (.int .i64) 0, .d (.int .i64) 0, .d (.sl (.pair (.int .i64) (.pair (.int .i64) (.pair (.int .i64) (.pair (.pair (.int .i64) (.int .i64)) (.pair .bool (.sl (.pair (.int .i64) (.sl (.int .u8)))))))))) ((decF2 b).2.2.2.2.2.2.2.1)], .d (.int .i64) ((decF2 b).2.2.2.2.2.2.2.2)] [] else none
 | _, _ => none⟩
def s_dec2b : Den.Sum := ⟨[.dat (.sl (.int .u8)) false], fun args objs κ => match args, objs with
 | [.d (.sl (.int .u8)) b], [] => if inS b = true then (match veil (some (decF2 b)) with | none => none | some y => κ [.agg [.d (.int .i64) y.1, .d (.int .i64) y.2.1, .d (.int .i64) y.2.2.1, .d (.int .i64) y.2.2.2.1, .d (.int .i64) y.2.2.2.2.1, .d (.int .i64) y.2.2.2.2.2.1, .d (.int .i64) y.2.2.2.2.2.2.1, .d (.int .i64) 0, .d (.int .i64) 0, .d (.int .i64) 0, .d (.sl (.pair (.int .i64) (.pair (.int .i64) (.pair (.int .i64) (.pair (.pair (.int .i64) (.int .i64)) (.pair .bool (.sl (.pair (.int .i64) (.sl (.int .u8)))))))))) (y.2.2.2.2.2.2.2.1)], .d (.int .i64) (y.2.2.2.2.2.2.2.2)] []) else none
 | _, _ => none⟩
def Decode2_E : Env := ⟨th, gam [(91, s_splitb), (93, s_tkb), (95, s_rec2b), (87, s_fits2), (92, s_inumb), (94, s_ispanb)], fun i => if i = 11 then ⟨[2, 6, 7, 50, 51, 52], [(1458, 54, tQr)], []⟩ else ⟨[], [], []⟩⟩
def Decode2.k (rs : List AV) (os : List Den.Obj) : Option (Int × Int × Int × Int × Int × Int × Int × Int × Int × Int × LR × Int) :=
 match rs, os with
 | [.agg [.d (.int .i64) r0, .d (.int .i64) r1, .d (.int .i64) r2, .d (.int .i64) r3, .d (.int .i64) r4, .d (.int .i64) r5, .d (.int .i64) r6, .d (.int .i64) r7, .d (.int .i64) r8, .d (.int .i64) r9, .d (.sl (.pair (.int .i64) (.pair (.int .i64) (.pair (.int .i64) (.pair (.pair (.int .i64) (.int .i64)) (.pair .bool (.sl (.pair (.int .i64) (.sl (.int .u8)))))))))) r10], .d (.int .i64) r11], [] => some (r0, r1, r2, r3, r4, r5, r6, r7, r8, r9, r10, r11)
 | _, _ => none
def Decode2.s11 (b : List Int) (x7 : LF) (x8 x9 : Int) (x10 : LF) (x11 : Bool) (x12 x13 x14 x15 x16 x17 x18 : Int) (x19 : LR) : St := ⟨[.dead, .dead, .ptr 64 0, dD, dD, dD, .ptr 65 0, .ptr 67 0, dD, dD, dD, dD, dD, dD, dD, dD, dD, dD, dD, dD, dD, dD, dD, dD, dD, dD, dD, dD, dD, dD, dD, dD, dD, dD, dD, dD, dD, dD, dD, dD, dD, dD, dD, dD, dD, dD, dD, dD, dD, dD, .d (.sl (.pair tQi (.sl (.int .u8)))) x7, .d tQi x8, .d tQi x9, dD, dD, dD, dD, dD, dD, dD, dD, dD, dD, dD, dD, dD, dD, dD, dD, dD, dD, dD, dD, dD, dD, dD, dD, dD, dD, dD, dD, dD, dD, dD, dD, dD, dD, .dead], ofL [(64, .box [.d tQi (0), .d tQi (0), .d tQi (0), .d tQi (0), .d tQi (0), .d tQi (0), .d tQi (0), .d tQi (0), .d tQi (0), .d tQi (0), .nilsl]), (65, .box [.ptr 66 0]), (66, .box [.d (.sl (.pair tQi (.sl (.int .u8)))) x10, .d .bool x11]), (67, .box [.d tQi x12, .d tQi x13, .d tQi x14, .d tQi x15, .d tQi x16, .d tQi x17, .d tQi x18, .d tQi (0), .d tQi (0), .d tQi (0), .row 68]), (68, .row 54 tQr x19 false)], 0⟩
def Decode2.p11 (fuel : Nat) (b : List Int) (k : Nat) := fun x7 x8 x9 x10 x11 x12 x13 x14 x15 x16 x17 x18 x19 => lp Decode2_E fuel Tryz.f63 [.dat (.pair tQi (.pair tQi (.pair tQi (.pair (.pair tQi tQi) (.pair tQi (.pair tQi (.pair tQi (.pair tQi (.pair tQi (.sl tQr)))))))))) true, .raw] 0 Decode2.k 11 [] k (Decode2.s11 b x7 x8 x9 x10 x11 x12 x13 x14 x15 x16 x17 x18 x19)
def Decode2.b11 (b : List Int) (A11 : LF → Int → Int → LF → Bool → Int → Int → Int → Int → Int → Int → Int → LR → Option (Int × Int × Int × Int × Int × Int × Int × Int × Int × Int × LR × Int)) (x7 : LF) (x8 : Int) (x9 : Int) (x10 : LF) (x11 : Bool) (x12 : Int) (x13 : Int) (x14 : Int) (x15 : Int) (x16 : Int) (x17 : Int) (x18 : Int) (x19 : LR) : Option (Int × Int × Int × Int × Int × Int × Int × Int × Int × Int × LR × Int) :=
 (if (decide (x9 < x8)) then (match (idx x7 x9) with | none => none | some y20 => (if (inS y20.2) then (match (veil (Option.some (recD y20.2))) with | none => none | some y21 => (if (!y21.2) then some (0, 0, 0, 0, 0, 0, 0, 0, 0, 0, ([] : LR), (4 : Int)) else (if (y20.1 != (7 : Int)) then some (0, 0, 0, 0, 0, 0, 0, 0, 0, 0, ([] : LR), (4 : Int)) else (if ((((List.length x19) + (List.length ((y21.1.1, (y21.1.2.1, (y21.1.2.2.1, ((y21.1.2.2.2.1.1, y21.1.2.2.2.1.2), (y21.1.2.2.2.2.1, y21.1.2.2.2.2.2))))) :: ([] : LR)))) * (72 : Nat)) ≤ lim) then A11 x7 x8 (IntKind.wrap .i64 (x9 + (1 : Int))) x10 x11 x12 x13 x14 x15 x16 x17 x18 (x19 ++ ((y21.1.1, (y21.1.2.1, (y21.1.2.2.1, ((y21.1.2.2.2.1.1, y21.1.2.2.2.1.2), (y21.1.2.2.2.2.1, y21.1.2.2.2.2.2))))) :: ([] : LR))) else none)))) else none)) else (if x11 then some (0, 0, 0, 0, 0, 0, 0, 0, 0, 0, ([] : LR), (4 : Int)) else (if (smallRecs x19) then (if (!(fits2 x12 x13 x14 x15 x16 x17 x18 0 0 0 x19)) then some (0, 0, 0, 0, 0, 0, 0, 0, 0, 0, ([] : LR), (4 : Int)) else some (x12, x13, x14, x15, x16, x17, x18, 0, 0, 0, x19, (0 : Int))) else none)))
def Decode2.l11 (fuel : Nat) (b : List Int) : Nat → LF → Int → Int → LF → Bool → Int → Int → Int → Int → Int → Int → Int → LR → Option (Int × Int × Int × Int × Int × Int × Int × Int × Int × Int × LR × Int)
 | 0, _, _, _, _, _, _, _, _, _, _, _, _, _ => none
 | k + 1, x7, x8, x9, x10, x11, x12, x13, x14, x15, x16, x17, x18, x19 => Decode2.b11 b (Decode2.l11 fuel b k) x7 x8 x9 x10 x11 x12 x13 x14 x15 x16 x17 x18 x19
def Decode2.b (b : List Int) (E11 : LF → Int → Int → LF → Bool → Int → Int → Int → Int → Int → Int → Int → LR → Option (Int × Int × Int × Int × Int × Int × Int × Int × Int × Int × LR × Int)) : Option (Int × Int × Int × Int × Int × Int × Int × Int × Int × Int × LR × Int) :=
 (if (inS b) then (match (veil (Option.some (splitF b))) with | none => none | some y0 => (if (y0.2 != (0 : Int)) then (if ((fldsOk y0.1) && (n7 (1 : Int))) then (match (veil (Option.some (takeN y0.1 true (1 : Int) (1 : Int)))) with | none => none | some y1 => (if ((fldsOk y1.2.1) && (n7 (2 : Int))) then (match (veil (Option.some (takeN y1.2.1 y1.2.2 (2 : Int) (2 : Int)))) with | none => none | some y2 => (if ((fldsOk y2.2.1) && (n7 (6 : Int))) then (match (veil (Option.some (takeN y2.2.1 y2.2.2 (3 : Int) (6 : Int)))) with | none => none | some y3 => (if (fldsOk y3.2.1) then (match (veil (Option.some (spanN y3.2.1 y3.2.2 (4 : Int)))) with | none => none | some y4 => (if (fldsOk y4.2.2.1) then (match (veil (Option.some (takeIf y1.1 (0 : Int) y4.2.2.1 y4.2.2.2 (5 : Int)))) with | none => none | some y5 => (if (fldsOk y5.2.1) then (match (veil (Option.some (takeIf y1.1 (1 : Int) y5.2.1 y5.2.2 (6 : Int)))) with | none => none | some y6 => E11 y6.2.1 ((((List.length y6.2.1)) : Nat) : Int) (0 : Int) y6.2.1 y6.2.2 y1.1 y2.1 y3.1 y4.1 y4.2.1 y5.1 y6.1 ([] : LR)) else none)) else none)) else none)) else none)) else none)) else none) else (if ((fldsOk y0.1) && (n7 (1 : Int))) then (match (veil (Option.some (takeN y0.1 (decide (((((List.length b)) : Nat) : Int) > (65499 : Int))) (1 : Int) (1 : Int)))) with | none => none | some y22 => (if ((fldsOk y22.2.1) && (n7 (2 : Int))) then (match (veil (Option.some (takeN y22.2.1 y22.2.2 (2 : Int) (2 : Int)))) with | none => none | some y23 => (if ((fldsOk y23.2.1) && (n7 (6 : Int))) then (match (veil (Option.some (takeN y23.2.1 y23.2.2 (3 : Int) (6 : Int)))) with | none => none | some y24 => (if (fldsOk y24.2.1) then (match (veil (Option.some (spanN y24.2.1 y24.2.2 (4 : Int)))) with | none => none | some y25 => (if (fldsOk y25.2.2.1) then (match (veil (Option.some (takeIf y22.1 (0 : Int) y25.2.2.1 y25.2.2.2 (5 : Int)))) with | none => none | some y26 => (if (fldsOk y26.2.1) then (match (veil (Option.some (takeIf y22.1 (1 : Int) y26.2.1 y26.2.2 (6 : Int)))) with | none => none | some y27 => E11 y27.2.1 ((((List.length y27.2.1)) : Nat) : Int) (0 : Int) y27.2.1 y27.2.2 y22.1 y23.1 y24.1 y25.1 y25.2.1 y26.1 y27.1 ([] : LR)) else none)) else none)) else none)) else none)) else none)) else none))) else none)
def Decode2.f (fuel : Nat) (b : List Int) : Option (Int × Int × Int × Int × Int × Int × Int × Int × Int × Int × LR × Int) := Decode2.b b (Decode2.l11 fuel b fuel)
theorem Decode2.l11_eq (fuel : Nat) (b : List Int) : ∀ k : Nat, Decode2.p11 fuel b k = Decode2.l11 fuel b k
 | 0 => by kernel_rfl
 | k + 1 => by
  refine Eq.trans (b := Decode2.b11 b (Decode2.p11 fuel b k)) (by kernel_rfl) ?_
  rw [Decode2.l11_eq fuel b k]
  kernel_rfl
theorem Decode2.eq (fuel : Nat) (b : List Int) : (denF Decode2_E loopN fuel Tryz.f63 [.dat (.pair tQi (.pair tQi (.pair tQi (.pair (.pair tQi tQi) (.pair tQi (.pair tQi (.pair tQi (.pair tQi (.pair tQi (.sl tQr)))))))))) true, .raw] [.d (.sl (.int .u8)) b] [] Decode2.k) = Decode2.f fuel b := by
 refine Eq.trans (b := Decode2.b b (Decode2.p11 fuel b fuel)) (by kernel_rfl) ?_
 rw [Decode2.l11_eq fuel b fuel]
 kernel_rfl
def outD (e : Int × Int × Int × Int × Int × Int × Int × LR × Int) : Int × Int × Int × Int × Int × Int × Int × Int × Int × Int × LR × Int :=
 (e.1, e.2.1, e.2.2.1, e.2.2.2.1, e.2.2.2.2.1, e.2.2.2.2.2.1, e.2.2.2.2.2.2.1, 0, 0, 0, e.2.2.2.2.2.2.2.1, e.2.2.2.2.2.2.2.2)
theorem flds_small {l : LF} (h : fldsOk l = true) : smallBag l = true := by
 obtain ⟨h1, h2⟩ := (fldsOk_iff l).1 h
 refine (smallBag_iff l).2 ⟨by omega, fun x hx => ?_⟩
 have := ((inS_iff _).1 (h2 x hx)).2
 omega
theorem recD_flds (b : List Int) (hl : inS b = true) : fldsOk (recD b).1.2.2.2.2.2 = true := by
 unfold recD
 dsimp only
 exact span_flds (take_flds (take_flds (take_flds (split_flds b hl) _ _ _) _ _ _) _ _ _) _ _
theorem Decode2.loop (fuel : Nat) (b : List Int) (fs fs' : LF) (bad : Bool) (kind from0 inc lo hi seq target : Int) (hf : fldsOk fs = true) : ∀ (k i : Nat) (acc : LR), i ≤ fs.length → fs.length - i < k → acc.length + (fs.length - i) < 2000000000 → (∀ r ∈ acc, smallBag r.2.2.2.2.2 = true) →
  Decode2.l11 fuel b k fs (fs.length : Int) (i : Int) fs' bad kind from0 inc lo hi seq target acc = some (outD (end2 bad kind from0 inc lo hi seq target ((recsD (fs.drop i)).map fun r => acc ++ r))) := by
 obtain ⟨hf1, hf2⟩ := (fldsOk_iff fs).1 hf
 intro k
 induction k with
 | zero => intro i acc h1 h2; omega
 | succ k ih =>
  intro i acc h1 h2 h3 h4
  rw [Decode2.l11]
  unfold Decode2.b11
  simp only [veil_eq]
  by_cases hi' : i < fs.length
  ·rw [if_pos (by simp; omega), idx_at, List.getElem?_eq_getElem hi']
   dsimp only
   have hx := hf2 fs[i] (List.getElem_mem hi')
   rw [List.drop_eq_getElem_cons hi', recsD]
   generalize fs[i] = x at hx ⊢
   rw [if_pos hx]
   have hsm := flds_small (recD_flds x.2 hx)
   cases c1 : (recD x.2).2
   ·rw [if_pos (by simp), if_pos (by simp)]
    rfl
   ·by_cases c2 : x.1 = 7
    ·rw [if_neg (by simp), if_neg (by simpa using c2), if_pos (by simp [lim]; omega), if_neg (by simp [c2]), wrap_small ((i : Int) + 1) (by omega) (by omega)]
     simp only [rec_eta]
     have := ih (i + 1) (acc ++ [(recD x.2).1]) (by omega) (by omega) (by simp; omega) (by
      intro r hr
      rcases List.mem_append.1 hr with hr | hr
      ·exact h4 r hr
      ·simp at hr; subst hr; exact hsm)
     rw [show ((i + 1 : Nat) : Int) = (i : Int) + 1 from by omega] at this
     rw [this]
     cases recsD (fs.drop (i + 1)) <;> simp
    ·rw [if_neg (by simp), if_pos (by simpa using c2), if_pos (by simp [c2])]
     rfl
  ·rw [if_neg (by simp; omega), List.drop_of_length_le (by omega)]
   have hs : smallRecs acc = true := (smallRecs_iff acc).2 ⟨by omega, h4⟩
   cases bad
   ·rw [if_neg (by simp), hs, if_pos rfl]
    simp only [recsD, Option.map_some, List.append_nil, end2, Bool.not_false, Bool.true_and]
    cases fits2 kind from0 inc lo hi seq target 0 0 0 acc <;> rfl
   ·rfl
theorem takeIf_flds {l : LF} (h : fldsOk l = true) (kind p : Int) (bad : Bool) (t : Int) : fldsOk (takeIf kind p l bad t).2.1 = true := by
 unfold takeIf
 split
 ·exact take_flds h bad t 2
 ·exact h
theorem take_len {l : LF} (bad : Bool) (t n : Int) : (takeN l bad t n).2.1.length ≤ l.length := by
 unfold takeN
 cases l with
 | nil => simp
 | cons x m => dsimp only; split <;> simp
theorem takeIf_len {l : LF} (kind p : Int) (bad : Bool) (t : Int) : (takeIf kind p l bad t).2.1.length ≤ l.length := by
 unfold takeIf
 split
 ·exact take_len bad t 2
 ·simp
theorem split_len (b : List Int) (h : inS b = true) : (splitF b).1.length ≤ b.length := by
 obtain ⟨hb, hl⟩ := (inS_iff b).1 h
 unfold splitF
 cases hs : splitGo b.length b with
 | none => simp
 | some r =>
  have := (splitGo_ok b.length b r (inB_bytes hb) hs).2.1
  show r.length ≤ _
  omega
theorem Decode2.pure (b : List Int) (hl : inS b = true) : Decode2.f (b.length + 1) b = some (outD (decF2 b)) := by
 have hbl := ((inS_iff b).1 hl).2
 unfold Decode2.f Decode2.b
 simp only [veil_eq]
 have h0 := split_flds b hl
 have g0 := split_len b hl
 rw [hl, if_pos rfl, h0]
 have k2 : n7 2 = true := rfl
 have k6 : n7 6 = true := rfl
 have k1 : n7 1 = true := rfl
 rw [k2, k6, k1]
 unfold decF2
 dsimp only
 cases hy : ((splitF b).2 != 0)
 ·rw [if_neg (by simp), Bool.false_or]
  generalize decide ((b.length : Int) > 65499) = bad0
  have h1 := take_flds h0 bad0 1 1
  have g1 := @take_len (splitF b).1 bad0 1 1
  generalize takeN (splitF b).1 bad0 1 1 = y1 at h1 g1 ⊢
  have h2 := take_flds h1 y1.2.2 2 2
  have g2 := @take_len y1.2.1 y1.2.2 2 2
  generalize takeN y1.2.1 y1.2.2 2 2 = y2 at h2 g2 ⊢
  have h3 := take_flds h2 y2.2.2 3 6
  have g3 := @take_len y2.2.1 y2.2.2 3 6
  generalize takeN y2.2.1 y2.2.2 3 6 = y3 at h3 g3 ⊢
  have h4 := span_flds h3 y3.2.2 4
  have g4 : (spanN y3.2.1 y3.2.2 4).2.2.1.length ≤ _ := @take_len y3.2.1 y3.2.2 4 1
  generalize spanN y3.2.1 y3.2.2 4 = y4 at h4 g4 ⊢
  have h5 := takeIf_flds h4 y1.1 0 y4.2.2.2 5
  have g5 := @takeIf_len y4.2.2.1 y1.1 0 y4.2.2.2 5
  generalize takeIf y1.1 0 y4.2.2.1 y4.2.2.2 5 = y5 at h5 g5 ⊢
  have h6 := takeIf_flds h5 y1.1 1 y5.2.2 6
  have g6 := @takeIf_len y5.2.1 y1.1 1 y5.2.2 6
  generalize takeIf y1.1 1 y5.2.1 y5.2.2 6 = y6 at h6 g6 ⊢
  have hlp := Decode2.loop (b.length + 1) b y6.2.1 y6.2.1 y6.2.2 y1.1 y2.1 y3.1 y4.1 y4.2.1 y5.1 y6.1 h6 (b.length + 1) 0 [] (by omega) (by omega) (by simp; omega) (by simp)
  rw [show ((0 : Nat) : Int) = 0 from rfl, List.drop_zero] at hlp
  simp only [Bool.and_true, if_true, h1, h2, h3, h4, h5, h6]
  rw [hlp]
  simp
 ·rw [if_pos rfl, Bool.true_or]
  have h1 := take_flds h0 true 1 1
  have g1 := @take_len (splitF b).1 true 1 1
  generalize takeN (splitF b).1 true 1 1 = y1 at h1 g1 ⊢
  have h2 := take_flds h1 y1.2.2 2 2
  have g2 := @take_len y1.2.1 y1.2.2 2 2
  generalize takeN y1.2.1 y1.2.2 2 2 = y2 at h2 g2 ⊢
  have h3 := take_flds h2 y2.2.2 3 6
  have g3 := @take_len y2.2.1 y2.2.2 3 6
  generalize takeN y2.2.1 y2.2.2 3 6 = y3 at h3 g3 ⊢
  have h4 := span_flds h3 y3.2.2 4
  have g4 : (spanN y3.2.1 y3.2.2 4).2.2.1.length ≤ _ := @take_len y3.2.1 y3.2.2 4 1
  generalize spanN y3.2.1 y3.2.2 4 = y4 at h4 g4 ⊢
  have h5 := takeIf_flds h4 y1.1 0 y4.2.2.2 5
  have g5 := @takeIf_len y4.2.2.1 y1.1 0 y4.2.2.2 5
  generalize takeIf y1.1 0 y4.2.2.1 y4.2.2.2 5 = y5 at h5 g5 ⊢
  have h6 := takeIf_flds h5 y1.1 1 y5.2.2 6
  have g6 := @takeIf_len y5.2.1 y1.1 1 y5.2.2 6
  generalize takeIf y1.1 1 y5.2.1 y5.2.2 6 = y6 at h6 g6 ⊢
  have hlp := Decode2.loop (b.length + 1) b y6.2.1 y6.2.1 y6.2.2 y1.1 y2.1 y3.1 y4.1 y4.2.1 y5.1 y6.1 h6 (b.length + 1) 0 [] (by omega) (by omega) (by simp; omega) (by simp)
  rw [show ((0 : Nat) : Int) = 0 from rfl, List.drop_zero] at hlp
  simp only [Bool.and_true, if_true, h1, h2, h3, h4, h5, h6]
  rw [hlp]
  simp
theorem s_dec2_ok : SumOk Tryz.prog 63 s_dec2 := by
 have hE : EnvOk Tryz.prog Decode2_E := env_ok (l := [(91, s_splitb), (93, s_tkb), (95, s_rec2b), (87, s_fits2), (92, s_inumb), (94, s_ispanb)]) th_ok any_ok ⟨⟨s_splitb_ok, s_splitb_det⟩, ⟨s_tkb_ok, s_tkb_det⟩, ⟨s_rec2b_ok, s_rec2b_det⟩, ⟨s_fits2_ok, s_fits2_det⟩, ⟨s_inumb_ok, s_inumb_det⟩, ⟨s_ispanb_ok, s_ispanb_det⟩, trivial⟩ _
 refine sum_ok hE Tryz.func63 rfl (by kernel_rfl) s_dec2 [.dat (.pair tQi (.pair tQi (.pair tQi (.pair (.pair tQi tQi) (.pair tQi (.pair tQi (.pair tQi (.pair tQi (.pair tQi (.sl tQr)))))))))) true, .raw] Decode2.k ?_
 intro R avs objs κ r h
 unfold s_dec2 at h
 simp only at h
 split at h
 ·rename_i b
  split at h
  case isFalse => cases h
  rename_i hl
  refine ⟨b.length + 1, _, _, _, (Decode2.eq (b.length + 1) b).trans (Decode2.pure b hl), ?_, h⟩
  intro rs ros hk
  unfold Decode2.k at hk
  split at hk
  ·first | (cases hk; exact ⟨rfl, rfl⟩) | (rw [← Option.some.inj hk]; exact ⟨rfl, rfl⟩)
  ·cases hk
 ·cases h
theorem s_dec2b_det : SumDet s_dec2b := sdet fun _ _ _ _ => by
 unfold s_dec2b
 simp only [veil_eq]
 split
 ·first | rfl | (split <;> rfl)
 ·rfl
theorem s_dec2b_ok : SumOk Tryz.prog 63 s_dec2b := ⟨s_dec2_ok.1, fun avs objs κ r hr => s_dec2_ok.2 avs objs κ r (by
 unfold s_dec2b at hr
 simp only [veil_eq] at hr
 split at hr
 ·exact hr
 ·cases hr)⟩
theorem ofGo_ok {c : Int} (h : okS (ofGo allF c).1 (ofGo allF c).2.1 = true) : (ofGo allF c).1 * 16 + (ofGo allF c).2.1 = c := by
 have h2 : (ofGo allF c).2.2 = true := by
  unfold allF ofGo ofGo ofGo ofGo ofGo ofGo ofGo at h ⊢
  split
  ·rfl
  rename_i c1
  rw [if_neg c1] at h
  split
  ·rfl
  rename_i c2
  rw [if_neg c2] at h
  split
  ·rfl
  rename_i c3
  rw [if_neg c3] at h
  split
  ·rfl
  rename_i c4
  rw [if_neg c4] at h
  split
  ·rfl
  rename_i c5
  rw [if_neg c5] at h
  split
  ·rfl
  rename_i c6
  rw [if_neg c6] at h
  cases h
 have := ofGo_some h2
 rw [code_eq h] at this
 exact this
def octet_Writer_Raw_E : Env := ⟨th, gam [], fun i => ⟨[], [], []⟩⟩
def octet_Writer_Raw.k (rs : List AV) (os : List Den.Obj) : Option (List Int) :=
 match rs, os with
 | [.ptr 0 0], [.box [.row 2, .d .bool false], .gone, .row 5 (.int .u8) r0 false] => some r0
 | _, _ => none
def octet_Writer_Raw.b (l b : List Int) : Option (List Int) :=
 (if ((((List.length l) + (List.length b)) * (1 : Nat)) ≤ lim) then some ((l ++ b)) else none)
def octet_Writer_Raw.f (fuel : Nat) (l b : List Int) : Option (List Int) := octet_Writer_Raw.b l b
theorem octet_Writer_Raw.eq (fuel : Nat) (l b : List Int) : (denF octet_Writer_Raw_E loopN fuel Tryz.f130 [.raw, .pb [.own (some 0) [] 0 5 (.int .u8) true, .kill 1]] [.ptr 0 0, .d (.sl (.int .u8)) b] [.box [.row 1, .d .bool false], .row 5 (.int .u8) l false] octet_Writer_Raw.k) = octet_Writer_Raw.f fuel l b := by
 kernel_rfl
def s_octet_Writer_Raw : Den.Sum := ⟨[.pb [.own none [] 0 5 (.int .u8) false], .dat (.sl (.int .u8)) false], fun args objs κ => match args, objs with
 | [.ptr 0 0, .d (.sl (.int .u8)) b], [.box [.row 1, .d .bool false], .row 5 (.int .u8) l false] => (match veil (octet_Writer_Raw.f BIG l b) with | none => none | some y => κ [.ptr 0 0] [.box [.row 2, .d .bool false], .gone, .row 5 (.int .u8) y false])
 | _, _ => none⟩
theorem s_octet_Writer_Raw_det : SumDet s_octet_Writer_Raw := sdet fun _ _ _ _ => by
 unfold s_octet_Writer_Raw
 simp only [veil_eq]
 split
 ·split <;> rfl
 ·rfl
theorem s_octet_Writer_Raw_ok : SumOk Tryz.prog 130 s_octet_Writer_Raw := by
 have hE : EnvOk Tryz.prog octet_Writer_Raw_E := env_ok (l := []) th_ok any_ok trivial _
 refine sum_ok hE Tryz.func130 rfl (by kernel_rfl) s_octet_Writer_Raw [.raw, .pb [.own (some 0) [] 0 5 (.int .u8) true, .kill 1]] octet_Writer_Raw.k ?_
 intro R avs objs κ r h
 unfold s_octet_Writer_Raw at h
 simp only [veil_eq] at h
 split at h
 ·rename_i b l
  split at h
  ·cases h
  ·rename_i y hy
   refine ⟨BIG, _, _, _, (octet_Writer_Raw.eq BIG l b).trans hy, ?_, h⟩
   intro rs ros hk
   unfold octet_Writer_Raw.k at hk
   split at hk
   ·first | (cases hk; exact ⟨rfl, rfl⟩) | (rw [← Option.some.inj hk]; exact ⟨rfl, rfl⟩)
   ·cases hk
 ·cases h
def varint_Of_E : Env := ⟨th, gam [], fun i => if i = 2 then ⟨[0, 3], [(3, 5, (.int .u8))], []⟩ else ⟨[], [], []⟩⟩
def varint_Of.k (rs : List AV) (os : List Den.Obj) : Option (List Int) :=
 match rs, os with
 | [.row 0], [.row 5 (.int .u8) r0 false] => some r0
 | _, _ => none
def varint_Of.s2 (v x0 : Int) (x1 : (List Int)) : St := ⟨[.d (.int .u64) x0, .dead, .dead, .row 64, dD, dD, dD, dD, dD, dD, dD, dD, dD, dD, dD, dD, dD, dD, .dead], ofL [(64, .row 5 (.int .u8) x1 false)], 0⟩
def varint_Of.p2 (fuel : Nat) (v : Int) (k : Nat) := fun x0 x1 => lp varint_Of_E fuel Tryz.f131 [.own 5 (.int .u8)] 0 varint_Of.k 2 [] k (varint_Of.s2 v x0 x1)
def varint_Of.b2 (v : Int) (A2 : Int → (List Int) → Option (List Int)) (x0 : Int) (x1 : (List Int)) : Option (List Int) :=
 (if (decide (x0 ≥ (128 : Int))) then (if ((((List.length x1) + (List.length ((bits BinOp.or .u8 (IntKind.wrap .u8 x0) (128 : Int)) :: ([] : List Int)))) * (1 : Nat)) ≤ lim) then A2 (Int.fdiv x0 ((2 : Int) ^ (Min.min (Int.toNat (7 : Int)) (IntKind.bits .u64)))) (x1 ++ ((bits BinOp.or .u8 (IntKind.wrap .u8 x0) (128 : Int)) :: ([] : List Int))) else none) else (if ((((List.length x1) + (List.length ((IntKind.wrap .u8 x0) :: ([] : List Int)))) * (1 : Nat)) ≤ lim) then some ((x1 ++ ((IntKind.wrap .u8 x0) :: ([] : List Int)))) else none))
def varint_Of.l2 (fuel : Nat) (v : Int) : Nat → Int → (List Int) → Option (List Int)
 | 0, _, _ => none
 | k + 1, x0, x1 => varint_Of.b2 v (varint_Of.l2 fuel v k) x0 x1
def varint_Of.b (v : Int) (E2 : Int → (List Int) → Option (List Int)) : Option (List Int) :=
 E2 v ([] : List Int)
def varint_Of.f (fuel : Nat) (v : Int) : Option (List Int) := varint_Of.b v (varint_Of.l2 fuel v fuel)
theorem varint_Of.l2_eq (fuel : Nat) (v : Int) : ∀ k : Nat, varint_Of.p2 fuel v k = varint_Of.l2 fuel v k
 | 0 => by kernel_rfl
 | k + 1 => by
  refine Eq.trans (b := varint_Of.b2 v (varint_Of.p2 fuel v k)) (by kernel_rfl) ?_
  rw [varint_Of.l2_eq fuel v k]
  kernel_rfl
theorem varint_Of.eq (fuel : Nat) (v : Int) : (denF varint_Of_E loopN fuel Tryz.f131 [.own 5 (.int .u8)] [.d (.int .u64) v] [] varint_Of.k) = varint_Of.f fuel v := by
 refine Eq.trans (b := varint_Of.b v (varint_Of.p2 fuel v fuel)) (by kernel_rfl) ?_
 rw [varint_Of.l2_eq fuel v fuel]
 kernel_rfl
def s_varint_Of : Den.Sum := ⟨[.raw], fun args objs κ => match args, objs with
 | [.d (.int .u64) v], [] => (match veil (varint_Of.f BIG v) with | none => none | some y => κ [.row 0] [.row 5 (.int .u8) y false])
 | _, _ => none⟩
theorem s_varint_Of_det : SumDet s_varint_Of := sdet fun _ _ _ _ => by
 unfold s_varint_Of
 simp only [veil_eq]
 split
 ·split <;> rfl
 ·rfl
theorem s_varint_Of_ok : SumOk Tryz.prog 131 s_varint_Of := by
 have hE : EnvOk Tryz.prog varint_Of_E := env_ok (l := []) th_ok any_ok trivial _
 refine sum_ok hE Tryz.func131 rfl (by kernel_rfl) s_varint_Of [.own 5 (.int .u8)] varint_Of.k ?_
 intro R avs objs κ r h
 unfold s_varint_Of at h
 simp only [veil_eq] at h
 split at h
 ·rename_i v
  split at h
  ·cases h
  ·rename_i y hy
   refine ⟨BIG, _, _, _, (varint_Of.eq BIG v).trans hy, ?_, h⟩
   intro rs ros hk
   unfold varint_Of.k at hk
   split at hk
   ·first | (cases hk; exact ⟨rfl, rfl⟩) | (rw [← Option.some.inj hk]; exact ⟨rfl, rfl⟩)
   ·cases hk
 ·cases h
def varint_Zig_E : Env := ⟨th, gam [], fun i => ⟨[], [], []⟩⟩
def varint_Zig.k (rs : List AV) (os : List Den.Obj) : Option Int :=
 match rs, os with
 | [.d (.int .u64) r0], [] => some r0
 | _, _ => none
def varint_Zig.b (n : Int) : Option Int :=
 some ((bits BinOp.xor .u64 (IntKind.wrap .u64 ((IntKind.wrap .u64 n) * ((2 : Int) ^ (Min.min (Int.toNat (1 : Int)) (IntKind.bits .u64))))) (IntKind.wrap .u64 (Int.fdiv n ((2 : Int) ^ (Min.min (Int.toNat (63 : Int)) (IntKind.bits .i64)))))))
def varint_Zig.f (fuel : Nat) (n : Int) : Option Int := varint_Zig.b n
theorem varint_Zig.eq (fuel : Nat) (n : Int) : (denF varint_Zig_E loopN fuel Tryz.f132 [.raw] [.d tQi n] [] varint_Zig.k) = varint_Zig.f fuel n := by
 kernel_rfl
def s_varint_Zig : Den.Sum := ⟨[.raw], fun args objs κ => match args, objs with
 | [.d (.int .i64) n], [] => (match veil (varint_Zig.f BIG n) with | none => none | some y => κ [.d (.int .u64) y] [])
 | _, _ => none⟩
theorem s_varint_Zig_det : SumDet s_varint_Zig := sdet fun _ _ _ _ => by
 unfold s_varint_Zig
 simp only [veil_eq]
 split
 ·split <;> rfl
 ·rfl
theorem s_varint_Zig_ok : SumOk Tryz.prog 132 s_varint_Zig := by
 have hE : EnvOk Tryz.prog varint_Zig_E := env_ok (l := []) th_ok any_ok trivial _
 refine sum_ok hE Tryz.func132 rfl (by kernel_rfl) s_varint_Zig [.raw] varint_Zig.k ?_
 intro R avs objs κ r h
 unfold s_varint_Zig at h
 simp only [veil_eq] at h
 split at h
 ·rename_i n
  split at h
  ·cases h
  ·rename_i y hy
   refine ⟨BIG, _, _, _, (varint_Zig.eq BIG n).trans hy, ?_, h⟩
   intro rs ros hk
   unfold varint_Zig.k at hk
   split at hk
   ·first | (cases hk; exact ⟨rfl, rfl⟩) | (rw [← Option.some.inj hk]; exact ⟨rfl, rfl⟩)
   ·cases hk
 ·cases h
def rec_Find_c1_E : Env := ⟨th, gam [], fun i => ⟨[], [], []⟩⟩
def rec_Find_c1.k (rs : List AV) (os : List Den.Obj) : Option (Bool × Int) :=
 match rs, os with
 | [.d .bool r0], [.box [.d (.int .i64) r1]] => some (r0, r1)
 | _, _ => none
def rec_Find_c1.b (r0ID r0Inc r0Status r0SpanLo r0SpanHi : Int) (r0Cut : Bool) (r0Bag : LF) (id0 : Int) : Option (Bool × Int) :=
 some ((r0ID == id0), id0)
def rec_Find_c1.f (fuel : Nat) (r0ID r0Inc r0Status r0SpanLo r0SpanHi : Int) (r0Cut : Bool) (r0Bag : LF) (id0 : Int) : Option (Bool × Int) := rec_Find_c1.b r0ID r0Inc r0Status r0SpanLo r0SpanHi r0Cut r0Bag id0
theorem rec_Find_c1.eq (fuel : Nat) (r0ID r0Inc r0Status r0SpanLo r0SpanHi : Int) (r0Cut : Bool) (r0Bag : LF) (id0 : Int) : (denF rec_Find_c1_E loopN fuel Tryz.f134 [.raw] [.agg [.d tQi r0ID, .d tQi r0Inc, .d tQi r0Status, .d tQi r0SpanLo, .d tQi r0SpanHi, .d .bool r0Cut, .d (.sl (.pair tQi (.sl (.int .u8)))) r0Bag], .ptr 0 0] [.box [.d tQi id0]] rec_Find_c1.k) = rec_Find_c1.f fuel r0ID r0Inc r0Status r0SpanLo r0SpanHi r0Cut r0Bag id0 := by
 kernel_rfl
def s_rec_Find_c1 : Den.Sum := ⟨[.dat tQr true, .raw], fun args objs κ => match args, objs with
 | [.agg [.d (.int .i64) r0ID, .d (.int .i64) r0Inc, .d (.int .i64) r0Status, .d (.int .i64) r0SpanLo, .d (.int .i64) r0SpanHi, .d .bool r0Cut, .d (.sl (.pair (.int .i64) (.sl (.int .u8)))) r0Bag], .ptr 0 0], [.box [.d (.int .i64) id0]] => (match veil (rec_Find_c1.f BIG r0ID r0Inc r0Status r0SpanLo r0SpanHi r0Cut r0Bag id0) with | none => none | some y => κ [.d .bool y.1] [.box [.d (.int .i64) y.2]])
 | _, _ => none⟩
theorem s_rec_Find_c1_det : SumDet s_rec_Find_c1 := sdet fun _ _ _ _ => by
 unfold s_rec_Find_c1
 simp only [veil_eq]
 split
 ·split <;> rfl
 ·rfl
theorem s_rec_Find_c1_ok : SumOk Tryz.prog 134 s_rec_Find_c1 := by
 have hE : EnvOk Tryz.prog rec_Find_c1_E := env_ok (l := []) th_ok any_ok trivial _
 refine sum_ok hE Tryz.func134 rfl (by kernel_rfl) s_rec_Find_c1 [.raw] rec_Find_c1.k ?_
 intro R avs objs κ r h
 unfold s_rec_Find_c1 at h
 simp only [veil_eq] at h
 split at h
 ·rename_i r0ID r0Inc r0Status r0SpanLo r0SpanHi r0Cut r0Bag id0
  split at h
  ·cases h
  ·rename_i y hy
   refine ⟨BIG, _, _, _, (rec_Find_c1.eq BIG r0ID r0Inc r0Status r0SpanLo r0SpanHi r0Cut r0Bag id0).trans hy, ?_, h⟩
   intro rs ros hk
   unfold rec_Find_c1.k at hk
   split at hk
   ·first | (cases hk; exact ⟨rfl, rfl⟩) | (rw [← Option.some.inj hk]; exact ⟨rfl, rfl⟩)
   ·cases hk
 ·cases h
def bag_one_E : Env := ⟨th, gam [], fun i => ⟨[], [], []⟩⟩
def bag_one.k (rs : List AV) (os : List Den.Obj) : Option (Int × (List Int)) :=
 match rs, os with
 | [.agg [.d (.int .i64) r0, .d (.sl (.int .u8)) r1]], [] => some (r0, r1)
 | _, _ => none
def bag_one.b (fTag : Int) (fData : List Int) : Option (Int × (List Int)) :=
 (if (((0 : Int) ≤ ((((List.length fData)) : Nat) : Int)) ∧ ((((((List.length fData)) : Nat) : Int) ≤ ((((List.length fData)) : Nat) : Int)) ∧ (((((((List.length fData)) : Nat) : Int) * ((((1 : Nat)) : Nat) : Int)) ≤ (1099511627776 : Int)) ∧ (((((List.length fData)) : Nat) : Int) ≤ (1099511627776 : Int))))) then (if ((false = false) ∧ ((List.length fData) ≤ (List.length (List.replicate (Int.toNat ((((List.length fData)) : Nat) : Int)) (zeroI (Go.Den.Ty.int .u8)))))) then some (fTag, (fData ++ (List.drop (List.length fData) (List.replicate (Int.toNat ((((List.length fData)) : Nat) : Int)) (zeroI (Go.Den.Ty.int .u8)))))) else none) else none)
def bag_one.f (fuel : Nat) (fTag : Int) (fData : List Int) : Option (Int × (List Int)) := bag_one.b fTag fData
theorem bag_one.eq (fuel : Nat) (fTag : Int) (fData : List Int) : (denF bag_one_E loopN fuel Tryz.f139 [.dat (.pair tQi (.sl (.int .u8))) true] [.agg [.d tQi fTag, .d (.sl (.int .u8)) fData]] [] bag_one.k) = bag_one.f fuel fTag fData := by
 kernel_rfl
def s_bag_one : Den.Sum := ⟨[.dat (.pair tQi (.sl (.int .u8))) true], fun args objs κ => match args, objs with
 | [.agg [.d (.int .i64) fTag, .d (.sl (.int .u8)) fData]], [] => (match veil (bag_one.f BIG fTag fData) with | none => none | some y => κ [.agg [.d (.int .i64) y.1, .d (.sl (.int .u8)) y.2]] [])
 | _, _ => none⟩
theorem s_bag_one_det : SumDet s_bag_one := sdet fun _ _ _ _ => by
 unfold s_bag_one
 simp only [veil_eq]
 split
 ·split <;> rfl
 ·rfl
theorem s_bag_one_ok : SumOk Tryz.prog 139 s_bag_one := by
 have hE : EnvOk Tryz.prog bag_one_E := env_ok (l := []) th_ok any_ok trivial _
 refine sum_ok hE Tryz.func139 rfl (by kernel_rfl) s_bag_one [.dat (.pair tQi (.sl (.int .u8))) true] bag_one.k ?_
 intro R avs objs κ r h
 unfold s_bag_one at h
 simp only [veil_eq] at h
 split at h
 ·rename_i fTag fData
  split at h
  ·cases h
  ·rename_i y hy
   refine ⟨BIG, _, _, _, (bag_one.eq BIG fTag fData).trans hy, ?_, h⟩
   intro rs ros hk
   unfold bag_one.k at hk
   split at hk
   ·first | (cases hk; exact ⟨rfl, rfl⟩) | (rw [← Option.some.inj hk]; exact ⟨rfl, rfl⟩)
   ·cases hk
 ·cases h
def rec_where_api_Rec_find_E : Env := ⟨th, gam [(134, s_rec_Find_c1)], fun i => if i = 2 then ⟨[0, 1, 7, 8, 9], [], []⟩ else ⟨[], [], []⟩⟩
def rec_where_api_Rec_find.k (rs : List AV) (os : List Den.Obj) : Option (Int × Int) :=
 match rs, os with
 | [.d (.int .i64) r0], [.box [.d (.int .i64) r1]] => some (r0, r1)
 | _, _ => none
def rec_where_api_Rec_find.s2 (l : LR) (id0 x0 x1 x2 : Int) : St := ⟨[.d (.sl tQr) (l), .fn (.func 134) [] [.ptr 0 0], dD, dD, dD, dD, dD, .d (.sl tQr) (l), .d tQi x0, .d tQi x1, dD, dD, dD, dD, dD, dD, dD, dD, dD, dD, .dead], ofL [(0, .box [.d tQi x2])], 1⟩
def rec_where_api_Rec_find.p2 (fuel : Nat) (l : LR) (id0 : Int) (k : Nat) := fun x0 x1 x2 => lp rec_where_api_Rec_find_E fuel Tryz.f116 [.raw] 1 rec_where_api_Rec_find.k 2 [] k (rec_where_api_Rec_find.s2 l id0 x0 x1 x2)
def rec_where_api_Rec_find.b2 (l : LR) (id0 : Int) (A2 : Int → Int → Int → Option (Int × Int)) (x0 : Int) (x1 : Int) (x2 : Int) : Option (Int × Int) :=
 (if (decide (x1 < x0)) then (match (idx l x1) with | none => none | some y3 => (match (veil (rec_Find_c1.f BIG y3.1 y3.2.1 y3.2.2.1 y3.2.2.2.1.1 y3.2.2.2.1.2 y3.2.2.2.2.1 y3.2.2.2.2.2 x2)) with | none => none | some y4 => (if y4.1 then some (x1, y4.2) else A2 x0 (IntKind.wrap .i64 (x1 + (1 : Int))) y4.2))) else some (((((List.length l)) : Nat) : Int), x2))
def rec_where_api_Rec_find.l2 (fuel : Nat) (l : LR) (id0 : Int) : Nat → Int → Int → Int → Option (Int × Int)
 | 0, _, _, _ => none
 | k + 1, x0, x1, x2 => rec_where_api_Rec_find.b2 l id0 (rec_where_api_Rec_find.l2 fuel l id0 k) x0 x1 x2
def rec_where_api_Rec_find.b (l : LR) (id0 : Int) (E2 : Int → Int → Int → Option (Int × Int)) : Option (Int × Int) :=
 E2 ((((List.length l)) : Nat) : Int) (0 : Int) id0
def rec_where_api_Rec_find.f (fuel : Nat) (l : LR) (id0 : Int) : Option (Int × Int) := rec_where_api_Rec_find.b l id0 (rec_where_api_Rec_find.l2 fuel l id0 fuel)
theorem rec_where_api_Rec_find.l2_eq (fuel : Nat) (l : LR) (id0 : Int) : ∀ k : Nat, rec_where_api_Rec_find.p2 fuel l id0 k = rec_where_api_Rec_find.l2 fuel l id0 k
 | 0 => by kernel_rfl
 | k + 1 => by
  refine Eq.trans (b := rec_where_api_Rec_find.b2 l id0 (rec_where_api_Rec_find.p2 fuel l id0 k)) (by kernel_rfl) ?_
  rw [rec_where_api_Rec_find.l2_eq fuel l id0 k]
  kernel_rfl
theorem rec_where_api_Rec_find.eq (fuel : Nat) (l : LR) (id0 : Int) : (denF rec_where_api_Rec_find_E loopN fuel Tryz.f116 [.raw] [.d (.sl tQr) l, .fn (.func 134) [] [.ptr 0 0]] [.box [.d tQi id0]] rec_where_api_Rec_find.k) = rec_where_api_Rec_find.f fuel l id0 := by
 refine Eq.trans (b := rec_where_api_Rec_find.b l id0 (rec_where_api_Rec_find.p2 fuel l id0 fuel)) (by kernel_rfl) ?_
 rw [rec_where_api_Rec_find.l2_eq fuel l id0 fuel]
 kernel_rfl
def s_rec_where_api_Rec_find : Den.Sum := ⟨[.dat (.sl tQr) false, .raw], fun args objs κ => match args, objs with
 | [.d (.sl (.pair (.int .i64) (.pair (.int .i64) (.pair (.int .i64) (.pair (.pair (.int .i64) (.int .i64)) (.pair .bool (.sl (.pair (.int .i64) (.sl (.int .u8)))))))))) l, .fn (.func 134) [] [.ptr 0 0]], [.box [.d (.int .i64) id0]] => (match veil (rec_where_api_Rec_find.f BIG l id0) with | none => none | some y => κ [.d (.int .i64) y.1] [.box [.d (.int .i64) y.2]])
 | _, _ => none⟩
theorem s_rec_where_api_Rec_find_det : SumDet s_rec_where_api_Rec_find := sdet fun _ _ _ _ => by
 unfold s_rec_where_api_Rec_find
 simp only [veil_eq]
 split
 ·split <;> rfl
 ·rfl
theorem s_rec_where_api_Rec_find_ok : SumOk Tryz.prog 116 s_rec_where_api_Rec_find := by
 have hE : EnvOk Tryz.prog rec_where_api_Rec_find_E := env_ok (l := [(134, s_rec_Find_c1)]) th_ok any_ok ⟨⟨s_rec_Find_c1_ok, s_rec_Find_c1_det⟩, trivial⟩ _
 refine sum_ok hE Tryz.func116 rfl (by kernel_rfl) s_rec_where_api_Rec_find [.raw] rec_where_api_Rec_find.k ?_
 intro R avs objs κ r h
 unfold s_rec_where_api_Rec_find at h
 simp only [veil_eq] at h
 split at h
 ·rename_i l id0
  split at h
  ·cases h
  ·rename_i y hy
   refine ⟨BIG, _, _, _, (rec_where_api_Rec_find.eq BIG l id0).trans hy, ?_, h⟩
   intro rs ros hk
   unfold rec_where_api_Rec_find.k at hk
   split at hk
   ·first | (cases hk; exact ⟨rfl, rfl⟩) | (rw [← Option.some.inj hk]; exact ⟨rfl, rfl⟩)
   ·cases hk
 ·cases h
def s_rec_where_api_Rec : Den.Sum := ⟨[.dat (.sl tQr) false, .raw], fun args objs κ => match args, objs with
 | [.d (.sl (.pair (.int .i64) (.pair (.int .i64) (.pair (.int .i64) (.pair (.pair (.int .i64) (.int .i64)) (.pair .bool (.sl (.pair (.int .i64) (.sl (.int .u8)))))))))) l, .fn (.func 117) [] [.ptr 0 0]], [.box [.d (.int .i64) last]] => s_where.run [.d (.sl (.pair (.int .i64) (.pair (.int .i64) (.pair (.int .i64) (.pair (.pair (.int .i64) (.int .i64)) (.pair .bool (.sl (.pair (.int .i64) (.sl (.int .u8)))))))))) l, .fn (.func 117) [] [.ptr 0 0]] [.box [.d (.int .i64) last]] κ
 | [.d (.sl (.pair (.int .i64) (.pair (.int .i64) (.pair (.int .i64) (.pair (.pair (.int .i64) (.int .i64)) (.pair .bool (.sl (.pair (.int .i64) (.sl (.int .u8)))))))))) l, .fn (.func 134) [] [.ptr 0 0]], [.box [.d (.int .i64) id0]] => s_rec_where_api_Rec_find.run [.d (.sl (.pair (.int .i64) (.pair (.int .i64) (.pair (.int .i64) (.pair (.pair (.int .i64) (.int .i64)) (.pair .bool (.sl (.pair (.int .i64) (.sl (.int .u8)))))))))) l, .fn (.func 134) [] [.ptr 0 0]] [.box [.d (.int .i64) id0]] κ
 | _, _ => none⟩
theorem s_rec_where_api_Rec_det : SumDet s_rec_where_api_Rec := sdet fun _ _ R κ => by
 unfold s_rec_where_api_Rec
 simp only
 split
 ·exact s_where_det _ _ R κ
 ·exact s_rec_where_api_Rec_find_det _ _ R κ
 ·rfl
theorem s_rec_where_api_Rec_ok : SumOk Tryz.prog 116 s_rec_where_api_Rec := by
 refine ⟨s_where_ok.1, ?_⟩
 intro R avs objs κ r h
 unfold s_rec_where_api_Rec at h
 simp only at h
 split at h
 ·exact s_where_ok.2 _ _ κ r h
 ·exact s_rec_where_api_Rec_find_ok.2 _ _ κ r h
 ·cases h
def gen3_writer_form_E : Env := ⟨th, gam [(130, s_octet_Writer_Raw), (131, s_varint_Of)], fun i => if i = 2 then ⟨[2, 6, 7, 8], [], [1001]⟩ else ⟨[], [], []⟩⟩
def gen3_writer_form.k (rs : List AV) (os : List Den.Obj) : Option (List Int) :=
 match rs, os with
 | [], [.box [.row 2, .d .bool false], .gone, .row 5 (.int .u8) r0 false] => some r0
 | _, _ => none
def gen3_writer_form.s2 (l lq : List Int) (x0 x1 : Int) (x2 : (List Int)) : St := ⟨[.dead, .dead, .ptr 65 0, dD, dD, dD, .d (.sl tQi) (lq), .d tQi x0, .d tQi x1, dD, dD, dD, dD, dD, dD, dD, dD, dD, .dead], ofL [(0, .box [.row 64, .d .bool (false)]), (1, .gone), (64, .row 5 (.int .u8) x2 false), (65, .box [.ptr 0 0])], 2⟩
def gen3_writer_form.p2 (fuel : Nat) (l lq : List Int) (k : Nat) := fun x0 x1 x2 => lp gen3_writer_form_E fuel Tryz.f119 [.pb [.own (some 0) [] 0 5 (.int .u8) true, .kill 1]] 2 gen3_writer_form.k 2 [] k (gen3_writer_form.s2 l lq x0 x1 x2)
def gen3_writer_form.b2 (l lq : List Int) (A2 : Int → Int → (List Int) → Option (List Int)) (x0 : Int) (x1 : Int) (x2 : (List Int)) : Option (List Int) :=
 (if (decide (x1 < x0)) then (match (idx lq x1) with | none => none | some y3 => (match (veil (varint_Of.f BIG (IntKind.wrap .u64 y3))) with | none => none | some y4 => (match (veil (octet_Writer_Raw.f BIG x2 y4)) with | none => none | some y5 => A2 x0 (IntKind.wrap .i64 (x1 + (1 : Int))) y5))) else some (x2))
def gen3_writer_form.l2 (fuel : Nat) (l lq : List Int) : Nat → Int → Int → (List Int) → Option (List Int)
 | 0, _, _, _ => none
 | k + 1, x0, x1, x2 => gen3_writer_form.b2 l lq (gen3_writer_form.l2 fuel l lq k) x0 x1 x2
def gen3_writer_form.b (l lq : List Int) (E2 : Int → Int → (List Int) → Option (List Int)) : Option (List Int) :=
 E2 ((((List.length lq)) : Nat) : Int) (0 : Int) l
def gen3_writer_form.f (fuel : Nat) (l lq : List Int) : Option (List Int) := gen3_writer_form.b l lq (gen3_writer_form.l2 fuel l lq fuel)
theorem gen3_writer_form.l2_eq (fuel : Nat) (l lq : List Int) : ∀ k : Nat, gen3_writer_form.p2 fuel l lq k = gen3_writer_form.l2 fuel l lq k
 | 0 => by kernel_rfl
 | k + 1 => by
  refine Eq.trans (b := gen3_writer_form.b2 l lq (gen3_writer_form.p2 fuel l lq k)) (by kernel_rfl) ?_
  rw [gen3_writer_form.l2_eq fuel l lq k]
  kernel_rfl
theorem gen3_writer_form.eq (fuel : Nat) (l lq : List Int) : (denF gen3_writer_form_E loopN fuel Tryz.f119 [.pb [.own (some 0) [] 0 5 (.int .u8) true, .kill 1]] [.agg [.ptr 0 0], .d (.sl tQi) lq] [.box [.row 1, .d .bool false], .row 5 (.int .u8) l false] gen3_writer_form.k) = gen3_writer_form.f fuel l lq := by
 refine Eq.trans (b := gen3_writer_form.b l lq (gen3_writer_form.p2 fuel l lq fuel)) (by kernel_rfl) ?_
 rw [gen3_writer_form.l2_eq fuel l lq fuel]
 kernel_rfl
def s_gen3_writer_form : Den.Sum := ⟨[.pb [.own none [0] 0 5 (.int .u8) false], .dat (.sl tQi) false], fun args objs κ => match args, objs with
 | [.agg [.ptr 0 0], .d (.sl (.int .i64)) lq], [.box [.row 1, .d .bool false], .row 5 (.int .u8) l false] => (match veil (gen3_writer_form.f BIG l lq) with | none => none | some y => κ [] [.box [.row 2, .d .bool false], .gone, .row 5 (.int .u8) y false])
 | _, _ => none⟩
theorem s_gen3_writer_form_det : SumDet s_gen3_writer_form := sdet fun _ _ _ _ => by
 unfold s_gen3_writer_form
 simp only [veil_eq]
 split
 ·split <;> rfl
 ·rfl
theorem s_gen3_writer_form_ok : SumOk Tryz.prog 119 s_gen3_writer_form := by
 have hE : EnvOk Tryz.prog gen3_writer_form_E := env_ok (l := [(130, s_octet_Writer_Raw), (131, s_varint_Of)]) th_ok any_ok ⟨⟨s_octet_Writer_Raw_ok, s_octet_Writer_Raw_det⟩, ⟨s_varint_Of_ok, s_varint_Of_det⟩, trivial⟩ _
 refine sum_ok hE Tryz.func119 rfl (by kernel_rfl) s_gen3_writer_form [.pb [.own (some 0) [] 0 5 (.int .u8) true, .kill 1]] gen3_writer_form.k ?_
 intro R avs objs κ r h
 unfold s_gen3_writer_form at h
 simp only [veil_eq] at h
 split at h
 ·rename_i lq l
  split at h
  ·cases h
  ·rename_i y hy
   refine ⟨BIG, _, _, _, (gen3_writer_form.eq BIG l lq).trans hy, ?_, h⟩
   intro rs ros hk
   unfold gen3_writer_form.k at hk
   split at hk
   ·first | (cases hk; exact ⟨rfl, rfl⟩) | (rw [← Option.some.inj hk]; exact ⟨rfl, rfl⟩)
   ·cases hk
 ·cases h
def bag_Copy_E : Env := ⟨th, gam [(139, s_bag_one)], fun i => if i = 3 then ⟨[3, 6, 7, 8], [(3, 86, (.pair tQi (.sl (.int .u8))))], []⟩ else ⟨[], [], []⟩⟩
def bag_Copy.k (rs : List AV) (os : List Den.Obj) : Option LF :=
 match rs, os with
 | [.row 0], [.row 86 (.pair (.int .i64) (.sl (.int .u8))) r0 false] => some r0
 | _, _ => none
def bag_Copy.s3 (b : LF) (x0 x1 : Int) (x2 : LF) : St := ⟨[dD, dD, dD, .row 64, .dead, .dead, .d (.sl (.pair tQi (.sl (.int .u8)))) (b), .d tQi x0, .d tQi x1, dD, dD, dD, dD, dD, dD, dD, dD, dD, .dead], ofL [(64, .row 86 (.pair tQi (.sl (.int .u8))) x2 false)], 0⟩
def bag_Copy.p3 (fuel : Nat) (b : LF) (k : Nat) := fun x0 x1 x2 => lp bag_Copy_E fuel Tryz.f137 [.own 86 (.pair tQi (.sl (.int .u8)))] 0 bag_Copy.k 3 [] k (bag_Copy.s3 b x0 x1 x2)
def bag_Copy.b3 (b : LF) (A3 : Int → Int → LF → Option LF) (x0 x1 : Int) (x2 : LF) : Option LF :=
 (if (decide (x1 < x0)) then (match (idx b x1) with | none => none | some y3 => (match (veil (bag_one.f BIG y3.1 y3.2)) with | none => none | some y4 => (if ((((List.length x2) + (List.length ((y4.1, y4.2) :: ([] : LF)))) * (32 : Nat)) ≤ lim) then A3 x0 (IntKind.wrap .i64 (x1 + (1 : Int))) (x2 ++ ((y4.1, y4.2) :: ([] : LF))) else none))) else some (x2))
def bag_Copy.l3 (fuel : Nat) (b : LF) : Nat → Int → Int → LF → Option LF
 | 0, _, _, _ => none
 | k + 1, x0, x1, x2 => bag_Copy.b3 b (bag_Copy.l3 fuel b k) x0 x1 x2
def bag_Copy.b (b : LF) (E3 : Int → Int → LF → Option LF) : Option LF :=
 E3 ((((List.length b)) : Nat) : Int) (0 : Int) ([] : LF)
def bag_Copy.f (fuel : Nat) (b : LF) : Option LF := bag_Copy.b b (bag_Copy.l3 fuel b fuel)
theorem bag_Copy.l3_eq (fuel : Nat) (b : LF) : ∀ k : Nat, bag_Copy.p3 fuel b k = bag_Copy.l3 fuel b k
 | 0 => by kernel_rfl
 | k + 1 => by
  refine Eq.trans (b := bag_Copy.b3 b (bag_Copy.p3 fuel b k)) (by kernel_rfl) ?_
  rw [bag_Copy.l3_eq fuel b k]
  kernel_rfl
theorem bag_Copy.eq (fuel : Nat) (b : LF) : (denF bag_Copy_E loopN fuel Tryz.f137 [.own 86 (.pair tQi (.sl (.int .u8)))] [.d (.sl (.pair tQi (.sl (.int .u8)))) b] [] bag_Copy.k) = bag_Copy.f fuel b := by
 refine Eq.trans (b := bag_Copy.b b (bag_Copy.p3 fuel b fuel)) (by kernel_rfl) ?_
 rw [bag_Copy.l3_eq fuel b fuel]
 kernel_rfl
def s_bag_Copy : Den.Sum := ⟨[.dat (.sl (.pair tQi (.sl (.int .u8)))) false], fun args objs κ => match args, objs with
 | [.d (.sl (.pair (.int .i64) (.sl (.int .u8)))) b], [] => (match veil (bag_Copy.f BIG b) with | none => none | some y => κ [.row 0] [.row 86 (.pair (.int .i64) (.sl (.int .u8))) y false])
 | _, _ => none⟩
theorem s_bag_Copy_det : SumDet s_bag_Copy := sdet fun _ _ _ _ => by
 unfold s_bag_Copy
 simp only [veil_eq]
 split
 ·split <;> rfl
 ·rfl
theorem s_bag_Copy_ok : SumOk Tryz.prog 137 s_bag_Copy := by
 have hE : EnvOk Tryz.prog bag_Copy_E := env_ok (l := [(139, s_bag_one)]) th_ok any_ok ⟨⟨s_bag_one_ok, s_bag_one_det⟩, trivial⟩ _
 refine sum_ok hE Tryz.func137 rfl (by kernel_rfl) s_bag_Copy [.own 86 (.pair tQi (.sl (.int .u8)))] bag_Copy.k ?_
 intro R avs objs κ r h
 unfold s_bag_Copy at h
 simp only [veil_eq] at h
 split at h
 ·rename_i b
  split at h
  ·cases h
  ·rename_i y hy
   refine ⟨BIG, _, _, _, (bag_Copy.eq BIG b).trans hy, ?_, h⟩
   intro rs ros hk
   unfold bag_Copy.k at hk
   split at hk
   ·first | (cases hk; exact ⟨rfl, rfl⟩) | (rw [← Option.some.inj hk]; exact ⟨rfl, rfl⟩)
   ·cases hk
 ·cases h
def rec_clone_E : Env := ⟨th, gam [(137, s_bag_Copy)], fun i => ⟨[], [], []⟩⟩
def rec_clone.k (rs : List AV) (os : List Den.Obj) : Option (Int × Int × Int × Int × Int × Bool × LF) :=
 match rs, os with
 | [.agg [.d (.int .i64) r0, .d (.int .i64) r1, .d (.int .i64) r2, .d (.int .i64) r3, .d (.int .i64) r4, .d .bool r5, .d (.sl (.pair (.int .i64) (.sl (.int .u8)))) r6]], [] => some (r0, r1, r2, r3, r4, r5, r6)
 | _, _ => none
def rec_clone.b (r0ID r0Inc r0Status r0SpanLo r0SpanHi : Int) (r0Cut : Bool) (r0Bag : LF) : Option (Int × Int × Int × Int × Int × Bool × LF) :=
 (match (veil (bag_Copy.f BIG r0Bag)) with | none => none | some y0 => some (r0ID, r0Inc, r0Status, r0SpanLo, r0SpanHi, r0Cut, y0))
def rec_clone.f (fuel : Nat) (r0ID r0Inc r0Status r0SpanLo r0SpanHi : Int) (r0Cut : Bool) (r0Bag : LF) : Option (Int × Int × Int × Int × Int × Bool × LF) := rec_clone.b r0ID r0Inc r0Status r0SpanLo r0SpanHi r0Cut r0Bag
theorem rec_clone.eq (fuel : Nat) (r0ID r0Inc r0Status r0SpanLo r0SpanHi : Int) (r0Cut : Bool) (r0Bag : LF) : (denF rec_clone_E loopN fuel Tryz.f135 [.dat tQr true] [.agg [.d tQi r0ID, .d tQi r0Inc, .d tQi r0Status, .d tQi r0SpanLo, .d tQi r0SpanHi, .d .bool r0Cut, .d (.sl (.pair tQi (.sl (.int .u8)))) r0Bag]] [] rec_clone.k) = rec_clone.f fuel r0ID r0Inc r0Status r0SpanLo r0SpanHi r0Cut r0Bag := by
 kernel_rfl
def s_rec_clone : Den.Sum := ⟨[.dat tQr true], fun args objs κ => match args, objs with
 | [.agg [.d (.int .i64) r0ID, .d (.int .i64) r0Inc, .d (.int .i64) r0Status, .d (.int .i64) r0SpanLo, .d (.int .i64) r0SpanHi, .d .bool r0Cut, .d (.sl (.pair (.int .i64) (.sl (.int .u8)))) r0Bag]], [] => (match veil (rec_clone.f BIG r0ID r0Inc r0Status r0SpanLo r0SpanHi r0Cut r0Bag) with | none => none | some y => κ [.agg [.d (.int .i64) y.1, .d (.int .i64) y.2.1, .d (.int .i64) y.2.2.1, .d (.int .i64) y.2.2.2.1, .d (.int .i64) y.2.2.2.2.1, .d .bool y.2.2.2.2.2.1, .d (.sl (.pair (.int .i64) (.sl (.int .u8)))) y.2.2.2.2.2.2]] [])
 | _, _ => none⟩
theorem s_rec_clone_det : SumDet s_rec_clone := sdet fun _ _ _ _ => by
 unfold s_rec_clone
 simp only [veil_eq]
 split
 ·split <;> rfl
 ·rfl
theorem s_rec_clone_ok : SumOk Tryz.prog 135 s_rec_clone := by
 have hE : EnvOk Tryz.prog rec_clone_E := env_ok (l := [(137, s_bag_Copy)]) th_ok any_ok ⟨⟨s_bag_Copy_ok, s_bag_Copy_det⟩, trivial⟩ _
 refine sum_ok hE Tryz.func135 rfl (by kernel_rfl) s_rec_clone [.dat tQr true] rec_clone.k ?_
 intro R avs objs κ r h
 unfold s_rec_clone at h
 simp only [veil_eq] at h
 split at h
 ·rename_i r0ID r0Inc r0Status r0SpanLo r0SpanHi r0Cut r0Bag
  split at h
  ·cases h
  ·rename_i y hy
   refine ⟨BIG, _, _, _, (rec_clone.eq BIG r0ID r0Inc r0Status r0SpanLo r0SpanHi r0Cut r0Bag).trans hy, ?_, h⟩
   intro rs ros hk
   unfold rec_clone.k at hk
   split at hk
   ·first | (cases hk; exact ⟨rfl, rfl⟩) | (rw [← Option.some.inj hk]; exact ⟨rfl, rfl⟩)
   ·cases hk
 ·cases h
theorem takeN_hit {x : Int × List Int} {m : LF} {t n : Int} (h1 : x.1 = t) (h2 : (x.2.length : Int) = n) : takeN (x :: m) false t n = (numB x.2, m, false) := by
 unfold takeN valF
 simp [h1, h2]
theorem takeN_inv {l : LF} {bad : Bool} {t n : Int} (h : (takeN l bad t n).2.2 = false) : bad = false ∧ ∃ x m, l = x :: m ∧ x.1 = t ∧ (x.2.length : Int) = n ∧ takeN l bad t n = (numB x.2, m, false) := by
 cases l with
 | nil => simp [takeN] at h
 | cons x m =>
  unfold takeN at h
  dsimp only at h
  split at h
  ·cases h
  ·rename_i c
   simp at c
   unfold valF at h
   split at h
   ·rename_i c2
    simp at c2
    exact ⟨c.1, x, m, rfl, c.2, by omega, by rw [c.1]; exact takeN_hit c.2 (by omega)⟩
   ·cases h
def hit (t n : Int) : LF → Option (Int × LF)
 | [] => none
 | x :: m => if x.1 == t && ((x.2.length : Int) == n) then some (numB x.2, m) else none
def optT (c : Bool) (t : Int) (m : LF) : Option (Int × LF) := if c then hit t 2 m else some (0, m)
theorem hit_some {t n : Int} {l : LF} {v : Int} {m : LF} (h : hit t n l = some (v, m)) : ∃ x, l = x :: m ∧ v = numB x.2 ∧ x.1 = t ∧ (x.2.length : Int) = n := by
 cases l with
 | nil => simp [hit] at h
 | cons x l =>
  have h' : (if (x.1 == t && ((x.2.length : Int) == n)) = true then some (numB x.2, l) else none) = some (v, m) := h
  by_cases c : (x.1 == t && ((x.2.length : Int) == n)) = true
  ·rw [if_pos c] at h'
   simp at c
   cases h'
   exact ⟨x, rfl, rfl, c.1, c.2⟩
  ·rw [if_neg c] at h'
   cases h'
theorem takeN_of_hit {t n : Int} {l : LF} {v : Int} {m : LF} (h : hit t n l = some (v, m)) : takeN l false t n = (v, m, false) := by
 obtain ⟨x, rfl, rfl, h1, h2⟩ := hit_some h
 exact takeN_hit h1 h2
theorem takeN_bad (l : LF) (t n : Int) : (takeN l true t n).2.2 = true := by
 unfold takeN
 cases l <;> simp
theorem takeN_miss {t n : Int} {l : LF} (h : hit t n l = none) : (takeN l false t n).2.2 = true := by
 cases hb : (takeN l false t n).2.2 with
 | true => rfl
 | false =>
  obtain ⟨_, x, m, rfl, h1, h2, _⟩ := takeN_inv hb
  simp [hit, h1, h2] at h
theorem takeIf_bad (k p : Int) (l : LF) (t : Int) : (takeIf k p l true t).2.2 = true := by
 unfold takeIf
 split
 ·exact takeN_bad l t 2
 ·rfl
theorem takeIf_of_opt {k p t : Int} {l : LF} {v : Int} {m : LF} (h : optT (hasF k p) t l = some (v, m)) : takeIf k p l false t = (v, m, false) := by
 unfold takeIf
 unfold optT at h
 split
 ·rename_i c; rw [if_pos c] at h; exact takeN_of_hit h
 ·rename_i c; rw [if_neg c] at h; cases h; rfl
theorem takeIf_miss {k p t : Int} {l : LF} (h : optT (hasF k p) t l = none) : (takeIf k p l false t).2.2 = true := by
 unfold takeIf
 unfold optT at h
 split
 ·rename_i c; rw [if_pos c] at h; exact takeN_miss h
 ·rename_i c; rw [if_neg c] at h; cases h
def msgP (b : List Int) : Option (Int × Int × Int × Int × Int × Int × LF) :=
 if (splitF b).2 != 0 || decide ((b.length : Int) > 65499) then none else
 match hit 1 1 (splitF b).1 with
 | none => none
 | some (K, m1) => match hit 2 2 m1 with
  | none => none
  | some (f, m2) => match hit 3 6 m2 with
   | none => none
   | some (i, m3) => match hit 4 1 m3 with
    | none => none
    | some (c, m4) => match optT (hasF K 0) 5 m4 with
     | none => none
     | some (s, m5) => match optT (hasF K 1) 6 m5 with
      | none => none
      | some (t, m6) => some (K, f, i, c, s, t, m6)
theorem end2_bad (k f i lo hi s t : Int) (r : Option LR) : end2 true k f i lo hi s t r = (0, 0, 0, 0, 0, 0, 0, [], 4) := by
 cases r <;> rfl
theorem dec2_eq (b : List Int) : decF2 b = match msgP b with
  | none => (0, 0, 0, 0, 0, 0, 0, [], 4)
  | some (K, f, i, c, s, t, m) => end2 false K f i (ofGo allF c).1 (ofGo allF c).2.1 s t (recsD m) := by
 unfold decF2 msgP
 dsimp only
 unfold spanN
 dsimp only
 cases hb : ((splitF b).2 != 0 || decide ((b.length : Int) > 65499))
 ·simp only [Bool.false_eq_true, if_false]
  cases h1 : hit 1 1 (splitF b).1 with
  | none =>
   dsimp only
   rw [takeN_miss h1]
   simp only [takeN_bad, takeIf_bad, end2_bad]
  | some p1 =>
   obtain ⟨K, m1⟩ := p1
   dsimp only
   rw [takeN_of_hit h1]
   dsimp only
   cases h2 : hit 2 2 m1 with
   | none =>
    dsimp only
    rw [takeN_miss h2]
    simp only [takeN_bad, takeIf_bad, end2_bad]
   | some p2 =>
    obtain ⟨f, m2⟩ := p2
    dsimp only
    rw [takeN_of_hit h2]
    dsimp only
    cases h3 : hit 3 6 m2 with
    | none =>
     dsimp only
     rw [takeN_miss h3]
     simp only [takeN_bad, takeIf_bad, end2_bad]
    | some p3 =>
     obtain ⟨i, m3⟩ := p3
     dsimp only
     rw [takeN_of_hit h3]
     dsimp only
     cases h4 : hit 4 1 m3 with
     | none =>
      dsimp only
      rw [takeN_miss h4]
      simp only [takeIf_bad, end2_bad]
     | some p4 =>
      obtain ⟨c, m4⟩ := p4
      dsimp only
      rw [takeN_of_hit h4]
      dsimp only
      cases h5 : optT (hasF K 0) 5 m4 with
      | none =>
       dsimp only
       rw [takeIf_miss h5]
       simp only [takeIf_bad, end2_bad]
      | some p5 =>
       obtain ⟨s, m5⟩ := p5
       dsimp only
       rw [takeIf_of_opt h5]
       dsimp only
       cases h6 : optT (hasF K 1) 6 m5 with
       | none =>
        dsimp only
        rw [takeIf_miss h6]
        simp only [end2_bad]
       | some p6 =>
        obtain ⟨t, m6⟩ := p6
        dsimp only
        rw [takeIf_of_opt h6]
 ·simp only [takeN_bad, takeIf_bad, end2_bad]
  rfl
theorem ofGo_div (c : Int) (h0 : 0 ≤ c) (h1 : c ≤ 255) : (okS (c / 16) (c % 16) = true → ofGo allF c = (c / 16, c % 16, true)) ∧ (okS (c / 16) (c % 16) = false → okS (ofGo allF c).1 (ofGo allF c).2.1 = false) := by
 constructor
 ·intro h
  simp [okS] at h
  have : c = 17 ∨ c = 18 ∨ c = 19 ∨ c = 34 ∨ c = 35 ∨ c = 51 := by omega
  rcases this with rfl | rfl | rfl | rfl | rfl | rfl <;> decide +kernel
 ·intro h
  cases hk : okS (ofGo allF c).1 (ofGo allF c).2.1 with
  | false => rfl
  | true =>
   have he := ofGo_ok hk
   have hk2 := hk
   simp [okS] at hk2
   rw [show c / 16 = (ofGo allF c).1 from by omega, show c % 16 = (ofGo allF c).2.1 from by omega, hk] at h
   cases h
theorem recD_eq (b : List Int) : recD b = match (if (splitF b).2 != 0 then none else match hit 1 2 (splitF b).1 with
  | none => none
  | some (a1, m1) => match hit 2 4 m1 with
   | none => none
   | some (a2, m2) => match hit 3 1 m2 with
    | none => none
    | some (a3, m3) => match hit 4 1 m3 with
     | none => none
     | some (a4, m4) => some (a1, a2, a3, a4, m4)) with
  | none => ((recD b).1, false)
  | some (a1, a2, a3, a4, m) => ((a1, a2, a3 % 128, ((ofGo allF a4).1, (ofGo allF a4).2.1), decide (a3 ≥ 128), m), true) := by
 have key : ∀ r, (recD b).2 = false → r = ((recD b).1, false) → recD b = r := fun r h1 h2 => by rw [h2, ← h1]
 cases hb : ((splitF b).2 != 0)
 ·simp only [Bool.false_eq_true, if_false]
  cases h1 : hit 1 2 (splitF b).1 with
  | none =>
   refine key _ ?_ rfl
   unfold recD spanN
   dsimp only
   rw [hb, takeN_miss h1]
   simp only [takeN_bad, Bool.not_true]
  | some p1 =>
   obtain ⟨a1, m1⟩ := p1
   dsimp only
   cases h2 : hit 2 4 m1 with
   | none =>
    refine key _ ?_ rfl
    unfold recD spanN
    dsimp only
    rw [hb, takeN_of_hit h1]
    dsimp only
    rw [takeN_miss h2]
    simp only [takeN_bad, Bool.not_true]
   | some p2 =>
    obtain ⟨a2, m2⟩ := p2
    dsimp only
    cases h3 : hit 3 1 m2 with
    | none =>
     refine key _ ?_ rfl
     unfold recD spanN
     dsimp only
     rw [hb, takeN_of_hit h1]
     dsimp only
     rw [takeN_of_hit h2]
     dsimp only
     rw [takeN_miss h3]
     simp only [takeN_bad, Bool.not_true]
    | some p3 =>
     obtain ⟨a3, m3⟩ := p3
     dsimp only
     cases h4 : hit 4 1 m3 with
     | none =>
      refine key _ ?_ rfl
      unfold recD spanN
      dsimp only
      rw [hb, takeN_of_hit h1]
      dsimp only
      rw [takeN_of_hit h2]
      dsimp only
      rw [takeN_of_hit h3]
      dsimp only
      rw [takeN_miss h4, Bool.not_true]
     | some p4 =>
      obtain ⟨a4, m4⟩ := p4
      dsimp only
      unfold recD spanN
      dsimp only
      rw [hb, takeN_of_hit h1]
      dsimp only
      rw [takeN_of_hit h2]
      dsimp only
      rw [takeN_of_hit h3]
      dsimp only
      rw [takeN_of_hit h4]
      rfl
 ·refine key _ ?_ rfl
  unfold recD spanN
  dsimp only
  rw [hb]
  simp only [takeN_bad, Bool.not_true]
theorem split_items : ∀ (items : LF) (k : Nat), items.length ≤ k → splitGo k (items.flatMap fieldB) = some items
 | [], k, _ => by cases k <;> rfl
 | x :: items, 0, h => by simp at h
 | x :: items, k + 1, h => by
  have ih := split_items items k (by simp at h; omega)
  have e : (x :: items).flatMap fieldB = x.1 :: ((x.2.length / 256 : Nat) : Int) :: ((x.2.length % 256 : Nat) : Int) :: (x.2 ++ items.flatMap fieldB) := by
   rw [List.flatMap_cons]; rfl
  rw [e, splitGo]
  have e2 : ((x.2.length / 256 : Nat) : Int) * 256 + ((x.2.length % 256 : Nat) : Int) = (x.2.length : Int) := by omega
  rw [e2, if_neg (by simp; omega)]
  rw [show (x.2.length : Int).toNat = x.2.length from rfl, List.drop_left, List.take_left, ih]
  rfl
theorem flatF_ge (items : LF) : items.length ≤ (items.flatMap fieldB).length := by
 induction items with
 | nil => simp
 | cons x l ih => rw [List.flatMap_cons, List.length_append, fieldB_len, List.length_cons]; omega
theorem splitF_items (items : LF) : splitF (items.flatMap fieldB) = (items, 0) := by
 unfold splitF
 rw [split_items items _ (flatF_ge items)]
theorem itB_field {t n v : Int} (n1 : 1 ≤ n) (n7 : n ≤ 7) : itB t n v = fieldB (t, be n.toNat v) := by
 unfold itB fieldB
 dsimp only
 rw [be_length]
 have e1 : ((n.toNat / 256 : Nat) : Int) = 0 := by omega
 have e2 : ((n.toNat % 256 : Nat) : Int) = n := by omega
 rw [e1, e2]
theorem hit_be {t n v : Int} {m : LF} (n1 : 1 ≤ n) (h0 : 0 ≤ v) (h1 : v < 256 ^ n.toNat) : hit t n ((t, be n.toNat v) :: m) = some (v, m) := by
 rw [hit, if_pos (by simp [be_length]; omega)]
 dsimp only
 rw [numB_be _ _ h0 h1]
theorem innerL_items (r : Int × Int × Int × (Int × Int) × Bool × LF) : innerL r = (withinL r).flatMap fieldB := by
 unfold innerL withinL
 rw [List.flatMap_append, itB_field (by omega) (by omega), itB_field (by omega) (by omega), itB_field (by omega) (by omega), itB_field (by omega) (by omega)]
 simp [List.flatMap_cons]
theorem recD_back {r : Int × Int × Int × (Int × Int) × Bool × LF} (h : recOkT r = true) (hi : r.2.1 ≤ 4294967295) : recD (innerL r) = (r, true) := by
 obtain ⟨id, inc, st, ⟨lo, hi'⟩, cut, bag⟩ := r
 obtain ⟨f1, f2, f3, f4, f5, f6, f7, f8⟩ := recOk_facts h
 dsimp only at f1 f2 f3 f4 f5 f6 f7 hi
 have hs := (okS_iff _ _).1 f7
 have e := recD_eq (innerL (id, inc, st, (lo, hi'), cut, bag))
 rw [innerL_items, splitF_items] at e
 have hc : 0 ≤ cutSt (id, inc, st, (lo, hi'), cut, bag) ∧ cutSt (id, inc, st, (lo, hi'), cut, bag) < 256 := by
  unfold cutSt
  dsimp only
  split <;> omega
 have w : withinL (id, inc, st, (lo, hi'), cut, bag) = (1, be (2 : Int).toNat id) :: (2, be (4 : Int).toNat inc) :: (3, be (1 : Int).toNat (cutSt (id, inc, st, (lo, hi'), cut, bag))) :: (4, be (1 : Int).toNat (lo * 16 + hi')) :: bag := rfl
 rw [← innerL_items, w] at e
 dsimp only at e
 rw [hit_be (by omega) (by omega) (by simp; omega)] at e
 dsimp only at e
 rw [hit_be (by omega) (by omega) (by simp; omega)] at e
 dsimp only at e
 rw [hit_be (by omega) hc.1 (by simpa using hc.2)] at e
 dsimp only at e
 rw [hit_be (by omega) (by omega) (by simp; omega)] at e
 rw [if_neg (by simp)] at e
 dsimp only at e
 rw [e]
 have o := (ofGo_div (lo * 16 + hi') (by omega) (by omega)).1 (by rw [show (lo * 16 + hi') / 16 = lo from by omega, show (lo * 16 + hi') % 16 = hi' from by omega]; exact f7)
 rw [o, show (lo * 16 + hi') / 16 = lo from by omega, show (lo * 16 + hi') % 16 = hi' from by omega]
 dsimp only
 have s1 : cutSt (id, inc, st, (lo, hi'), cut, bag) % 128 = st := by
  unfold cutSt
  dsimp only
  split <;> omega
 have s2 : decide (cutSt (id, inc, st, (lo, hi'), cut, bag) ≥ 128) = cut := by
  unfold cutSt
  dsimp only
  cases cut
  ·simp; omega
  ·simp; omega
 rw [s1, s2]
theorem recsD_back : ∀ r : LR, (∀ x ∈ r, recOkT x = true ∧ x.2.1 ≤ 4294967295) → recsD (r.map fun x => ((7 : Int), innerL x)) = some r
 | [], _ => rfl
 | x :: r, h => by
  obtain ⟨h1, h2⟩ := h x (by simp)
  rw [List.map_cons, recsD, recsD_back r fun y hy => h y (by simp [hy])]
  dsimp only
  rw [recD_back h1 h2]
  rfl
theorem valid_zero {kind from0 inc lo hi seq target life epoch base : Int} {recs : LR} (h : validF kind from0 inc lo hi seq target life epoch base recs = true) :
  (hasF kind 0 = false → seq = 0) ∧ (hasF kind 1 = false → target = 0) := by
 unfold validF at h
 have h1 : ((ofF kind).1.toList == (⟨#[]⟩ : ByteArray).toList || (decide (from0 < 0) || (decide (from0 > 4095) || (decide (inc < 0) || (decide (inc > 281474976710655) || !okS lo hi))))) = false := by
  cases hc : ((ofF kind).1.toList == (⟨#[]⟩ : ByteArray).toList || (decide (from0 < 0) || (decide (from0 > 4095) || (decide (inc < 0) || (decide (inc > 281474976710655) || !okS lo hi))))) with
  | false => rfl
  | true => rw [hc] at h; cases h
 rw [h1] at h
 have h2 : (!withinF (hasF kind 0) seq 0 65535 || (!withinF (hasF kind 1) target (if kind == 3 then 1 else 0) (if kind == 3 then 3 else 4095) || !livesF kind life epoch base)) = false := by
  cases hc : (!withinF (hasF kind 0) seq 0 65535 || (!withinF (hasF kind 1) target (if kind == 3 then 1 else 0) (if kind == 3 then 3 else 4095) || !livesF kind life epoch base)) with
  | false => rfl
  | true => rw [hc] at h; cases h
 simp only [Bool.or_eq_false_iff, Bool.not_eq_false'] at h2
 obtain ⟨c1, c2, c3⟩ := h2
 constructor
 ·intro h0
  rw [h0] at c1
  simpa [withinF] using c1
 ·intro h0
  rw [h0] at c2
  simpa [withinF] using c2
def itemsM (kind from0 inc lo hi seq target : Int) (recs : LR) : LF :=
 (1, be (1 : Int).toNat kind) :: (2, be (2 : Int).toNat from0) :: (3, be (6 : Int).toNat inc) :: (4, be (1 : Int).toNat (lo * 16 + hi)) :: ((if hasF kind 0 then [((5 : Int), be (2 : Int).toNat seq)] else []) ++ ((if hasF kind 1 then [((6 : Int), be (2 : Int).toNat target)] else []) ++ recs.map fun x => ((7 : Int), innerL x)))
theorem body2_items (kind from0 inc lo hi seq target : Int) (recs : LR) : body2 kind from0 inc lo hi seq target recs = (itemsM kind from0 inc lo hi seq target recs).flatMap fieldB := by
 unfold body2 itemsM
 rw [itB_field (by omega) (by omega), itB_field (by omega) (by omega), itB_field (by omega) (by omega), itB_field (by omega) (by omega)]
 simp only [List.flatMap_cons, List.flatMap_append, List.append_assoc]
 have e : recs.flatMap recB2 = (recs.map fun x => ((7 : Int), innerL x)).flatMap fieldB := by
  rw [List.flatMap_map]
  rfl
 rw [e]
 cases hasF kind 0 <;> cases hasF kind 1 <;> simp [itB_field (t := 5) (n := 2), itB_field (t := 6) (n := 2)]
theorem back2 {kind from0 inc lo hi seq target : Int} {recs : LR} (hv : validF kind from0 inc lo hi seq target 0 0 0 recs = true) (h9 : kind ≠ 9) (hf : fit2Go recs = true) (hlen : (body2 kind from0 inc lo hi seq target recs).length ≤ 65499) :
  decF2 (body2 kind from0 inc lo hi seq target recs) = (kind, from0, inc, lo, hi, seq, target, recs, 0) := by
 obtain ⟨v1, v2, v3, v4, v5, v6, v7, v8, v9, v10, v11, _, v12, v13⟩ := valid_facts hv
 have hs := (okS_iff _ _).1 v7
 obtain ⟨z0, z1⟩ := valid_zero hv
 have hP : msgP (body2 kind from0 inc lo hi seq target recs) = some (kind, from0, inc, lo * 16 + hi, seq, target, recs.map fun x => ((7 : Int), innerL x)) := by
  have hsp : splitF (body2 kind from0 inc lo hi seq target recs) = (itemsM kind from0 inc lo hi seq target recs, 0) := by rw [body2_items, splitF_items]
  unfold msgP
  rw [if_neg (by rw [hsp]; simp; omega), hsp]
  dsimp only
  unfold itemsM
  rw [hit_be (by omega) (by omega) (by simp; omega)]
  dsimp only
  rw [hit_be (by omega) (by omega) (by simp; omega)]
  dsimp only
  rw [hit_be (by omega) (by omega) (by simp; omega)]
  dsimp only
  rw [hit_be (by omega) (by omega) (by simp; omega)]
  dsimp only
  have hq : optT (hasF kind 0) 5 ((if hasF kind 0 then [((5 : Int), be (2 : Int).toNat seq)] else []) ++ ((if hasF kind 1 then [((6 : Int), be (2 : Int).toNat target)] else []) ++ recs.map fun x => ((7 : Int), innerL x))) = some (seq, (if hasF kind 1 then [((6 : Int), be (2 : Int).toNat target)] else []) ++ recs.map fun x => ((7 : Int), innerL x)) := by
   cases h : hasF kind 0
   ·simp [optT, z0 h]
   ·simp only [optT, if_true, List.singleton_append]
    exact hit_be (by omega) (by omega) (by simp; omega)
  have ht : optT (hasF kind 1) 6 ((if hasF kind 1 then [((6 : Int), be (2 : Int).toNat target)] else []) ++ recs.map fun x => ((7 : Int), innerL x)) = some (target, recs.map fun x => ((7 : Int), innerL x)) := by
   cases h : hasF kind 1
   ·simp [optT, z1 h]
   ·simp only [optT, if_true, List.singleton_append]
    exact hit_be (by omega) (by omega) (by simp; omega)
  rw [hq]
  dsimp only
  rw [ht]
 rw [dec2_eq, hP]
 dsimp only
 have o := (ofGo_div (lo * 16 + hi) (by omega) (by omega)).1 (by rw [show (lo * 16 + hi) / 16 = lo from by omega, show (lo * 16 + hi) % 16 = hi from by omega]; exact v7)
 rw [o, recsD_back recs fun x hx => ⟨v13 x hx, fit2_all _ hf x hx⟩, show (lo * 16 + hi) / 16 = lo from by omega, show (lo * 16 + hi) % 16 = hi from by omega]
 unfold end2
 dsimp only
 have hz := size_body hv
 have : fits2 kind from0 inc lo hi seq target 0 0 0 recs = true := by
  unfold fits2
  rw [hv, hz, if_neg, hf]
  simp [h9]
  omega
 rw [this]
 rfl
def byteBags (l : LR) : Prop := ∀ r ∈ l, ∀ x ∈ r.2.2.2.2.2, ∀ c ∈ x.2, 0 ≤ c ∧ c ≤ 255
theorem fieldB_bytes {x : Int × List Int} (h1 : 0 ≤ x.1) (h2 : x.1 ≤ 255) (h3 : x.2.length ≤ 65535) (h4 : ∀ c ∈ x.2, 0 ≤ c ∧ c ≤ 255) : ∀ c ∈ fieldB x, 0 ≤ c ∧ c ≤ 255 := by
 intro c hc
 unfold fieldB at hc
 simp at hc
 rcases hc with rfl | rfl | rfl | hc
 ·omega
 ·omega
 ·omega
 ·exact h4 c hc
theorem itB_bytes {t n v : Int} (t0 : 0 ≤ t) (t1 : t ≤ 255) (n1 : 1 ≤ n) (n7 : n ≤ 7) : ∀ c ∈ itB t n v, 0 ≤ c ∧ c ≤ 255 := by
 rw [itB_field n1 n7]
 exact fieldB_bytes t0 t1 (by rw [be_length]; omega) (fun c hc => be_mem _ _ c hc)
theorem flat_mem {α : Type} {l : List α} {f : α → List Int} {Q : Int → Prop} (h : ∀ x ∈ l, ∀ c ∈ f x, Q c) : ∀ c ∈ l.flatMap f, Q c := by
 intro c hc
 obtain ⟨x, hx, hc⟩ := List.mem_flatMap.1 hc
 exact h x hx c hc
theorem innerL_len {r : Int × Int × Int × (Int × Int) × Bool × LF} (h : recOkT r = true) : (innerL r).length ≤ 5000 := by
 have hb := bagOk_len (recOk_facts h).2.2.2.2.2.2.2.1
 have := flatF_len r.2.2.2.2.2
 unfold innerL
 simp only [List.length_append, itB, List.length_cons, be_length]
 omega
theorem innerL_bytes {r : Int × Int × Int × (Int × Int) × Bool × LF} (h : recOkT r = true) (hb : ∀ x ∈ r.2.2.2.2.2, ∀ c ∈ x.2, 0 ≤ c ∧ c ≤ 255) : ∀ c ∈ innerL r, 0 ≤ c ∧ c ≤ 255 := by
 have ht := bag_tags (recOk_facts h).2.2.2.2.2.2.2.1
 intro c hc
 unfold innerL at hc
 simp only [List.mem_append] at hc
 rcases hc with hc | hc | hc | hc | hc
 ·exact itB_bytes (by omega) (by omega) (by omega) (by omega) c hc
 ·exact itB_bytes (by omega) (by omega) (by omega) (by omega) c hc
 ·exact itB_bytes (by omega) (by omega) (by omega) (by omega) c hc
 ·exact itB_bytes (by omega) (by omega) (by omega) (by omega) c hc
 ·exact flat_mem (fun x hx => fieldB_bytes (by have := ht x hx; omega) (ht x hx).2.1 (by have := ht x hx; omega) (hb x hx)) c hc
theorem body2_bytes {kind from0 inc lo hi seq target : Int} {recs : LR} (hr : ∀ x ∈ recs, recOkT x = true) (hb : byteBags recs) : ∀ c ∈ body2 kind from0 inc lo hi seq target recs, 0 ≤ c ∧ c ≤ 255 := by
 intro c hc
 unfold body2 at hc
 simp only [List.mem_append] at hc
 rcases hc with hc | hc | hc | hc | hc | hc | hc
 ·exact itB_bytes (by omega) (by omega) (by omega) (by omega) c hc
 ·exact itB_bytes (by omega) (by omega) (by omega) (by omega) c hc
 ·exact itB_bytes (by omega) (by omega) (by omega) (by omega) c hc
 ·exact itB_bytes (by omega) (by omega) (by omega) (by omega) c hc
 ·split at hc
  ·exact itB_bytes (by omega) (by omega) (by omega) (by omega) c hc
  ·simp at hc
 ·split at hc
  ·exact itB_bytes (by omega) (by omega) (by omega) (by omega) c hc
  ·simp at hc
 ·exact flat_mem (fun x hx => fieldB_bytes (x := (7, innerL x)) (by simp) (by simp) (by have := innerL_len (hr x hx); dsimp only; omega) (innerL_bytes (hr x hx) (hb x hx))) c hc
theorem fits13_facts {kind from0 inc lo hi seq target life epoch base : Int} {recs : LR} (h : fits13 kind from0 inc lo hi seq target life epoch base recs = true) :
  validF kind from0 inc lo hi seq target life epoch base recs = true ∧ kind ≠ 9 ∧ life = 0 ∧ epoch = 0 ∧ base = 0 ∧ fit2Go recs = true ∧ (body2 kind from0 inc lo hi seq target recs).length ≤ 65499 := by
 unfold fits13 at h
 split at h
 ·cases h
 rename_i c
 split at h
 ·cases h
 rename_i c2
 simp at c c2 h
 exact ⟨c.1, c.2.1, c.2.2.1, c.2.2.2.1, c.2.2.2.2, c2, by omega⟩
theorem good_bags {l : LR} (h : Go.Den.Good (.sl tQr ) l) : byteBags l := by
 obtain ⟨h1, h2⟩ := h
 intro r hr x hx
 have h3 := (h2 r hr).2.2.2.2.2
 exact good_bytes (h3.2 x hx).2
theorem good_byte {c : Int} (h : Go.Den.Good (.int .u8) c) : 0 ≤ c ∧ c ≤ 255 := by
 have h2 : (Lit.int .u8 c).wf = true := h
 simp [Lit.wf, IntKind.min, IntKind.max, IntKind.signed, IntKind.bits] at h2
 omega
def rec_Find_E : Env := ⟨th, gam [(116, s_rec_where_api_Rec), (134, s_rec_Find_c1), (135, s_rec_clone)], fun i => ⟨[], [], []⟩⟩
def rec_Find.k (rs : List AV) (os : List Den.Obj) : Option (Int × Int × Int × Int × Int × Bool × LF × Bool) :=
 match rs, os with
 | [.agg [.d (.int .i64) r0, .d (.int .i64) r1, .d (.int .i64) r2, .d (.int .i64) r3, .d (.int .i64) r4, .d .bool r5, .d (.sl (.pair (.int .i64) (.sl (.int .u8)))) r6], .d .bool r7], [] => some (r0, r1, r2, r3, r4, r5, r6, r7)
 | _, _ => none
def rec_Find.b (l : LR) (id : Int) : Option (Int × Int × Int × Int × Int × Bool × LF × Bool) :=
 (match (veil (rec_where_api_Rec_find.f BIG l id)) with | none => none | some y0 => (if (y0.1 == ((((List.length l)) : Nat) : Int)) then some (0, 0, 0, 0, 0, false, ([] : LF), false) else (match (idx l y0.1) with | none => none | some y1 => (match (veil (rec_clone.f BIG y1.1 y1.2.1 y1.2.2.1 y1.2.2.2.1.1 y1.2.2.2.1.2 y1.2.2.2.2.1 y1.2.2.2.2.2)) with | none => none | some y2 => some (y2.1, y2.2.1, y2.2.2.1, y2.2.2.2.1, y2.2.2.2.2.1, y2.2.2.2.2.2.1, y2.2.2.2.2.2.2, true)))))
def rec_Find.f (fuel : Nat) (l : LR) (id : Int) : Option (Int × Int × Int × Int × Int × Bool × LF × Bool) := rec_Find.b l id
theorem rec_Find.eq (fuel : Nat) (l : LR) (id : Int) : (denF rec_Find_E loopN fuel Tryz.f122 [.dat tQr true, .raw] [.d (.sl tQr) l, .d tQi id] [] rec_Find.k) = rec_Find.f fuel l id := by
 kernel_rfl
def s_rec_Find : Den.Sum := ⟨[.dat (.sl tQr) false, .raw], fun args objs κ => match args, objs with
 | [.d (.sl (.pair (.int .i64) (.pair (.int .i64) (.pair (.int .i64) (.pair (.pair (.int .i64) (.int .i64)) (.pair .bool (.sl (.pair (.int .i64) (.sl (.int .u8)))))))))) l, .d (.int .i64) id], [] => (match veil (rec_Find.f BIG l id) with | none => none | some y => κ [.agg [.d (.int .i64) y.1, .d (.int .i64) y.2.1, .d (.int .i64) y.2.2.1, .d (.int .i64) y.2.2.2.1, .d (.int .i64) y.2.2.2.2.1, .d .bool y.2.2.2.2.2.1, .d (.sl (.pair (.int .i64) (.sl (.int .u8)))) y.2.2.2.2.2.2.1], .d .bool y.2.2.2.2.2.2.2] [])
 | _, _ => none⟩
theorem s_rec_Find_det : SumDet s_rec_Find := sdet fun _ _ _ _ => by
 unfold s_rec_Find
 simp only [veil_eq]
 split
 ·split <;> rfl
 ·rfl
theorem s_rec_Find_ok : SumOk Tryz.prog 122 s_rec_Find := by
 have hE : EnvOk Tryz.prog rec_Find_E := env_ok (l := [(116, s_rec_where_api_Rec), (134, s_rec_Find_c1), (135, s_rec_clone)]) th_ok any_ok ⟨⟨s_rec_where_api_Rec_ok, s_rec_where_api_Rec_det⟩, ⟨s_rec_Find_c1_ok, s_rec_Find_c1_det⟩, ⟨s_rec_clone_ok, s_rec_clone_det⟩, trivial⟩ _
 refine sum_ok hE Tryz.func122 rfl (by kernel_rfl) s_rec_Find [.dat tQr true, .raw] rec_Find.k ?_
 intro R avs objs κ r h
 unfold s_rec_Find at h
 simp only [veil_eq] at h
 split at h
 ·rename_i l id
  split at h
  ·cases h
  ·rename_i y hy
   refine ⟨BIG, _, _, _, (rec_Find.eq BIG l id).trans hy, ?_, h⟩
   intro rs ros hk
   unfold rec_Find.k at hk
   split at hk
   ·first | (cases hk; exact ⟨rfl, rfl⟩) | (rw [← Option.some.inj hk]; exact ⟨rfl, rfl⟩)
   ·cases hk
 ·cases h
def gen3_writer_put_E : Env := ⟨th, gam [(79, s_num), (80, s_code), (119, s_gen3_writer_form), (75, s_bsame), (130, s_octet_Writer_Raw), (131, s_varint_Of), (122, s_rec_Find), (132, s_varint_Zig)], fun i => if i = 17 then ⟨[4, 92, 93, 94], [], []⟩ else if i = 5 then ⟨[2, 4, 5, 8, 9, 10], [], [777777]⟩ else if i = 7 then ⟨[2, 4, 5, 8, 9, 10], [], [777777]⟩ else if i = 9 then ⟨[2, 4, 5, 8, 10], [], [777777]⟩ else if i = 13 then ⟨[4, 5, 8, 10], [], [777777]⟩ else ⟨[], [], []⟩⟩
def gen3_writer_put.k (rs : List AV) (os : List Den.Obj) : Option (List Int) :=
 match rs, os with
 | [], [.box [.row 2, .d .bool false], .gone, .row 5 (.int .u8) r0 false] => some r0
 | _, _ => none
def gen3_writer_put.s17 (l : List Int) (r0ID r0Inc r0Status r0SpanLo r0SpanHi : Int) (r0Cut : Bool) (r0Bag : LF) (last : Int) (base : LR) (x41 x42 : Int) (x43 : (List Int)) : St := ⟨[dD, dD, dD, dD, .ptr 65 0, dD, dD, dD, dD, dD, dD, dD, dD, dD, dD, dD, dD, dD, dD, dD, dD, dD, dD, dD, dD, dD, dD, dD, dD, dD, dD, dD, dD, dD, dD, dD, dD, dD, dD, dD, dD, dD, dD, dD, dD, dD, dD, dD, dD, dD, dD, dD, dD, dD, dD, dD, dD, dD, dD, dD, dD, dD, dD, dD, dD, dD, dD, dD, dD, dD, dD, dD, dD, dD, dD, dD, dD, dD, dD, dD, dD, dD, dD, dD, dD, dD, dD, dD, dD, dD, dD, dD, .d (.sl (.pair tQi (.sl (.int .u8)))) (r0Bag), .d tQi x41, .d tQi x42, dD, dD, dD, dD, dD, dD, dD, dD, dD, dD, dD, dD, dD, dD, dD, dD, dD, dD, dD, .dead], ofL [(0, .box [.row 64, .d .bool (false)]), (1, .gone), (64, .row 5 (.int .u8) x43 false), (65, .box [.ptr 0 0])], 2⟩
def gen3_writer_put.p17 (fuel : Nat) (l : List Int) (r0ID r0Inc r0Status r0SpanLo r0SpanHi : Int) (r0Cut : Bool) (r0Bag : LF) (last : Int) (base : LR) (k : Nat) := fun x41 x42 x43 => lp gen3_writer_put_E fuel Tryz.f120 [.pb [.own (some 0) [] 0 5 (.int .u8) true, .kill 1]] 2 gen3_writer_put.k 17 [] k (gen3_writer_put.s17 l r0ID r0Inc r0Status r0SpanLo r0SpanHi r0Cut r0Bag last base x41 x42 x43)
def gen3_writer_put.b17 (l : List Int) (r0ID r0Inc r0Status r0SpanLo r0SpanHi : Int) (r0Cut : Bool) (r0Bag : LF) (last : Int) (base : LR) (A17 : Int → Int → (List Int) → Option (List Int)) (x41 : Int) (x42 : Int) (x43 : (List Int)) : Option (List Int) :=
 (if (decide (x42 < x41)) then (match (idx r0Bag x42) with | none => none | some y44 => (if ((fitsF (1 : Int) y44.1) ∧ (roomy x43)) then (match (veil (gen3_writer_form.f BIG (x43 ++ (be (Int.toNat (1 : Int)) y44.1)) (((((List.length y44.2)) : Nat) : Int) :: ([] : List Int)))) with | none => none | some y45 => (match (veil (octet_Writer_Raw.f BIG y45 y44.2)) with | none => none | some y46 => A17 x41 (IntKind.wrap .i64 (x42 + (1 : Int))) y46)) else none)) else some (x43))
def gen3_writer_put.l17 (fuel : Nat) (l : List Int) (r0ID r0Inc r0Status r0SpanLo r0SpanHi : Int) (r0Cut : Bool) (r0Bag : LF) (last : Int) (base : LR) : Nat → Int → Int → (List Int) → Option (List Int)
 | 0, _, _, _ => none
 | k + 1, x41, x42, x43 => gen3_writer_put.b17 l r0ID r0Inc r0Status r0SpanLo r0SpanHi r0Cut r0Bag last base (gen3_writer_put.l17 fuel l r0ID r0Inc r0Status r0SpanLo r0SpanHi r0Cut r0Bag last base k) x41 x42 x43
def gen3_writer_put.s13 (l : List Int) (r0ID r0Inc r0Status r0SpanLo r0SpanHi : Int) (r0Cut : Bool) (r0Bag : LF) (last : Int) (base : LR) (x28 : Int) (x29 : (List Int)) (x30 x31 x32 x33 x34 : Int) (x35 : Bool) (x36 : LF) : St := ⟨[dD, dD, dD, dD, .ptr 65 0, .ptr 66 0, .dead, .dead, .ptr 67 0, .dead, .d tQi x28, dD, dD, dD, dD, dD, dD, dD, dD, dD, dD, dD, dD, dD, dD, dD, dD, dD, dD, dD, dD, dD, dD, dD, dD, dD, dD, dD, dD, dD, dD, dD, dD, dD, dD, dD, dD, dD, dD, dD, dD, dD, dD, dD, dD, dD, dD, dD, dD, dD, dD, dD, dD, dD, dD, dD, dD, dD, dD, dD, dD, dD, dD, dD, dD, dD, dD, dD, dD, dD, dD, dD, dD, dD, dD, dD, dD, dD, dD, dD, dD, dD, dD, dD, dD, dD, dD, dD, dD, dD, dD, dD, dD, dD, dD, dD, dD, dD, dD, dD, dD, dD, dD, dD, .dead], ofL [(0, .box [.row 64, .d .bool (false)]), (1, .gone), (64, .row 5 (.int .u8) x29 false), (65, .box [.ptr 0 0]), (66, .box [.d tQi (r0ID), .d tQi (r0Inc), .d tQi (r0Status), .d tQi (r0SpanLo), .d tQi (r0SpanHi), .d .bool (r0Cut), .d (.sl (.pair tQi (.sl (.int .u8)))) (r0Bag)]), (67, .box [.d tQi x30, .d tQi x31, .d tQi x32, .d tQi x33, .d tQi x34, .d .bool x35, .d (.sl (.pair tQi (.sl (.int .u8)))) x36])], 2⟩
def gen3_writer_put.p13 (fuel : Nat) (l : List Int) (r0ID r0Inc r0Status r0SpanLo r0SpanHi : Int) (r0Cut : Bool) (r0Bag : LF) (last : Int) (base : LR) (k : Nat) := fun x28 x29 x30 x31 x32 x33 x34 x35 x36 => lp gen3_writer_put_E fuel Tryz.f120 [.pb [.own (some 0) [] 0 5 (.int .u8) true, .kill 1]] 2 gen3_writer_put.k 13 [] k (gen3_writer_put.s13 l r0ID r0Inc r0Status r0SpanLo r0SpanHi r0Cut r0Bag last base x28 x29 x30 x31 x32 x33 x34 x35 x36)
def gen3_writer_put.b13 (l : List Int) (r0ID r0Inc r0Status r0SpanLo r0SpanHi : Int) (r0Cut : Bool) (r0Bag : LF) (last : Int) (base : LR) (A13 : Int → (List Int) → Int → Int → Int → Int → Int → Bool → LF → Option (List Int)) (E17 : Int → Int → (List Int) → Option (List Int)) (x28 : Int) (x29 : (List Int)) (x30 : Int) (x31 : Int) (x32 : Int) (x33 : Int) (x34 : Int) (x35 : Bool) (x36 : LF) : Option (List Int) :=
 (match (veil (varint_Zig.f BIG (IntKind.wrap .i64 (r0Inc - x31)))) with | none => none | some y37 => (match (veil (varint_Of.f BIG y37)) with | none => none | some y38 => (match (veil (octet_Writer_Raw.f BIG x29 y38)) with | none => none | some y39 => (if ((bits BinOp.and .i64 x28 (20 : Int)) != (0 : Int)) then some (y39) else (match (veil (gen3_writer_form.f BIG y39 (((((List.length r0Bag)) : Nat) : Int) :: ([] : List Int)))) with | none => none | some y40 => E17 ((((List.length r0Bag)) : Nat) : Int) (0 : Int) y40)))))
def gen3_writer_put.l13 (fuel : Nat) (l : List Int) (r0ID r0Inc r0Status r0SpanLo r0SpanHi : Int) (r0Cut : Bool) (r0Bag : LF) (last : Int) (base : LR) : Nat → Int → (List Int) → Int → Int → Int → Int → Int → Bool → LF → Option (List Int)
 | 0, _, _, _, _, _, _, _, _, _ => none
 | k + 1, x28, x29, x30, x31, x32, x33, x34, x35, x36 => gen3_writer_put.b13 l r0ID r0Inc r0Status r0SpanLo r0SpanHi r0Cut r0Bag last base (gen3_writer_put.l13 fuel l r0ID r0Inc r0Status r0SpanLo r0SpanHi r0Cut r0Bag last base k) (gen3_writer_put.l17 fuel l r0ID r0Inc r0Status r0SpanLo r0SpanHi r0Cut r0Bag last base fuel) x28 x29 x30 x31 x32 x33 x34 x35 x36
def gen3_writer_put.s9 (l : List Int) (r0ID r0Inc r0Status r0SpanLo r0SpanHi : Int) (r0Cut : Bool) (r0Bag : LF) (last : Int) (base : LR) (x19 x20 x21 x22 x23 x24 : Int) (x25 : Bool) (x26 : LF) : St := ⟨[.dead, .dead, .d tQi (last), .dead, .ptr 64 0, .ptr 65 0, .dead, .dead, .ptr 66 0, .dead, .d tQi x19, dD, dD, dD, dD, dD, dD, dD, dD, dD, dD, dD, dD, dD, dD, dD, dD, dD, dD, dD, dD, dD, dD, dD, dD, dD, dD, dD, dD, dD, dD, dD, dD, dD, dD, dD, dD, dD, dD, dD, dD, dD, dD, dD, dD, dD, dD, dD, dD, dD, dD, dD, dD, dD, dD, dD, dD, dD, dD, dD, dD, dD, dD, dD, dD, dD, dD, dD, dD, dD, dD, dD, dD, dD, dD, dD, dD, dD, dD, dD, dD, dD, dD, dD, dD, dD, dD, dD, dD, dD, dD, dD, dD, dD, dD, dD, dD, dD, dD, dD, dD, dD, dD, dD, .dead], ofL [(0, .box [.row 1, .d .bool (false)]), (1, .row 5 (.int .u8) (l) false), (64, .box [.ptr 0 0]), (65, .box [.d tQi (r0ID), .d tQi (r0Inc), .d tQi (r0Status), .d tQi (r0SpanLo), .d tQi (r0SpanHi), .d .bool (r0Cut), .d (.sl (.pair tQi (.sl (.int .u8)))) (r0Bag)]), (66, .box [.d tQi x20, .d tQi x21, .d tQi x22, .d tQi x23, .d tQi x24, .d .bool x25, .d (.sl (.pair tQi (.sl (.int .u8)))) x26])], 2⟩
def gen3_writer_put.p9 (fuel : Nat) (l : List Int) (r0ID r0Inc r0Status r0SpanLo r0SpanHi : Int) (r0Cut : Bool) (r0Bag : LF) (last : Int) (base : LR) (k : Nat) := fun x19 x20 x21 x22 x23 x24 x25 x26 => lp gen3_writer_put_E fuel Tryz.f120 [.pb [.own (some 0) [] 0 5 (.int .u8) true, .kill 1]] 2 gen3_writer_put.k 9 [] k (gen3_writer_put.s9 l r0ID r0Inc r0Status r0SpanLo r0SpanHi r0Cut r0Bag last base x19 x20 x21 x22 x23 x24 x25 x26)
def gen3_writer_put.b9 (l : List Int) (r0ID r0Inc r0Status r0SpanLo r0SpanHi : Int) (r0Cut : Bool) (r0Bag : LF) (last : Int) (base : LR) (A9 : Int → Int → Int → Int → Int → Int → Bool → LF → Option (List Int)) (E13 : Int → (List Int) → Int → Int → Int → Int → Int → Bool → LF → Option (List Int)) (x19 : Int) (x20 : Int) (x21 : Int) (x22 : Int) (x23 : Int) (x24 : Int) (x25 : Bool) (x26 : LF) : Option (List Int) :=
 (match (veil (gen3_writer_form.f BIG l ((IntKind.wrap .i64 ((IntKind.wrap .i64 (r0ID - last)) - (1 : Int))) :: ([] : List Int)))) with | none => none | some y27 => (if ((fitsF (1 : Int) x19) ∧ (roomy y27)) then (if ((bits BinOp.and .i64 x19 (8 : Int)) == (0 : Int)) then (if ((fitsF (1 : Int) (codeF r0SpanLo r0SpanHi)) ∧ (roomy (y27 ++ (be (Int.toNat (1 : Int)) x19)))) then E13 x19 ((y27 ++ (be (Int.toNat (1 : Int)) x19)) ++ (be (Int.toNat (1 : Int)) (codeF r0SpanLo r0SpanHi))) x20 x21 x22 x23 x24 x25 x26 else none) else E13 x19 (y27 ++ (be (Int.toNat (1 : Int)) x19)) x20 x21 x22 x23 x24 x25 x26) else none))
def gen3_writer_put.l9 (fuel : Nat) (l : List Int) (r0ID r0Inc r0Status r0SpanLo r0SpanHi : Int) (r0Cut : Bool) (r0Bag : LF) (last : Int) (base : LR) : Nat → Int → Int → Int → Int → Int → Int → Bool → LF → Option (List Int)
 | 0, _, _, _, _, _, _, _, _ => none
 | k + 1, x19, x20, x21, x22, x23, x24, x25, x26 => gen3_writer_put.b9 l r0ID r0Inc r0Status r0SpanLo r0SpanHi r0Cut r0Bag last base (gen3_writer_put.l9 fuel l r0ID r0Inc r0Status r0SpanLo r0SpanHi r0Cut r0Bag last base k) (gen3_writer_put.l13 fuel l r0ID r0Inc r0Status r0SpanLo r0SpanHi r0Cut r0Bag last base fuel) x19 x20 x21 x22 x23 x24 x25 x26
def gen3_writer_put.s7 (l : List Int) (r0ID r0Inc r0Status r0SpanLo r0SpanHi : Int) (r0Cut : Bool) (r0Bag : LF) (last : Int) (base : LR) (x10 : Bool) (x11 x12 x13 x14 x15 x16 : Int) (x17 : Bool) (x18 : LF) : St := ⟨[.dead, .dead, .d tQi (last), .dead, .ptr 64 0, .ptr 65 0, .dead, .dead, .ptr 66 0, .d .bool x10, .d tQi x11, dD, dD, dD, dD, dD, dD, dD, dD, dD, dD, dD, dD, dD, dD, dD, dD, dD, dD, dD, dD, dD, dD, dD, dD, dD, dD, dD, dD, dD, dD, dD, dD, dD, dD, dD, dD, dD, dD, dD, dD, dD, dD, dD, dD, dD, dD, dD, dD, dD, dD, dD, dD, dD, dD, dD, dD, dD, dD, dD, dD, dD, dD, dD, dD, dD, dD, dD, dD, dD, dD, dD, dD, dD, dD, dD, dD, dD, dD, dD, dD, dD, dD, dD, dD, dD, dD, dD, dD, dD, dD, dD, dD, dD, dD, dD, dD, dD, dD, dD, dD, dD, dD, dD, .dead], ofL [(0, .box [.row 1, .d .bool (false)]), (1, .row 5 (.int .u8) (l) false), (64, .box [.ptr 0 0]), (65, .box [.d tQi (r0ID), .d tQi (r0Inc), .d tQi (r0Status), .d tQi (r0SpanLo), .d tQi (r0SpanHi), .d .bool (r0Cut), .d (.sl (.pair tQi (.sl (.int .u8)))) (r0Bag)]), (66, .box [.d tQi x12, .d tQi x13, .d tQi x14, .d tQi x15, .d tQi x16, .d .bool x17, .d (.sl (.pair tQi (.sl (.int .u8)))) x18])], 2⟩
def gen3_writer_put.p7 (fuel : Nat) (l : List Int) (r0ID r0Inc r0Status r0SpanLo r0SpanHi : Int) (r0Cut : Bool) (r0Bag : LF) (last : Int) (base : LR) (k : Nat) := fun x10 x11 x12 x13 x14 x15 x16 x17 x18 => lp gen3_writer_put_E fuel Tryz.f120 [.pb [.own (some 0) [] 0 5 (.int .u8) true, .kill 1]] 2 gen3_writer_put.k 7 [] k (gen3_writer_put.s7 l r0ID r0Inc r0Status r0SpanLo r0SpanHi r0Cut r0Bag last base x10 x11 x12 x13 x14 x15 x16 x17 x18)
def gen3_writer_put.b7 (l : List Int) (r0ID r0Inc r0Status r0SpanLo r0SpanHi : Int) (r0Cut : Bool) (r0Bag : LF) (last : Int) (base : LR) (A7 : Bool → Int → Int → Int → Int → Int → Int → Bool → LF → Option (List Int)) (E9 : Int → Int → Int → Int → Int → Int → Bool → LF → Option (List Int)) (x10 : Bool) (x11 : Int) (x12 : Int) (x13 : Int) (x14 : Int) (x15 : Int) (x16 : Int) (x17 : Bool) (x18 : LF) : Option (List Int) :=
 (if x10 then (if (!r0Cut) then (if ((smallBag x18) && (smallBag r0Bag)) then (if ((cmpGo x18 r0Bag) == (0 : Int)) then E9 (bits BinOp.or .i64 x11 (16 : Int)) x12 x13 x14 x15 x16 x17 x18 else E9 x11 x12 x13 x14 x15 x16 x17 x18) else none) else E9 x11 x12 x13 x14 x15 x16 x17 x18) else E9 x11 x12 x13 x14 x15 x16 x17 x18)
def gen3_writer_put.l7 (fuel : Nat) (l : List Int) (r0ID r0Inc r0Status r0SpanLo r0SpanHi : Int) (r0Cut : Bool) (r0Bag : LF) (last : Int) (base : LR) : Nat → Bool → Int → Int → Int → Int → Int → Int → Bool → LF → Option (List Int)
 | 0, _, _, _, _, _, _, _, _, _ => none
 | k + 1, x10, x11, x12, x13, x14, x15, x16, x17, x18 => gen3_writer_put.b7 l r0ID r0Inc r0Status r0SpanLo r0SpanHi r0Cut r0Bag last base (gen3_writer_put.l7 fuel l r0ID r0Inc r0Status r0SpanLo r0SpanHi r0Cut r0Bag last base k) (gen3_writer_put.l9 fuel l r0ID r0Inc r0Status r0SpanLo r0SpanHi r0Cut r0Bag last base fuel) x10 x11 x12 x13 x14 x15 x16 x17 x18
def gen3_writer_put.s5 (l : List Int) (r0ID r0Inc r0Status r0SpanLo r0SpanHi : Int) (r0Cut : Bool) (r0Bag : LF) (last : Int) (base : LR) (x1 : Bool) (x2 x3 x4 x5 x6 x7 : Int) (x8 : Bool) (x9 : LF) : St := ⟨[.dead, .dead, .d tQi (last), .dead, .ptr 64 0, .ptr 65 0, .dead, .dead, .ptr 66 0, .d .bool x1, .d tQi x2, dD, dD, dD, dD, dD, dD, dD, dD, dD, dD, dD, dD, dD, dD, dD, dD, dD, dD, dD, dD, dD, dD, dD, dD, dD, dD, dD, dD, dD, dD, dD, dD, dD, dD, dD, dD, dD, dD, dD, dD, dD, dD, dD, dD, dD, dD, dD, dD, dD, dD, dD, dD, dD, dD, dD, dD, dD, dD, dD, dD, dD, dD, dD, dD, dD, dD, dD, dD, dD, dD, dD, dD, dD, dD, dD, dD, dD, dD, dD, dD, dD, dD, dD, dD, dD, dD, dD, dD, dD, dD, dD, dD, dD, dD, dD, dD, dD, dD, dD, dD, dD, dD, dD, .dead], ofL [(0, .box [.row 1, .d .bool (false)]), (1, .row 5 (.int .u8) (l) false), (64, .box [.ptr 0 0]), (65, .box [.d tQi (r0ID), .d tQi (r0Inc), .d tQi (r0Status), .d tQi (r0SpanLo), .d tQi (r0SpanHi), .d .bool (r0Cut), .d (.sl (.pair tQi (.sl (.int .u8)))) (r0Bag)]), (66, .box [.d tQi x3, .d tQi x4, .d tQi x5, .d tQi x6, .d tQi x7, .d .bool x8, .d (.sl (.pair tQi (.sl (.int .u8)))) x9])], 2⟩
def gen3_writer_put.p5 (fuel : Nat) (l : List Int) (r0ID r0Inc r0Status r0SpanLo r0SpanHi : Int) (r0Cut : Bool) (r0Bag : LF) (last : Int) (base : LR) (k : Nat) := fun x1 x2 x3 x4 x5 x6 x7 x8 x9 => lp gen3_writer_put_E fuel Tryz.f120 [.pb [.own (some 0) [] 0 5 (.int .u8) true, .kill 1]] 2 gen3_writer_put.k 5 [] k (gen3_writer_put.s5 l r0ID r0Inc r0Status r0SpanLo r0SpanHi r0Cut r0Bag last base x1 x2 x3 x4 x5 x6 x7 x8 x9)
def gen3_writer_put.b5 (l : List Int) (r0ID r0Inc r0Status r0SpanLo r0SpanHi : Int) (r0Cut : Bool) (r0Bag : LF) (last : Int) (base : LR) (A5 : Bool → Int → Int → Int → Int → Int → Int → Bool → LF → Option (List Int)) (E7 : Bool → Int → Int → Int → Int → Int → Int → Bool → LF → Option (List Int)) (x1 : Bool) (x2 : Int) (x3 : Int) (x4 : Int) (x5 : Int) (x6 : Int) (x7 : Int) (x8 : Bool) (x9 : LF) : Option (List Int) :=
 (if x1 then (if (if (x6 == r0SpanLo) then (if (x7 == r0SpanHi) then true else false) else false) then E7 x1 (bits BinOp.or .i64 x2 (8 : Int)) x3 x4 x5 x6 x7 x8 x9 else E7 x1 x2 x3 x4 x5 x6 x7 x8 x9) else E7 x1 x2 x3 x4 x5 x6 x7 x8 x9)
def gen3_writer_put.l5 (fuel : Nat) (l : List Int) (r0ID r0Inc r0Status r0SpanLo r0SpanHi : Int) (r0Cut : Bool) (r0Bag : LF) (last : Int) (base : LR) : Nat → Bool → Int → Int → Int → Int → Int → Int → Bool → LF → Option (List Int)
 | 0, _, _, _, _, _, _, _, _, _ => none
 | k + 1, x1, x2, x3, x4, x5, x6, x7, x8, x9 => gen3_writer_put.b5 l r0ID r0Inc r0Status r0SpanLo r0SpanHi r0Cut r0Bag last base (gen3_writer_put.l5 fuel l r0ID r0Inc r0Status r0SpanLo r0SpanHi r0Cut r0Bag last base k) (gen3_writer_put.l7 fuel l r0ID r0Inc r0Status r0SpanLo r0SpanHi r0Cut r0Bag last base fuel) x1 x2 x3 x4 x5 x6 x7 x8 x9
def gen3_writer_put.b (l : List Int) (r0ID r0Inc r0Status r0SpanLo r0SpanHi : Int) (r0Cut : Bool) (r0Bag : LF) (last : Int) (base : LR) (E5 : Bool → Int → Int → Int → Int → Int → Int → Bool → LF → Option (List Int)) : Option (List Int) :=
 (match (veil (rec_Find.f BIG base r0ID)) with | none => none | some y0 => (if r0Cut then E5 y0.2.2.2.2.2.2.2 (bits BinOp.or .i64 r0Status (4 : Int)) y0.1 y0.2.1 y0.2.2.1 y0.2.2.2.1 y0.2.2.2.2.1 y0.2.2.2.2.2.1 y0.2.2.2.2.2.2.1 else E5 y0.2.2.2.2.2.2.2 r0Status y0.1 y0.2.1 y0.2.2.1 y0.2.2.2.1 y0.2.2.2.2.1 y0.2.2.2.2.2.1 y0.2.2.2.2.2.2.1))
def gen3_writer_put.f (fuel : Nat) (l : List Int) (r0ID r0Inc r0Status r0SpanLo r0SpanHi : Int) (r0Cut : Bool) (r0Bag : LF) (last : Int) (base : LR) : Option (List Int) := gen3_writer_put.b l r0ID r0Inc r0Status r0SpanLo r0SpanHi r0Cut r0Bag last base (gen3_writer_put.l5 fuel l r0ID r0Inc r0Status r0SpanLo r0SpanHi r0Cut r0Bag last base fuel)
theorem gen3_writer_put.l17_eq (fuel : Nat) (l : List Int) (r0ID r0Inc r0Status r0SpanLo r0SpanHi : Int) (r0Cut : Bool) (r0Bag : LF) (last : Int) (base : LR) : ∀ k : Nat, gen3_writer_put.p17 fuel l r0ID r0Inc r0Status r0SpanLo r0SpanHi r0Cut r0Bag last base k = gen3_writer_put.l17 fuel l r0ID r0Inc r0Status r0SpanLo r0SpanHi r0Cut r0Bag last base k
 | 0 => by kernel_rfl
 | k + 1 => by
  refine Eq.trans (b := gen3_writer_put.b17 l r0ID r0Inc r0Status r0SpanLo r0SpanHi r0Cut r0Bag last base (gen3_writer_put.p17 fuel l r0ID r0Inc r0Status r0SpanLo r0SpanHi r0Cut r0Bag last base k)) (by kernel_rfl) ?_
  rw [gen3_writer_put.l17_eq fuel l r0ID r0Inc r0Status r0SpanLo r0SpanHi r0Cut r0Bag last base k]
  kernel_rfl
theorem gen3_writer_put.l13_eq (fuel : Nat) (l : List Int) (r0ID r0Inc r0Status r0SpanLo r0SpanHi : Int) (r0Cut : Bool) (r0Bag : LF) (last : Int) (base : LR) : ∀ k : Nat, gen3_writer_put.p13 fuel l r0ID r0Inc r0Status r0SpanLo r0SpanHi r0Cut r0Bag last base k = gen3_writer_put.l13 fuel l r0ID r0Inc r0Status r0SpanLo r0SpanHi r0Cut r0Bag last base k
 | 0 => by kernel_rfl
 | k + 1 => by
  refine Eq.trans (b := gen3_writer_put.b13 l r0ID r0Inc r0Status r0SpanLo r0SpanHi r0Cut r0Bag last base (gen3_writer_put.p13 fuel l r0ID r0Inc r0Status r0SpanLo r0SpanHi r0Cut r0Bag last base k) (gen3_writer_put.p17 fuel l r0ID r0Inc r0Status r0SpanLo r0SpanHi r0Cut r0Bag last base fuel)) (by kernel_rfl) ?_
  rw [gen3_writer_put.l13_eq fuel l r0ID r0Inc r0Status r0SpanLo r0SpanHi r0Cut r0Bag last base k, gen3_writer_put.l17_eq fuel l r0ID r0Inc r0Status r0SpanLo r0SpanHi r0Cut r0Bag last base fuel]
  kernel_rfl
theorem gen3_writer_put.l9_eq (fuel : Nat) (l : List Int) (r0ID r0Inc r0Status r0SpanLo r0SpanHi : Int) (r0Cut : Bool) (r0Bag : LF) (last : Int) (base : LR) : ∀ k : Nat, gen3_writer_put.p9 fuel l r0ID r0Inc r0Status r0SpanLo r0SpanHi r0Cut r0Bag last base k = gen3_writer_put.l9 fuel l r0ID r0Inc r0Status r0SpanLo r0SpanHi r0Cut r0Bag last base k
 | 0 => by kernel_rfl
 | k + 1 => by
  refine Eq.trans (b := gen3_writer_put.b9 l r0ID r0Inc r0Status r0SpanLo r0SpanHi r0Cut r0Bag last base (gen3_writer_put.p9 fuel l r0ID r0Inc r0Status r0SpanLo r0SpanHi r0Cut r0Bag last base k) (gen3_writer_put.p13 fuel l r0ID r0Inc r0Status r0SpanLo r0SpanHi r0Cut r0Bag last base fuel)) (by kernel_rfl) ?_
  rw [gen3_writer_put.l9_eq fuel l r0ID r0Inc r0Status r0SpanLo r0SpanHi r0Cut r0Bag last base k, gen3_writer_put.l13_eq fuel l r0ID r0Inc r0Status r0SpanLo r0SpanHi r0Cut r0Bag last base fuel]
  kernel_rfl
theorem gen3_writer_put.l7_eq (fuel : Nat) (l : List Int) (r0ID r0Inc r0Status r0SpanLo r0SpanHi : Int) (r0Cut : Bool) (r0Bag : LF) (last : Int) (base : LR) : ∀ k : Nat, gen3_writer_put.p7 fuel l r0ID r0Inc r0Status r0SpanLo r0SpanHi r0Cut r0Bag last base k = gen3_writer_put.l7 fuel l r0ID r0Inc r0Status r0SpanLo r0SpanHi r0Cut r0Bag last base k
 | 0 => by kernel_rfl
 | k + 1 => by
  refine Eq.trans (b := gen3_writer_put.b7 l r0ID r0Inc r0Status r0SpanLo r0SpanHi r0Cut r0Bag last base (gen3_writer_put.p7 fuel l r0ID r0Inc r0Status r0SpanLo r0SpanHi r0Cut r0Bag last base k) (gen3_writer_put.p9 fuel l r0ID r0Inc r0Status r0SpanLo r0SpanHi r0Cut r0Bag last base fuel)) (by kernel_rfl) ?_
  rw [gen3_writer_put.l7_eq fuel l r0ID r0Inc r0Status r0SpanLo r0SpanHi r0Cut r0Bag last base k, gen3_writer_put.l9_eq fuel l r0ID r0Inc r0Status r0SpanLo r0SpanHi r0Cut r0Bag last base fuel]
  kernel_rfl
theorem gen3_writer_put.l5_eq (fuel : Nat) (l : List Int) (r0ID r0Inc r0Status r0SpanLo r0SpanHi : Int) (r0Cut : Bool) (r0Bag : LF) (last : Int) (base : LR) : ∀ k : Nat, gen3_writer_put.p5 fuel l r0ID r0Inc r0Status r0SpanLo r0SpanHi r0Cut r0Bag last base k = gen3_writer_put.l5 fuel l r0ID r0Inc r0Status r0SpanLo r0SpanHi r0Cut r0Bag last base k
 | 0 => by kernel_rfl
 | k + 1 => by
  refine Eq.trans (b := gen3_writer_put.b5 l r0ID r0Inc r0Status r0SpanLo r0SpanHi r0Cut r0Bag last base (gen3_writer_put.p5 fuel l r0ID r0Inc r0Status r0SpanLo r0SpanHi r0Cut r0Bag last base k) (gen3_writer_put.p7 fuel l r0ID r0Inc r0Status r0SpanLo r0SpanHi r0Cut r0Bag last base fuel)) (by kernel_rfl) ?_
  rw [gen3_writer_put.l5_eq fuel l r0ID r0Inc r0Status r0SpanLo r0SpanHi r0Cut r0Bag last base k, gen3_writer_put.l7_eq fuel l r0ID r0Inc r0Status r0SpanLo r0SpanHi r0Cut r0Bag last base fuel]
  kernel_rfl
theorem gen3_writer_put.eq (fuel : Nat) (l : List Int) (r0ID r0Inc r0Status r0SpanLo r0SpanHi : Int) (r0Cut : Bool) (r0Bag : LF) (last : Int) (base : LR) : (denF gen3_writer_put_E loopN fuel Tryz.f120 [.pb [.own (some 0) [] 0 5 (.int .u8) true, .kill 1]] [.agg [.ptr 0 0], .agg [.d tQi r0ID, .d tQi r0Inc, .d tQi r0Status, .d tQi r0SpanLo, .d tQi r0SpanHi, .d .bool r0Cut, .d (.sl (.pair tQi (.sl (.int .u8)))) r0Bag], .d tQi last, .d (.sl tQr) base] [.box [.row 1, .d .bool false], .row 5 (.int .u8) l false] gen3_writer_put.k) = gen3_writer_put.f fuel l r0ID r0Inc r0Status r0SpanLo r0SpanHi r0Cut r0Bag last base := by
 refine Eq.trans (b := gen3_writer_put.b l r0ID r0Inc r0Status r0SpanLo r0SpanHi r0Cut r0Bag last base (gen3_writer_put.p5 fuel l r0ID r0Inc r0Status r0SpanLo r0SpanHi r0Cut r0Bag last base fuel)) (by kernel_rfl) ?_
 rw [gen3_writer_put.l5_eq fuel l r0ID r0Inc r0Status r0SpanLo r0SpanHi r0Cut r0Bag last base fuel]
 kernel_rfl
def s_gen3_writer_put : Den.Sum := ⟨[.pb [.own none [0] 0 5 (.int .u8) false], .dat tQr true, .raw, .dat (.sl tQr) false], fun args objs κ => match args, objs with
 | [.agg [.ptr 0 0], .agg [.d (.int .i64) r0ID, .d (.int .i64) r0Inc, .d (.int .i64) r0Status, .d (.int .i64) r0SpanLo, .d (.int .i64) r0SpanHi, .d .bool r0Cut, .d (.sl (.pair (.int .i64) (.sl (.int .u8)))) r0Bag], .d (.int .i64) last, .d (.sl (.pair (.int .i64) (.pair (.int .i64) (.pair (.int .i64) (.pair (.pair (.int .i64) (.int .i64)) (.pair .bool (.sl (.pair (.int .i64) (.sl (.int .u8)))))))))) base], [.box [.row 1, .d .bool false], .row 5 (.int .u8) l false] => (match veil (gen3_writer_put.f BIG l r0ID r0Inc r0Status r0SpanLo r0SpanHi r0Cut r0Bag last base) with | none => none | some y => κ [] [.box [.row 2, .d .bool false], .gone, .row 5 (.int .u8) y false])
 | _, _ => none⟩
theorem s_gen3_writer_put_det : SumDet s_gen3_writer_put := sdet fun _ _ _ _ => by
 unfold s_gen3_writer_put
 simp only [veil_eq]
 split
 ·split <;> rfl
 ·rfl
theorem s_gen3_writer_put_ok : SumOk Tryz.prog 120 s_gen3_writer_put := by
 have hE : EnvOk Tryz.prog gen3_writer_put_E := env_ok (l := [(79, s_num), (80, s_code), (119, s_gen3_writer_form), (75, s_bsame), (130, s_octet_Writer_Raw), (131, s_varint_Of), (122, s_rec_Find), (132, s_varint_Zig)]) th_ok any_ok ⟨⟨s_num_ok, s_num_det⟩, ⟨s_code_ok, s_code_det⟩, ⟨s_gen3_writer_form_ok, s_gen3_writer_form_det⟩, ⟨s_bsame_ok, s_bsame_det⟩, ⟨s_octet_Writer_Raw_ok, s_octet_Writer_Raw_det⟩, ⟨s_varint_Of_ok, s_varint_Of_det⟩, ⟨s_rec_Find_ok, s_rec_Find_det⟩, ⟨s_varint_Zig_ok, s_varint_Zig_det⟩, trivial⟩ _
 refine sum_ok hE Tryz.func120 rfl (by kernel_rfl) s_gen3_writer_put [.pb [.own (some 0) [] 0 5 (.int .u8) true, .kill 1]] gen3_writer_put.k ?_
 intro R avs objs κ r h
 unfold s_gen3_writer_put at h
 simp only [veil_eq] at h
 split at h
 ·rename_i r0ID r0Inc r0Status r0SpanLo r0SpanHi r0Cut r0Bag last base l
  split at h
  ·cases h
  ·rename_i y hy
   refine ⟨BIG, _, _, _, (gen3_writer_put.eq BIG l r0ID r0Inc r0Status r0SpanLo r0SpanHi r0Cut r0Bag last base).trans hy, ?_, h⟩
   intro rs ros hk
   unfold gen3_writer_put.k at hk
   split at hk
   ·first | (cases hk; exact ⟨rfl, rfl⟩) | (rw [← Option.some.inj hk]; exact ⟨rfl, rfl⟩)
   ·cases hk
 ·cases h
theorem gen3_writer_put.l17_at (fuel n k : Nat) (hn : n = k + 1) (l : List Int) (r0ID : Int) (r0Inc : Int) (r0Status : Int) (r0SpanLo : Int) (r0SpanHi : Int) (r0Cut : Bool) (r0Bag : LF) (last : Int) (base : LR) (x41 : Int) (x42 : Int) (x43 : (List Int)) : gen3_writer_put.l17 fuel l r0ID r0Inc r0Status r0SpanLo r0SpanHi r0Cut r0Bag last base n x41 x42 x43 = gen3_writer_put.b17 l r0ID r0Inc r0Status r0SpanLo r0SpanHi r0Cut r0Bag last base (gen3_writer_put.l17 fuel l r0ID r0Inc r0Status r0SpanLo r0SpanHi r0Cut r0Bag last base k) x41 x42 x43 := by
 subst hn
 rfl
theorem gen3_writer_put.l13_at (fuel n k : Nat) (hn : n = k + 1) (l : List Int) (r0ID : Int) (r0Inc : Int) (r0Status : Int) (r0SpanLo : Int) (r0SpanHi : Int) (r0Cut : Bool) (r0Bag : LF) (last : Int) (base : LR) (x28 : Int) (x29 : (List Int)) (x30 : Int) (x31 : Int) (x32 : Int) (x33 : Int) (x34 : Int) (x35 : Bool) (x36 : LF) : gen3_writer_put.l13 fuel l r0ID r0Inc r0Status r0SpanLo r0SpanHi r0Cut r0Bag last base n x28 x29 x30 x31 x32 x33 x34 x35 x36 = gen3_writer_put.b13 l r0ID r0Inc r0Status r0SpanLo r0SpanHi r0Cut r0Bag last base (gen3_writer_put.l13 fuel l r0ID r0Inc r0Status r0SpanLo r0SpanHi r0Cut r0Bag last base k) (gen3_writer_put.l17 fuel l r0ID r0Inc r0Status r0SpanLo r0SpanHi r0Cut r0Bag last base fuel) x28 x29 x30 x31 x32 x33 x34 x35 x36 := by
 subst hn
 rfl
theorem gen3_writer_put.l9_at (fuel n k : Nat) (hn : n = k + 1) (l : List Int) (r0ID : Int) (r0Inc : Int) (r0Status : Int) (r0SpanLo : Int) (r0SpanHi : Int) (r0Cut : Bool) (r0Bag : LF) (last : Int) (base : LR) (x19 : Int) (x20 : Int) (x21 : Int) (x22 : Int) (x23 : Int) (x24 : Int) (x25 : Bool) (x26 : LF) : gen3_writer_put.l9 fuel l r0ID r0Inc r0Status r0SpanLo r0SpanHi r0Cut r0Bag last base n x19 x20 x21 x22 x23 x24 x25 x26 = gen3_writer_put.b9 l r0ID r0Inc r0Status r0SpanLo r0SpanHi r0Cut r0Bag last base (gen3_writer_put.l9 fuel l r0ID r0Inc r0Status r0SpanLo r0SpanHi r0Cut r0Bag last base k) (gen3_writer_put.l13 fuel l r0ID r0Inc r0Status r0SpanLo r0SpanHi r0Cut r0Bag last base fuel) x19 x20 x21 x22 x23 x24 x25 x26 := by
 subst hn
 rfl
theorem gen3_writer_put.l7_at (fuel n k : Nat) (hn : n = k + 1) (l : List Int) (r0ID : Int) (r0Inc : Int) (r0Status : Int) (r0SpanLo : Int) (r0SpanHi : Int) (r0Cut : Bool) (r0Bag : LF) (last : Int) (base : LR) (x10 : Bool) (x11 : Int) (x12 : Int) (x13 : Int) (x14 : Int) (x15 : Int) (x16 : Int) (x17 : Bool) (x18 : LF) : gen3_writer_put.l7 fuel l r0ID r0Inc r0Status r0SpanLo r0SpanHi r0Cut r0Bag last base n x10 x11 x12 x13 x14 x15 x16 x17 x18 = gen3_writer_put.b7 l r0ID r0Inc r0Status r0SpanLo r0SpanHi r0Cut r0Bag last base (gen3_writer_put.l7 fuel l r0ID r0Inc r0Status r0SpanLo r0SpanHi r0Cut r0Bag last base k) (gen3_writer_put.l9 fuel l r0ID r0Inc r0Status r0SpanLo r0SpanHi r0Cut r0Bag last base fuel) x10 x11 x12 x13 x14 x15 x16 x17 x18 := by
 subst hn
 rfl
theorem gen3_writer_put.l5_at (fuel n k : Nat) (hn : n = k + 1) (l : List Int) (r0ID : Int) (r0Inc : Int) (r0Status : Int) (r0SpanLo : Int) (r0SpanHi : Int) (r0Cut : Bool) (r0Bag : LF) (last : Int) (base : LR) (x1 : Bool) (x2 : Int) (x3 : Int) (x4 : Int) (x5 : Int) (x6 : Int) (x7 : Int) (x8 : Bool) (x9 : LF) : gen3_writer_put.l5 fuel l r0ID r0Inc r0Status r0SpanLo r0SpanHi r0Cut r0Bag last base n x1 x2 x3 x4 x5 x6 x7 x8 x9 = gen3_writer_put.b5 l r0ID r0Inc r0Status r0SpanLo r0SpanHi r0Cut r0Bag last base (gen3_writer_put.l5 fuel l r0ID r0Inc r0Status r0SpanLo r0SpanHi r0Cut r0Bag last base k) (gen3_writer_put.l7 fuel l r0ID r0Inc r0Status r0SpanLo r0SpanHi r0Cut r0Bag last base fuel) x1 x2 x3 x4 x5 x6 x7 x8 x9 := by
 subst hn
 rfl
abbrev REC := Int × Int × Int × (Int × Int) × Bool × LF
theorem big_eq : BIG = (BIG - 1) + 1 := by rw [BIG_eq]
def viF : Nat → Int → List Int
 | 0, v => [v]
 | k + 1, v => if v ≥ 128 then (v % 128 + 128) :: viF k (v / 128) else [v]
def vi (v : Int) : List Int := viF 9 v
theorem or128_tab : (List.range 256).all (fun n => bits BinOp.or .u8 (n : Int) 128 == (n : Int) % 128 + 128) = true := by kernel_rfl
theorem or128 (c : Int) (h0 : 0 ≤ c) (h1 : c < 256) : bits BinOp.or .u8 c 128 = c % 128 + 128 := by
 have := List.all_eq_true.1 or128_tab c.toNat (by simp; omega)
 rw [show ((c.toNat : Nat) : Int) = c from by omega] at this
 simpa using this
theorem wrapU8 (n : Int) : IntKind.wrap .u8 n = n % 256 := by
 simp [IntKind.wrap, IntKind.signed, IntKind.bits]
theorem Of.loop (fuel : Nat) (v : Int) : ∀ (j k : Nat) (x0 : Int) (x1 : List Int), 0 ≤ x0 → x0 < 128 ^ (j + 1) → j < k → x1.length + j < 1000 →
  varint_Of.l2 fuel v k x0 x1 = some (x1 ++ viF j x0) := by
 intro j
 induction j with
 | zero =>
  intro k x0 x1 h0 h1 hk hl
  obtain ⟨k, rfl⟩ : ∃ k', k = k' + 1 := ⟨k - 1, by omega⟩
  rw [varint_Of.l2]
  unfold varint_Of.b2
  rw [if_neg (by simp at h1 ⊢; omega), if_pos (by simp [lim]; omega), wrapU8, show x0 % 256 = x0 from by simp at h1; omega]
  rfl
 | succ j ih =>
  intro k x0 x1 h0 h1 hk hl
  obtain ⟨k, rfl⟩ : ∃ k', k = k' + 1 := ⟨k - 1, by omega⟩
  rw [varint_Of.l2]
  unfold varint_Of.b2
  rw [viF]
  by_cases hc : x0 ≥ 128
  ·rw [if_pos (by simpa using hc), if_pos (by simp [lim]; omega), if_pos hc, wrapU8, or128 _ (by omega) (by omega)]
   rw [show ((2 : Int) ^ (Min.min (Int.toNat (7 : Int)) (IntKind.bits .u64))) = 128 from rfl, Int.fdiv_eq_ediv_of_nonneg _ (by omega)]
   rw [ih k (x0 / 128) _ (by omega) (by rw [Int.pow_succ] at h1; generalize (128 : Int) ^ (j + 1) = M at h1 ⊢; omega) (by omega) (by simp; omega), show x0 % 256 % 128 = x0 % 128 from by omega]
   simp
  ·rw [if_neg (by simpa using hc), if_pos (by simp [lim]; omega), if_neg hc, wrapU8, show x0 % 256 = x0 from by omega]
theorem Of.pure (v : Int) (h0 : 0 ≤ v) (h1 : v < 18446744073709551616) : varint_Of.f BIG v = some (vi v) := by
 unfold varint_Of.f varint_Of.b vi
 rw [Of.loop BIG v 9 BIG v [] h0 (by simp; omega) (by rw [BIG_eq]; omega) (by simp)]
 rfl
theorem viF_len : ∀ (j : Nat) (v : Int), 1 ≤ (viF j v).length ∧ (viF j v).length ≤ j + 1
 | 0, v => by simp [viF]
 | j + 1, v => by
  rw [viF]
  split
  ·have := viF_len j (v / 128)
   simp; omega
  ·simp
theorem vi_len (v : Int) : 1 ≤ (vi v).length ∧ (vi v).length ≤ 10 := viF_len 9 v
theorem Raw.pure (l b : List Int) (h : l.length + b.length ≤ 1099511627776) : octet_Writer_Raw.f BIG l b = some (l ++ b) := by
 unfold octet_Writer_Raw.f octet_Writer_Raw.b
 rw [if_pos (by simp [lim]; omega)]
theorem wrapU64 (n : Int) (h0 : 0 ≤ n) (h1 : n < 18446744073709551616) : IntKind.wrap .u64 n = n := by
 simp [IntKind.wrap, IntKind.signed, IntKind.bits]
 omega
theorem Form.loop (fuel : Nat) (l0 vs : List Int) (hv : ∀ v ∈ vs, 0 ≤ v ∧ v < 9223372036854775808) (hn : vs.length < 1000) : ∀ (k i : Nat) (acc : List Int), i ≤ vs.length → vs.length - i < k → acc.length + 10 * (vs.length - i) ≤ 1099511627776 →
  gen3_writer_form.l2 fuel l0 vs k (vs.length : Int) (i : Int) acc = some (acc ++ (vs.drop i).flatMap vi) := by
 intro k
 induction k with
 | zero => intro i acc h1 h2; omega
 | succ k ih =>
  intro i acc h1 h2 h3
  rw [gen3_writer_form.l2]
  unfold gen3_writer_form.b2
  simp only [veil_eq]
  by_cases hi : i < vs.length
  ·rw [if_pos (by simp; omega), idx_at, List.getElem?_eq_getElem hi]
   dsimp only
   obtain ⟨v0, v1⟩ := hv vs[i] (List.getElem_mem hi)
   have hl := vi_len vs[i]
   rw [wrapU64 _ v0 (by omega), Of.pure _ v0 (by omega)]
   dsimp only
   rw [Raw.pure _ _ (by omega)]
   dsimp only
   rw [wrap_small _ (by omega) (by omega), show ((i : Int) + 1) = ((i + 1 : Nat) : Int) from by omega, ih (i + 1) _ (by omega) (by omega) (by simp; omega), List.drop_eq_getElem_cons hi, List.flatMap_cons]
   simp
  ·rw [if_neg (by simp; omega), List.drop_of_length_le (by omega)]
   simp
theorem Form.pure (l vs : List Int) (hv : ∀ v ∈ vs, 0 ≤ v ∧ v < 9223372036854775808) (hn : vs.length < 1000) (hl : l.length + 10 * vs.length ≤ 1099511627776) : gen3_writer_form.f BIG l vs = some (l ++ vs.flatMap vi) := by
 unfold gen3_writer_form.f gen3_writer_form.b
 exact Form.loop BIG l vs hv hn BIG 0 l (by omega) (by rw [BIG_eq]; omega) (by omega)
def zigF (n : Int) : Int := if n ≥ 0 then 2 * n else -2 * n - 1
theorem xor_zero (a : Int) (h0 : 0 ≤ a) (h1 : a < 18446744073709551616) : bits BinOp.xor .u64 a 0 = a := by
 have e : bits BinOp.xor .u64 a 0 = IntKind.wrap .u64 ((BitVec.ofInt 64 a ^^^ 0#64).toNat : Int) := rfl
 rw [e, BitVec.xor_zero, BitVec.toNat_ofInt, wrapU64]
 ·omega
 ·omega
 ·omega
theorem xor_ones (a : Int) (h0 : 0 ≤ a) (h1 : a < 18446744073709551616) : bits BinOp.xor .u64 a 18446744073709551615 = 18446744073709551615 - a := by
 have e : bits BinOp.xor .u64 a 18446744073709551615 = IntKind.wrap .u64 ((BitVec.ofInt 64 a ^^^ BitVec.ofInt 64 18446744073709551615).toNat : Int) := rfl
 rw [e, show BitVec.ofInt 64 18446744073709551615 = BitVec.allOnes 64 from by decide +kernel, BitVec.xor_allOnes, BitVec.toNat_not, BitVec.toNat_ofInt, wrapU64]
 ·omega
 ·omega
 ·omega
theorem Zig.pure (n : Int) (h0 : -4611686018427387904 ≤ n) (h1 : n < 4611686018427387904) : varint_Zig.f BIG n = some (zigF n) := by
 unfold varint_Zig.f varint_Zig.b zigF
 rw [show ((2 : Int) ^ (Min.min (Int.toNat (1 : Int)) (IntKind.bits .u64))) = 2 from rfl, show ((2 : Int) ^ (Min.min (Int.toNat (63 : Int)) (IntKind.bits .i64))) = 9223372036854775808 from by decide +kernel, Int.fdiv_eq_ediv_of_nonneg _ (by omega)]
 by_cases h : n ≥ 0
 ·rw [if_pos h, show n / 9223372036854775808 = 0 from by omega, wrapU64 n (by omega) (by omega), wrapU64 _ (by omega) (by omega), wrapU64 0 (by omega) (by omega), xor_zero _ (by omega) (by omega)]
  congr 1
  omega
 ·rw [if_neg h, show n / 9223372036854775808 = -1 from by omega]
  have e1 : IntKind.wrap .u64 n = n + 18446744073709551616 := by simp [IntKind.wrap, IntKind.signed, IntKind.bits]; omega
  have e2 : IntKind.wrap .u64 ((n + 18446744073709551616) * 2) = 2 * n + 18446744073709551616 := by simp [IntKind.wrap, IntKind.signed, IntKind.bits]; omega
  have e3 : IntKind.wrap .u64 (-1) = 18446744073709551615 := by decide +kernel
  rw [e1, e2, e3, xor_ones _ (by omega) (by omega)]
  congr 1
  omega
theorem One.pure (t : Int) (d : List Int) (h : d.length ≤ 1099511627776) : bag_one.f BIG t d = some (t, d) := by
 unfold bag_one.f bag_one.b
 rw [if_pos (by simp; omega), if_pos (by simp)]
 simp
theorem Copy.loop (fuel : Nat) (b : LF) (b2 : ∀ x ∈ b, x.2.length ≤ 1000000) (hn : b.length < 1000000000) : ∀ (k i : Nat) (acc : LF), i ≤ b.length → b.length - i < k → acc.length ≤ i →
  bag_Copy.l3 fuel b k (b.length : Int) (i : Int) acc = some (acc ++ b.drop i) := by
 intro k
 induction k with
 | zero => intro i acc h1 h2; omega
 | succ k ih =>
  intro i acc h1 h2 h3
  rw [bag_Copy.l3]
  unfold bag_Copy.b3
  simp only [veil_eq]
  by_cases hi : i < b.length
  ·rw [if_pos (by simp; omega), idx_at, List.getElem?_eq_getElem hi]
   dsimp only
   have hx := b2 b[i] (List.getElem_mem hi)
   rw [One.pure _ _ (by omega)]
   dsimp only
   rw [if_pos (by simp [lim]; omega), wrap_small _ (by omega) (by omega), show ((i : Int) + 1) = ((i + 1 : Nat) : Int) from by omega, ih (i + 1) _ (by omega) (by omega) (by simp; omega), List.drop_eq_getElem_cons hi]
   simp only [List.append_assoc, List.singleton_append]
  ·rw [if_neg (by simp; omega), List.drop_of_length_le (by omega)]
   simp
theorem Copy.pure (b : LF) (hb : ∀ x ∈ b, x.2.length ≤ 1000000) (hn : b.length < 1000000000) : bag_Copy.f BIG b = some b := by
 unfold bag_Copy.f bag_Copy.b
 have := Copy.loop BIG b hb hn BIG 0 [] (by omega) (by rw [BIG_eq]; omega) (by simp)
 rw [show ((0 : Nat) : Int) = 0 from rfl] at this
 rw [this]
 simp
theorem Clone.pure (r : REC) (hb : ∀ x ∈ r.2.2.2.2.2, x.2.length ≤ 1000000) (hn : r.2.2.2.2.2.length < 1000000000) : rec_clone.f BIG r.1 r.2.1 r.2.2.1 r.2.2.2.1.1 r.2.2.2.1.2 r.2.2.2.2.1 r.2.2.2.2.2 = some (r.1, r.2.1, r.2.2.1, r.2.2.2.1.1, r.2.2.2.1.2, r.2.2.2.2.1, r.2.2.2.2.2) := by
 unfold rec_clone.f rec_clone.b
 rw [veil_eq, Copy.pure _ hb hn]
theorem WhereF.loop (fuel : Nat) (l : LR) (id : Int) (hn : l.length < 1000000000) : ∀ (k i : Nat), i ≤ l.length → l.length - i < k →
  rec_where_api_Rec_find.l2 fuel l id k (l.length : Int) (i : Int) id = some (((i + (l.drop i).findIdx (fun r => r.1 == id) : Nat) : Int), id) := by
 intro k
 induction k with
 | zero => intro i h1 h2; omega
 | succ k ih =>
  intro i h1 h2
  rw [rec_where_api_Rec_find.l2]
  unfold rec_where_api_Rec_find.b2
  simp only [veil_eq]
  by_cases hi : i < l.length
  ·rw [if_pos (by simp; omega), idx_at, List.getElem?_eq_getElem hi]
   dsimp only
   rw [show rec_Find_c1.f BIG l[i].1 l[i].2.1 l[i].2.2.1 l[i].2.2.2.1.1 l[i].2.2.2.1.2 l[i].2.2.2.2.1 l[i].2.2.2.2.2 id = some ((l[i].1 == id), id) from rfl]
   dsimp only
   rw [List.drop_eq_getElem_cons hi, List.findIdx_cons]
   cases hc : (l[i].1 == id)
   ·rw [if_neg (by simp), wrap_small _ (by omega) (by omega), show ((i : Int) + 1) = ((i + 1 : Nat) : Int) from by omega, ih (i + 1) (by omega) (by omega)]
    simp only [cond_false]
    congr 2
    omega
   ·rw [if_pos rfl]
    simp
  ·rw [if_neg (by simp; omega), List.drop_of_length_le (by omega)]
   simp
   omega
def oldR (base : LR) (id : Int) : REC × Bool :=
 match base.find? (fun r => r.1 == id) with
 | some r => (r, true)
 | none => ((0, 0, 0, (0, 0), false, []), false)
theorem find_idx (l : LR) (id : Int) : l.find? (fun r => r.1 == id) = l[l.findIdx (fun r => r.1 == id)]? := by
 induction l with
 | nil => rfl
 | cons x l ih =>
  rw [List.find?_cons, List.findIdx_cons]
  cases x.1 == id
  ·simp [ih]
  ·simp
def fineRecs (l : LR) : Prop := l.length < 1000000000 ∧ ∀ r ∈ l, r.2.2.2.2.2.length < 1000000000 ∧ ∀ x ∈ r.2.2.2.2.2, x.2.length ≤ 1000000
theorem Find.pure (l : LR) (id : Int) (hl : fineRecs l) :
  rec_Find.f BIG l id = some ((oldR l id).1.1, (oldR l id).1.2.1, (oldR l id).1.2.2.1, (oldR l id).1.2.2.2.1.1, (oldR l id).1.2.2.2.1.2, (oldR l id).1.2.2.2.2.1, (oldR l id).1.2.2.2.2.2, (oldR l id).2) := by
 obtain ⟨hn, l2⟩ := hl
 unfold rec_Find.f rec_Find.b
 simp only [veil_eq]
 have hw : rec_where_api_Rec_find.f BIG l id = some (((l.findIdx (fun r => r.1 == id) : Nat) : Int), id) := by
  unfold rec_where_api_Rec_find.f rec_where_api_Rec_find.b
  have := WhereF.loop BIG l id hn BIG 0 (by omega) (by rw [BIG_eq]; omega)
  rw [show ((0 : Nat) : Int) = 0 from rfl] at this
  rw [this]
  simp
 rw [hw]
 dsimp only
 unfold oldR
 rw [find_idx]
 by_cases hi : l.findIdx (fun r => r.1 == id) < l.length
 ·rw [if_neg (by simp; omega), idx_at, List.getElem?_eq_getElem hi]
  dsimp only
  have hm := List.getElem_mem hi
  generalize l[l.findIdx (fun r => r.1 == id)] = r at hm ⊢
  rw [Clone.pure r (l2 r hm).2 (l2 r hm).1]
 ·have : l.findIdx (fun r => r.1 == id) = l.length := by have := List.findIdx_le_length (xs := l) (p := fun r => r.1 == id); omega
  rw [if_pos (by rw [this]; simp), List.getElem?_eq_none (by omega)]
def hN (i : Nat) : Nat := (halves.getD i 0).toNat
def nib (r x : Nat) : Nat := (r * 16 % 4294967296) ^^^ hN ((r / 268435456) ^^^ x)
def stepN (r c : Nat) : Nat := nib (nib r (c / 16)) (c % 16)
theorem hN_lt (i : Nat) : hN i < 4294967296 := by
 unfold hN
 rcases Nat.lt_or_ge i 16 with h | h
 ·have : ∀ i, i < 16 → (halves.getD i 0).toNat < 4294967296 := by decide
  exact this i h
 ·have : halves.getD i 0 = 0 := by
   show (halves[i]?).getD 0 = 0
   rw [List.getElem?_eq_none (by simpa [halves] using h)]; rfl
  rw [this]; decide
theorem hN_inj (i j : Nat) (hi : i < 16) (hj : j < 16) (h : hN i % 16 = hN j % 16) : i = j := by
 have : ∀ i, i < 16 → ∀ j, j < 16 → hN i % 16 = hN j % 16 → i = j := by decide
 exact this i hi j hj h
theorem xor_lt (a b n : Nat) (ha : a < 2 ^ n) (hb : b < 2 ^ n) : a ^^^ b < 2 ^ n := Nat.xor_lt_two_pow ha hb
theorem nib_lt (r x : Nat) : nib r x < 4294967296 := by
 unfold nib
 exact xor_lt _ _ 32 (by omega) (hN_lt _)
theorem nib_mod (r x : Nat) : nib r x % 16 = hN ((r / 268435456) ^^^ x) % 16 := by
 unfold nib
 have := Nat.xor_mod_two_pow (a := r * 16 % 4294967296) (b := hN ((r / 268435456) ^^^ x)) (n := 4)
 rw [show (2 : Nat) ^ 4 = 16 from rfl] at this
 rw [this, show r * 16 % 4294967296 % 16 = 0 by omega, Nat.zero_xor]
theorem xor_cancel (a b c : Nat) (h : a ^^^ c = b ^^^ c) : a = b := by
 have := congrArg (· ^^^ c) h
 simpa [Nat.xor_assoc] using this
theorem top_lt (r x : Nat) (hr : r < 4294967296) (hx : x < 16) : (r / 268435456) ^^^ x < 16 := xor_lt _ _ 4 (by omega) hx
theorem nib_inj (r s x : Nat) (hr : r < 4294967296) (hs : s < 4294967296) (hx : x < 16) (h : nib r x = nib s x) : r = s := by
 have h1 := congrArg (· % 16) h
 simp only [nib_mod] at h1
 have h2 := hN_inj _ _ (top_lt r x hr hx) (top_lt s x hs hx) h1
 have h3 := xor_cancel _ _ _ h2
 unfold nib at h
 rw [h2] at h
 have h4 := xor_cancel _ _ _ h
 omega
theorem nib_inj2 (r x y : Nat) (hr : r < 4294967296) (hx : x < 16) (hy : y < 16) (h : nib r x = nib r y) : x = y := by
 have h1 := congrArg (· % 16) h
 simp only [nib_mod] at h1
 have h2 := hN_inj _ _ (top_lt r x hr hx) (top_lt r y hr hy) h1
 rw [Nat.xor_comm _ x, Nat.xor_comm _ y] at h2
 exact xor_cancel _ _ _ h2
theorem stepN_lt (r c : Nat) : stepN r c < 4294967296 := nib_lt _ _
theorem stepN_inj (r s c : Nat) (hr : r < 4294967296) (hs : s < 4294967296) (hc : c < 256) (h : stepN r c = stepN s c) : r = s :=
 nib_inj r s (c / 16) hr hs (by omega) (nib_inj _ _ (c % 16) (nib_lt _ _) (nib_lt _ _) (by omega) h)
theorem stepN_inj2 (r c d : Nat) (hr : r < 4294967296) (hc : c < 256) (hd : d < 256) (h : stepN r c = stepN r d) : c = d := by
 unfold stepN at h
 have h1 := congrArg (· % 16) h
 simp only [nib_mod] at h1
 have h2 := hN_inj _ _ (top_lt (nib r (c / 16)) (c % 16) (nib_lt _ _) (by omega)) (top_lt (nib r (d / 16)) (d % 16) (nib_lt _ _) (by omega)) h1
 have h3 := h
 unfold nib at h3
 change (nib r (c / 16) * 16 % 4294967296) ^^^ hN ((nib r (c / 16) / 268435456) ^^^ (c % 16)) = (nib r (d / 16) * 16 % 4294967296) ^^^ hN ((nib r (d / 16) / 268435456) ^^^ (d % 16)) at h3
 rw [h2] at h3
 have h4 := xor_cancel _ _ _ h3
 have h5 : nib r (c / 16) % 16 = nib r (d / 16) % 16 := by omega
 rw [nib_mod, nib_mod] at h5
 have h6 := hN_inj _ _ (top_lt r (c / 16) hr (by omega)) (top_lt r (d / 16) hr (by omega)) h5
 rw [Nat.xor_comm _ (c / 16), Nat.xor_comm _ (d / 16)] at h6
 have h7 := xor_cancel _ _ _ h6
 rw [h7] at h
 have h8 := nib_inj2 _ (c % 16) (d % 16) (nib_lt _ _) (by omega) (by omega) h
 omega
def crcN (r : Nat) : List Nat → Nat
 | [] => r
 | c :: b => crcN (stepN r c) b
theorem crcN_lt (b : List Nat) : ∀ r, r < 4294967296 → crcN r b < 4294967296 := by
 induction b with
 | nil => intro r h; exact h
 | cons c b ih => intro r h; exact ih _ (stepN_lt _ _)
theorem crcN_inj : ∀ (b : List Nat) (r s : Nat), (∀ c ∈ b, c < 256) → r < 4294967296 → s < 4294967296 → crcN r b = crcN s b → r = s
 | [], r, s, _, _, _, h => h
 | c :: b, r, s, hb, hr, hs, h => stepN_inj r s c hr hs (hb c (by simp)) (crcN_inj b _ _ (fun x hx => hb x (by simp [hx])) (stepN_lt _ _) (stepN_lt _ _) h)
theorem crcN_app : ∀ (a b : List Nat) (r : Nat), crcN r (a ++ b) = crcN (crcN r a) b
 | [], b, r => rfl
 | c :: a, b, r => crcN_app a b _
theorem crcN_turned (a b : List Nat) (c d r : Nat) (hr : r < 4294967296) (hc : c < 256) (hd : d < 256) (hb : ∀ x ∈ b, x < 256) (h : crcN r (a ++ c :: b) = crcN r (a ++ d :: b)) : c = d := by
 rw [crcN_app, crcN_app] at h
 have h1 := crcN_inj b _ _ hb (stepN_lt _ _) (stepN_lt _ _) h
 exact stepN_inj2 _ c d (crcN_lt a r hr) hc hd h1
def gen3_lay_E : Env := ⟨th, gam [(78, s_write), (79, s_num), (80, s_code), (82, s_bytes), (41, s_has), (119, s_gen3_writer_form), (120, s_gen3_writer_put)], fun i => if i = 19 then ⟨[1, 5, 6, 78, 79, 80], [(1, 53, tQr)], [1]⟩ else ⟨[], [], []⟩⟩
def gen3_lay.k (rs : List AV) (os : List Den.Obj) : Option (List Int) :=
 match rs, os with
 | [.d (.sl (.int .u8)) r0], [] => some r0
 | _, _ => none
def gen3_lay.s19 (mKind mFrom mInc mSpanLo mSpanHi mSeq mTarget mLife mEpoch mBase : Int) (mRecs base x6 : LR) (x7 x8 x9 : Int) (x10 : (List Int)) : St := ⟨[.dead, .d (.sl tQr) x6, dD, dD, dD, .ptr 64 0, .d tQi x7, dD, dD, dD, dD, dD, dD, dD, dD, dD, dD, dD, dD, dD, dD, dD, dD, dD, dD, dD, dD, dD, dD, dD, dD, dD, dD, dD, dD, dD, dD, dD, dD, dD, dD, dD, dD, dD, dD, dD, dD, dD, dD, dD, dD, dD, dD, dD, dD, dD, dD, dD, dD, dD, dD, dD, dD, dD, dD, dD, dD, dD, dD, dD, dD, dD, dD, dD, dD, dD, dD, dD, .d (.sl tQr) (mRecs), .d tQi x8, .d tQi x9, dD, dD, dD, dD, dD, dD, dD, dD, dD, dD, dD, dD, dD, dD, dD, dD, dD, .dead], ofL [(64, .box [.ptr 65 0]), (65, .box [.row 66, .d .bool (false)]), (66, .row 5 (.int .u8) x10 false)], 0⟩
def gen3_lay.p19 (fuel : Nat) (mKind mFrom mInc mSpanLo mSpanHi mSeq mTarget mLife mEpoch mBase : Int) (mRecs base : LR) (k : Nat) := fun x6 x7 x8 x9 x10 => lp gen3_lay_E fuel Tryz.f97 [.own 5 (.int .u8)] 0 gen3_lay.k 19 [] k (gen3_lay.s19 mKind mFrom mInc mSpanLo mSpanHi mSeq mTarget mLife mEpoch mBase mRecs base x6 x7 x8 x9 x10)
def gen3_lay.b19 (mKind mFrom mInc mSpanLo mSpanHi mSeq mTarget mLife mEpoch mBase : Int) (mRecs base : LR) (A19 : LR → Int → Int → Int → (List Int) → Option (List Int)) (x6 : LR) (x7 : Int) (x8 : Int) (x9 : Int) (x10 : (List Int)) : Option (List Int) :=
 (if (decide (x9 < x8)) then (match (idx mRecs x9) with | none => none | some y11 => (match (veil (gen3_writer_put.f BIG x10 y11.1 y11.2.1 y11.2.2.1 y11.2.2.2.1.1 y11.2.2.2.1.2 y11.2.2.2.2.1 y11.2.2.2.2.2 x7 x6)) with | none => none | some y12 => A19 x6 y11.1 x8 (IntKind.wrap .i64 (x9 + (1 : Int))) y12)) else (if (roomy x10) then some (x10) else none))
def gen3_lay.l19 (fuel : Nat) (mKind mFrom mInc mSpanLo mSpanHi mSeq mTarget mLife mEpoch mBase : Int) (mRecs base : LR) : Nat → LR → Int → Int → Int → (List Int) → Option (List Int)
 | 0, _, _, _, _, _ => none
 | k + 1, x6, x7, x8, x9, x10 => gen3_lay.b19 mKind mFrom mInc mSpanLo mSpanHi mSeq mTarget mLife mEpoch mBase mRecs base (gen3_lay.l19 fuel mKind mFrom mInc mSpanLo mSpanHi mSeq mTarget mLife mEpoch mBase mRecs base k) x6 x7 x8 x9 x10
def gen3_lay.b (mKind mFrom mInc mSpanLo mSpanHi mSeq mTarget mLife mEpoch mBase : Int) (mRecs base : LR) (E19 : LR → Int → Int → Int → (List Int) → Option (List Int)) : Option (List Int) :=
 (if (mBase == (0 : Int)) then (if (fitsF (1 : Int) mKind) then (match (veil (gen3_writer_form.f BIG (be (Int.toNat (1 : Int)) mKind) (mFrom :: (mInc :: ([] : List Int))))) with | none => none | some y0 => (if ((fitsF (1 : Int) (codeF mSpanLo mSpanHi)) ∧ (roomy y0)) then (if (hasF mKind (0 : Int)) then (match (veil (gen3_writer_form.f BIG (y0 ++ (be (Int.toNat (1 : Int)) (codeF mSpanLo mSpanHi))) (mSeq :: ([] : List Int)))) with | none => none | some y1 => (if (hasF mKind (1 : Int)) then (match (veil (gen3_writer_form.f BIG y1 (mTarget :: ([] : List Int)))) with | none => none | some y2 => (if (hasF mKind (2 : Int)) then (match (veil (gen3_writer_form.f BIG y2 (mLife :: (mEpoch :: ([] : List Int))))) with | none => none | some y3 => (if (hasF mKind (3 : Int)) then (match (veil (gen3_writer_form.f BIG y3 (mBase :: ([] : List Int)))) with | none => none | some y4 => (if (hasF mKind (4 : Int)) then (match (veil (gen3_writer_form.f BIG y4 (((((List.length mRecs)) : Nat) : Int) :: ([] : List Int)))) with | none => none | some y5 => E19 ([] : LR) (-(1 : Int)) ((((List.length mRecs)) : Nat) : Int) (0 : Int) y5) else E19 ([] : LR) (-(1 : Int)) ((((List.length mRecs)) : Nat) : Int) (0 : Int) y4)) else (if (hasF mKind (4 : Int)) then (match (veil (gen3_writer_form.f BIG y3 (((((List.length mRecs)) : Nat) : Int) :: ([] : List Int)))) with | none => none | some y13 => E19 ([] : LR) (-(1 : Int)) ((((List.length mRecs)) : Nat) : Int) (0 : Int) y13) else E19 ([] : LR) (-(1 : Int)) ((((List.length mRecs)) : Nat) : Int) (0 : Int) y3))) else (if (hasF mKind (3 : Int)) then (match (veil (gen3_writer_form.f BIG y2 (mBase :: ([] : List Int)))) with | none => none | some y14 => (if (hasF mKind (4 : Int)) then (match (veil (gen3_writer_form.f BIG y14 (((((List.length mRecs)) : Nat) : Int) :: ([] : List Int)))) with | none => none | some y15 => E19 ([] : LR) (-(1 : Int)) ((((List.length mRecs)) : Nat) : Int) (0 : Int) y15) else E19 ([] : LR) (-(1 : Int)) ((((List.length mRecs)) : Nat) : Int) (0 : Int) y14)) else (if (hasF mKind (4 : Int)) then (match (veil (gen3_writer_form.f BIG y2 (((((List.length mRecs)) : Nat) : Int) :: ([] : List Int)))) with | none => none | some y16 => E19 ([] : LR) (-(1 : Int)) ((((List.length mRecs)) : Nat) : Int) (0 : Int) y16) else E19 ([] : LR) (-(1 : Int)) ((((List.length mRecs)) : Nat) : Int) (0 : Int) y2)))) else (if (hasF mKind (2 : Int)) then (match (veil (gen3_writer_form.f BIG y1 (mLife :: (mEpoch :: ([] : List Int))))) with | none => none | some y17 => (if (hasF mKind (3 : Int)) then (match (veil (gen3_writer_form.f BIG y17 (mBase :: ([] : List Int)))) with | none => none | some y18 => (if (hasF mKind (4 : Int)) then (match (veil (gen3_writer_form.f BIG y18 (((((List.length mRecs)) : Nat) : Int) :: ([] : List Int)))) with | none => none | some y19 => E19 ([] : LR) (-(1 : Int)) ((((List.length mRecs)) : Nat) : Int) (0 : Int) y19) else E19 ([] : LR) (-(1 : Int)) ((((List.length mRecs)) : Nat) : Int) (0 : Int) y18)) else (if (hasF mKind (4 : Int)) then (match (veil (gen3_writer_form.f BIG y17 (((((List.length mRecs)) : Nat) : Int) :: ([] : List Int)))) with | none => none | some y20 => E19 ([] : LR) (-(1 : Int)) ((((List.length mRecs)) : Nat) : Int) (0 : Int) y20) else E19 ([] : LR) (-(1 : Int)) ((((List.length mRecs)) : Nat) : Int) (0 : Int) y17))) else (if (hasF mKind (3 : Int)) then (match (veil (gen3_writer_form.f BIG y1 (mBase :: ([] : List Int)))) with | none => none | some y21 => (if (hasF mKind (4 : Int)) then (match (veil (gen3_writer_form.f BIG y21 (((((List.length mRecs)) : Nat) : Int) :: ([] : List Int)))) with | none => none | some y22 => E19 ([] : LR) (-(1 : Int)) ((((List.length mRecs)) : Nat) : Int) (0 : Int) y22) else E19 ([] : LR) (-(1 : Int)) ((((List.length mRecs)) : Nat) : Int) (0 : Int) y21)) else (if (hasF mKind (4 : Int)) then (match (veil (gen3_writer_form.f BIG y1 (((((List.length mRecs)) : Nat) : Int) :: ([] : List Int)))) with | none => none | some y23 => E19 ([] : LR) (-(1 : Int)) ((((List.length mRecs)) : Nat) : Int) (0 : Int) y23) else E19 ([] : LR) (-(1 : Int)) ((((List.length mRecs)) : Nat) : Int) (0 : Int) y1))))) else (if (hasF mKind (1 : Int)) then (match (veil (gen3_writer_form.f BIG (y0 ++ (be (Int.toNat (1 : Int)) (codeF mSpanLo mSpanHi))) (mTarget :: ([] : List Int)))) with | none => none | some y24 => (if (hasF mKind (2 : Int)) then (match (veil (gen3_writer_form.f BIG y24 (mLife :: (mEpoch :: ([] : List Int))))) with | none => none | some y25 => (if (hasF mKind (3 : Int)) then (match (veil (gen3_writer_form.f BIG y25 (mBase :: ([] : List Int)))) with | none => none | some y26 => (if (hasF mKind (4 : Int)) then (match (veil (gen3_writer_form.f BIG y26 (((((List.length mRecs)) : Nat) : Int) :: ([] : List Int)))) with | none => none | some y27 => E19 ([] : LR) (-(1 : Int)) ((((List.length mRecs)) : Nat) : Int) (0 : Int) y27) else E19 ([] : LR) (-(1 : Int)) ((((List.length mRecs)) : Nat) : Int) (0 : Int) y26)) else (if (hasF mKind (4 : Int)) then (match (veil (gen3_writer_form.f BIG y25 (((((List.length mRecs)) : Nat) : Int) :: ([] : List Int)))) with | none => none | some y28 => E19 ([] : LR) (-(1 : Int)) ((((List.length mRecs)) : Nat) : Int) (0 : Int) y28) else E19 ([] : LR) (-(1 : Int)) ((((List.length mRecs)) : Nat) : Int) (0 : Int) y25))) else (if (hasF mKind (3 : Int)) then (match (veil (gen3_writer_form.f BIG y24 (mBase :: ([] : List Int)))) with | none => none | some y29 => (if (hasF mKind (4 : Int)) then (match (veil (gen3_writer_form.f BIG y29 (((((List.length mRecs)) : Nat) : Int) :: ([] : List Int)))) with | none => none | some y30 => E19 ([] : LR) (-(1 : Int)) ((((List.length mRecs)) : Nat) : Int) (0 : Int) y30) else E19 ([] : LR) (-(1 : Int)) ((((List.length mRecs)) : Nat) : Int) (0 : Int) y29)) else (if (hasF mKind (4 : Int)) then (match (veil (gen3_writer_form.f BIG y24 (((((List.length mRecs)) : Nat) : Int) :: ([] : List Int)))) with | none => none | some y31 => E19 ([] : LR) (-(1 : Int)) ((((List.length mRecs)) : Nat) : Int) (0 : Int) y31) else E19 ([] : LR) (-(1 : Int)) ((((List.length mRecs)) : Nat) : Int) (0 : Int) y24)))) else (if (hasF mKind (2 : Int)) then (match (veil (gen3_writer_form.f BIG (y0 ++ (be (Int.toNat (1 : Int)) (codeF mSpanLo mSpanHi))) (mLife :: (mEpoch :: ([] : List Int))))) with | none => none | some y32 => (if (hasF mKind (3 : Int)) then (match (veil (gen3_writer_form.f BIG y32 (mBase :: ([] : List Int)))) with | none => none | some y33 => (if (hasF mKind (4 : Int)) then (match (veil (gen3_writer_form.f BIG y33 (((((List.length mRecs)) : Nat) : Int) :: ([] : List Int)))) with | none => none | some y34 => E19 ([] : LR) (-(1 : Int)) ((((List.length mRecs)) : Nat) : Int) (0 : Int) y34) else E19 ([] : LR) (-(1 : Int)) ((((List.length mRecs)) : Nat) : Int) (0 : Int) y33)) else (if (hasF mKind (4 : Int)) then (match (veil (gen3_writer_form.f BIG y32 (((((List.length mRecs)) : Nat) : Int) :: ([] : List Int)))) with | none => none | some y35 => E19 ([] : LR) (-(1 : Int)) ((((List.length mRecs)) : Nat) : Int) (0 : Int) y35) else E19 ([] : LR) (-(1 : Int)) ((((List.length mRecs)) : Nat) : Int) (0 : Int) y32))) else (if (hasF mKind (3 : Int)) then (match (veil (gen3_writer_form.f BIG (y0 ++ (be (Int.toNat (1 : Int)) (codeF mSpanLo mSpanHi))) (mBase :: ([] : List Int)))) with | none => none | some y36 => (if (hasF mKind (4 : Int)) then (match (veil (gen3_writer_form.f BIG y36 (((((List.length mRecs)) : Nat) : Int) :: ([] : List Int)))) with | none => none | some y37 => E19 ([] : LR) (-(1 : Int)) ((((List.length mRecs)) : Nat) : Int) (0 : Int) y37) else E19 ([] : LR) (-(1 : Int)) ((((List.length mRecs)) : Nat) : Int) (0 : Int) y36)) else (if (hasF mKind (4 : Int)) then (match (veil (gen3_writer_form.f BIG (y0 ++ (be (Int.toNat (1 : Int)) (codeF mSpanLo mSpanHi))) (((((List.length mRecs)) : Nat) : Int) :: ([] : List Int)))) with | none => none | some y38 => E19 ([] : LR) (-(1 : Int)) ((((List.length mRecs)) : Nat) : Int) (0 : Int) y38) else E19 ([] : LR) (-(1 : Int)) ((((List.length mRecs)) : Nat) : Int) (0 : Int) (y0 ++ (be (Int.toNat (1 : Int)) (codeF mSpanLo mSpanHi)))))))) else none)) else none) else (if (fitsF (1 : Int) mKind) then (match (veil (gen3_writer_form.f BIG (be (Int.toNat (1 : Int)) mKind) (mFrom :: (mInc :: ([] : List Int))))) with | none => none | some y39 => (if ((fitsF (1 : Int) (codeF mSpanLo mSpanHi)) ∧ (roomy y39)) then (if (hasF mKind (0 : Int)) then (match (veil (gen3_writer_form.f BIG (y39 ++ (be (Int.toNat (1 : Int)) (codeF mSpanLo mSpanHi))) (mSeq :: ([] : List Int)))) with | none => none | some y40 => (if (hasF mKind (1 : Int)) then (match (veil (gen3_writer_form.f BIG y40 (mTarget :: ([] : List Int)))) with | none => none | some y41 => (if (hasF mKind (2 : Int)) then (match (veil (gen3_writer_form.f BIG y41 (mLife :: (mEpoch :: ([] : List Int))))) with | none => none | some y42 => (if (hasF mKind (3 : Int)) then (match (veil (gen3_writer_form.f BIG y42 (mBase :: ([] : List Int)))) with | none => none | some y43 => (if (hasF mKind (4 : Int)) then (match (veil (gen3_writer_form.f BIG y43 (((((List.length mRecs)) : Nat) : Int) :: ([] : List Int)))) with | none => none | some y44 => E19 base (-(1 : Int)) ((((List.length mRecs)) : Nat) : Int) (0 : Int) y44) else E19 base (-(1 : Int)) ((((List.length mRecs)) : Nat) : Int) (0 : Int) y43)) else (if (hasF mKind (4 : Int)) then (match (veil (gen3_writer_form.f BIG y42 (((((List.length mRecs)) : Nat) : Int) :: ([] : List Int)))) with | none => none | some y45 => E19 base (-(1 : Int)) ((((List.length mRecs)) : Nat) : Int) (0 : Int) y45) else E19 base (-(1 : Int)) ((((List.length mRecs)) : Nat) : Int) (0 : Int) y42))) else (if (hasF mKind (3 : Int)) then (match (veil (gen3_writer_form.f BIG y41 (mBase :: ([] : List Int)))) with | none => none | some y46 => (if (hasF mKind (4 : Int)) then (match (veil (gen3_writer_form.f BIG y46 (((((List.length mRecs)) : Nat) : Int) :: ([] : List Int)))) with | none => none | some y47 => E19 base (-(1 : Int)) ((((List.length mRecs)) : Nat) : Int) (0 : Int) y47) else E19 base (-(1 : Int)) ((((List.length mRecs)) : Nat) : Int) (0 : Int) y46)) else (if (hasF mKind (4 : Int)) then (match (veil (gen3_writer_form.f BIG y41 (((((List.length mRecs)) : Nat) : Int) :: ([] : List Int)))) with | none => none | some y48 => E19 base (-(1 : Int)) ((((List.length mRecs)) : Nat) : Int) (0 : Int) y48) else E19 base (-(1 : Int)) ((((List.length mRecs)) : Nat) : Int) (0 : Int) y41)))) else (if (hasF mKind (2 : Int)) then (match (veil (gen3_writer_form.f BIG y40 (mLife :: (mEpoch :: ([] : List Int))))) with | none => none | some y49 => (if (hasF mKind (3 : Int)) then (match (veil (gen3_writer_form.f BIG y49 (mBase :: ([] : List Int)))) with | none => none | some y50 => (if (hasF mKind (4 : Int)) then (match (veil (gen3_writer_form.f BIG y50 (((((List.length mRecs)) : Nat) : Int) :: ([] : List Int)))) with | none => none | some y51 => E19 base (-(1 : Int)) ((((List.length mRecs)) : Nat) : Int) (0 : Int) y51) else E19 base (-(1 : Int)) ((((List.length mRecs)) : Nat) : Int) (0 : Int) y50)) else (if (hasF mKind (4 : Int)) then (match (veil (gen3_writer_form.f BIG y49 (((((List.length mRecs)) : Nat) : Int) :: ([] : List Int)))) with | none => none | some y52 => E19 base (-(1 : Int)) ((((List.length mRecs)) : Nat) : Int) (0 : Int) y52) else E19 base (-(1 : Int)) ((((List.length mRecs)) : Nat) : Int) (0 : Int) y49))) else (if (hasF mKind (3 : Int)) then (match (veil (gen3_writer_form.f BIG y40 (mBase :: ([] : List Int)))) with | none => none | some y53 => (if (hasF mKind (4 : Int)) then (match (veil (gen3_writer_form.f BIG y53 (((((List.length mRecs)) : Nat) : Int) :: ([] : List Int)))) with | none => none | some y54 => E19 base (-(1 : Int)) ((((List.length mRecs)) : Nat) : Int) (0 : Int) y54) else E19 base (-(1 : Int)) ((((List.length mRecs)) : Nat) : Int) (0 : Int) y53)) else (if (hasF mKind (4 : Int)) then (match (veil (gen3_writer_form.f BIG y40 (((((List.length mRecs)) : Nat) : Int) :: ([] : List Int)))) with | none => none | some y55 => E19 base (-(1 : Int)) ((((List.length mRecs)) : Nat) : Int) (0 : Int) y55) else E19 base (-(1 : Int)) ((((List.length mRecs)) : Nat) : Int) (0 : Int) y40))))) else (if (hasF mKind (1 : Int)) then (match (veil (gen3_writer_form.f BIG (y39 ++ (be (Int.toNat (1 : Int)) (codeF mSpanLo mSpanHi))) (mTarget :: ([] : List Int)))) with | none => none | some y56 => (if (hasF mKind (2 : Int)) then (match (veil (gen3_writer_form.f BIG y56 (mLife :: (mEpoch :: ([] : List Int))))) with | none => none | some y57 => (if (hasF mKind (3 : Int)) then (match (veil (gen3_writer_form.f BIG y57 (mBase :: ([] : List Int)))) with | none => none | some y58 => (if (hasF mKind (4 : Int)) then (match (veil (gen3_writer_form.f BIG y58 (((((List.length mRecs)) : Nat) : Int) :: ([] : List Int)))) with | none => none | some y59 => E19 base (-(1 : Int)) ((((List.length mRecs)) : Nat) : Int) (0 : Int) y59) else E19 base (-(1 : Int)) ((((List.length mRecs)) : Nat) : Int) (0 : Int) y58)) else (if (hasF mKind (4 : Int)) then (match (veil (gen3_writer_form.f BIG y57 (((((List.length mRecs)) : Nat) : Int) :: ([] : List Int)))) with | none => none | some y60 => E19 base (-(1 : Int)) ((((List.length mRecs)) : Nat) : Int) (0 : Int) y60) else E19 base (-(1 : Int)) ((((List.length mRecs)) : Nat) : Int) (0 : Int) y57))) else (if (hasF mKind (3 : Int)) then (match (veil (gen3_writer_form.f BIG y56 (mBase :: ([] : List Int)))) with | none => none | some y61 => (if (hasF mKind (4 : Int)) then (match (veil (gen3_writer_form.f BIG y61 (((((List.length mRecs)) : Nat) : Int) :: ([] : List Int)))) with | none => none | some y62 => E19 base (-(1 : Int)) ((((List.length mRecs)) : Nat) : Int) (0 : Int) y62) else E19 base (-(1 : Int)) ((((List.length mRecs)) : Nat) : Int) (0 : Int) y61)) else (if (hasF mKind (4 : Int)) then (match (veil (gen3_writer_form.f BIG y56 (((((List.length mRecs)) : Nat) : Int) :: ([] : List Int)))) with | none => none | some y63 => E19 base (-(1 : Int)) ((((List.length mRecs)) : Nat) : Int) (0 : Int) y63) else E19 base (-(1 : Int)) ((((List.length mRecs)) : Nat) : Int) (0 : Int) y56)))) else (if (hasF mKind (2 : Int)) then (match (veil (gen3_writer_form.f BIG (y39 ++ (be (Int.toNat (1 : Int)) (codeF mSpanLo mSpanHi))) (mLife :: (mEpoch :: ([] : List Int))))) with | none => none | some y64 => (if (hasF mKind (3 : Int)) then (match (veil (gen3_writer_form.f BIG y64 (mBase :: ([] : List Int)))) with | none => none | some y65 => (if (hasF mKind (4 : Int)) then (match (veil (gen3_writer_form.f BIG y65 (((((List.length mRecs)) : Nat) : Int) :: ([] : List Int)))) with | none => none | some y66 => E19 base (-(1 : Int)) ((((List.length mRecs)) : Nat) : Int) (0 : Int) y66) else E19 base (-(1 : Int)) ((((List.length mRecs)) : Nat) : Int) (0 : Int) y65)) else (if (hasF mKind (4 : Int)) then (match (veil (gen3_writer_form.f BIG y64 (((((List.length mRecs)) : Nat) : Int) :: ([] : List Int)))) with | none => none | some y67 => E19 base (-(1 : Int)) ((((List.length mRecs)) : Nat) : Int) (0 : Int) y67) else E19 base (-(1 : Int)) ((((List.length mRecs)) : Nat) : Int) (0 : Int) y64))) else (if (hasF mKind (3 : Int)) then (match (veil (gen3_writer_form.f BIG (y39 ++ (be (Int.toNat (1 : Int)) (codeF mSpanLo mSpanHi))) (mBase :: ([] : List Int)))) with | none => none | some y68 => (if (hasF mKind (4 : Int)) then (match (veil (gen3_writer_form.f BIG y68 (((((List.length mRecs)) : Nat) : Int) :: ([] : List Int)))) with | none => none | some y69 => E19 base (-(1 : Int)) ((((List.length mRecs)) : Nat) : Int) (0 : Int) y69) else E19 base (-(1 : Int)) ((((List.length mRecs)) : Nat) : Int) (0 : Int) y68)) else (if (hasF mKind (4 : Int)) then (match (veil (gen3_writer_form.f BIG (y39 ++ (be (Int.toNat (1 : Int)) (codeF mSpanLo mSpanHi))) (((((List.length mRecs)) : Nat) : Int) :: ([] : List Int)))) with | none => none | some y70 => E19 base (-(1 : Int)) ((((List.length mRecs)) : Nat) : Int) (0 : Int) y70) else E19 base (-(1 : Int)) ((((List.length mRecs)) : Nat) : Int) (0 : Int) (y39 ++ (be (Int.toNat (1 : Int)) (codeF mSpanLo mSpanHi)))))))) else none)) else none))
def gen3_lay.f (fuel : Nat) (mKind mFrom mInc mSpanLo mSpanHi mSeq mTarget mLife mEpoch mBase : Int) (mRecs base : LR) : Option (List Int) := gen3_lay.b mKind mFrom mInc mSpanLo mSpanHi mSeq mTarget mLife mEpoch mBase mRecs base (gen3_lay.l19 fuel mKind mFrom mInc mSpanLo mSpanHi mSeq mTarget mLife mEpoch mBase mRecs base fuel)
theorem gen3_lay.l19_eq (fuel : Nat) (mKind mFrom mInc mSpanLo mSpanHi mSeq mTarget mLife mEpoch mBase : Int) (mRecs base : LR) : ∀ k : Nat, gen3_lay.p19 fuel mKind mFrom mInc mSpanLo mSpanHi mSeq mTarget mLife mEpoch mBase mRecs base k = gen3_lay.l19 fuel mKind mFrom mInc mSpanLo mSpanHi mSeq mTarget mLife mEpoch mBase mRecs base k
 | 0 => by kernel_rfl
 | k + 1 => by
  refine Eq.trans (b := gen3_lay.b19 mKind mFrom mInc mSpanLo mSpanHi mSeq mTarget mLife mEpoch mBase mRecs base (gen3_lay.p19 fuel mKind mFrom mInc mSpanLo mSpanHi mSeq mTarget mLife mEpoch mBase mRecs base k)) (by kernel_rfl) ?_
  rw [gen3_lay.l19_eq fuel mKind mFrom mInc mSpanLo mSpanHi mSeq mTarget mLife mEpoch mBase mRecs base k]
  kernel_rfl
theorem gen3_lay.eq (fuel : Nat) (mKind mFrom mInc mSpanLo mSpanHi mSeq mTarget mLife mEpoch mBase : Int) (mRecs base : LR) : (denF gen3_lay_E loopN fuel Tryz.f97 [.own 5 (.int .u8)] [.agg [.d tQi mKind, .d tQi mFrom, .d tQi mInc, .d tQi mSpanLo, .d tQi mSpanHi, .d tQi mSeq, .d tQi mTarget, .d tQi mLife, .d tQi mEpoch, .d tQi mBase, .d (.sl tQr) mRecs], .d (.sl tQr) base] [] gen3_lay.k) = gen3_lay.f fuel mKind mFrom mInc mSpanLo mSpanHi mSeq mTarget mLife mEpoch mBase mRecs base := by
 refine Eq.trans (b := gen3_lay.b mKind mFrom mInc mSpanLo mSpanHi mSeq mTarget mLife mEpoch mBase mRecs base (gen3_lay.p19 fuel mKind mFrom mInc mSpanLo mSpanHi mSeq mTarget mLife mEpoch mBase mRecs base fuel)) (by kernel_rfl) ?_
 rw [gen3_lay.l19_eq fuel mKind mFrom mInc mSpanLo mSpanHi mSeq mTarget mLife mEpoch mBase mRecs base fuel]
 kernel_rfl
def s_gen3_lay : Den.Sum := ⟨[.dat (.pair tQi (.pair tQi (.pair tQi (.pair (.pair tQi tQi) (.pair tQi (.pair tQi (.pair tQi (.pair tQi (.pair tQi (.sl tQr)))))))))) true, .dat (.sl tQr) false], fun args objs κ => match args, objs with
 | [.agg [.d (.int .i64) mKind, .d (.int .i64) mFrom, .d (.int .i64) mInc, .d (.int .i64) mSpanLo, .d (.int .i64) mSpanHi, .d (.int .i64) mSeq, .d (.int .i64) mTarget, .d (.int .i64) mLife, .d (.int .i64) mEpoch, .d (.int .i64) mBase, .d (.sl (.pair (.int .i64) (.pair (.int .i64) (.pair (.int .i64) (.pair (.pair (.int .i64) (.int .i64)) (.pair .bool (.sl (.pair (.int .i64) (.sl (.int .u8)))))))))) mRecs], .d (.sl (.pair (.int .i64) (.pair (.int .i64) (.pair (.int .i64) (.pair (.pair (.int .i64) (.int .i64)) (.pair .bool (.sl (.pair (.int .i64) (.sl (.int .u8)))))))))) base], [] => (match veil (gen3_lay.f BIG mKind mFrom mInc mSpanLo mSpanHi mSeq mTarget mLife mEpoch mBase mRecs base) with | none => none | some y => κ [.d (.sl (.int .u8)) y] [])
 | _, _ => none⟩
theorem s_gen3_lay_det : SumDet s_gen3_lay := sdet fun _ _ _ _ => by
 unfold s_gen3_lay
 simp only [veil_eq]
 split
 ·split <;> rfl
 ·rfl
theorem s_gen3_lay_ok : SumOk Tryz.prog 97 s_gen3_lay := by
 have hE : EnvOk Tryz.prog gen3_lay_E := env_ok (l := [(78, s_write), (79, s_num), (80, s_code), (82, s_bytes), (41, s_has), (119, s_gen3_writer_form), (120, s_gen3_writer_put)]) th_ok any_ok ⟨⟨s_write_ok, s_write_det⟩, ⟨s_num_ok, s_num_det⟩, ⟨s_code_ok, s_code_det⟩, ⟨s_bytes_ok, s_bytes_det⟩, ⟨s_has_ok, s_has_det⟩, ⟨s_gen3_writer_form_ok, s_gen3_writer_form_det⟩, ⟨s_gen3_writer_put_ok, s_gen3_writer_put_det⟩, trivial⟩ _
 refine sum_ok hE Tryz.func97 rfl (by kernel_rfl) s_gen3_lay [.own 5 (.int .u8)] gen3_lay.k ?_
 intro R avs objs κ r h
 unfold s_gen3_lay at h
 simp only [veil_eq] at h
 split at h
 ·rename_i mKind mFrom mInc mSpanLo mSpanHi mSeq mTarget mLife mEpoch mBase mRecs base
  split at h
  ·cases h
  ·rename_i y hy
   refine ⟨BIG, _, _, _, (gen3_lay.eq BIG mKind mFrom mInc mSpanLo mSpanHi mSeq mTarget mLife mEpoch mBase mRecs base).trans hy, ?_, h⟩
   intro rs ros hk
   unfold gen3_lay.k at hk
   split at hk
   ·first | (cases hk; exact ⟨rfl, rfl⟩) | (rw [← Option.some.inj hk]; exact ⟨rfl, rfl⟩)
   ·cases hk
 ·cases h
def gen3_Encode_E : Env := ⟨th, gam [(76, s_valid), (96, s_sorted), (97, s_gen3_lay)], fun i => ⟨[], [], []⟩⟩
def gen3_Encode.k (rs : List AV) (os : List Den.Obj) : Option ((List Int) × Int) :=
 match rs, os with
 | [.d (.sl (.int .u8)) r0, .d (.int .i64) r1], [] => some (r0, r1)
 | _, _ => none
def gen3_Encode.b (mKind mFrom mInc mSpanLo mSpanHi mSeq mTarget mLife mEpoch mBase : Int) (mRecs base : LR) : Option ((List Int) × Int) :=
 (if (smallRecs mRecs) then (if (!(validF mKind mFrom mInc mSpanLo mSpanHi mSeq mTarget mLife mEpoch mBase mRecs)) then some (([] : List Int), (1 : Int)) else (if (smallRecs base) then (if (!(sortedF base)) then some (([] : List Int), (1 : Int)) else (match (veil (gen3_lay.f BIG mKind mFrom mInc mSpanLo mSpanHi mSeq mTarget mLife mEpoch mBase mRecs base)) with | none => none | some y0 => (if (decide (((((List.length y0)) : Nat) : Int) > (65499 : Int))) then some (([] : List Int), (14 : Int)) else some (y0, (0 : Int))))) else none)) else none)
def gen3_Encode.f (fuel : Nat) (mKind mFrom mInc mSpanLo mSpanHi mSeq mTarget mLife mEpoch mBase : Int) (mRecs base : LR) : Option ((List Int) × Int) := gen3_Encode.b mKind mFrom mInc mSpanLo mSpanHi mSeq mTarget mLife mEpoch mBase mRecs base
theorem gen3_Encode.eq (fuel : Nat) (mKind mFrom mInc mSpanLo mSpanHi mSeq mTarget mLife mEpoch mBase : Int) (mRecs base : LR) : (denF gen3_Encode_E loopN fuel Tryz.f64 [.dat (.sl (.int .u8)) false, .raw] [.agg [.d tQi mKind, .d tQi mFrom, .d tQi mInc, .d tQi mSpanLo, .d tQi mSpanHi, .d tQi mSeq, .d tQi mTarget, .d tQi mLife, .d tQi mEpoch, .d tQi mBase, .d (.sl tQr) mRecs], .d (.sl tQr) base] [] gen3_Encode.k) = gen3_Encode.f fuel mKind mFrom mInc mSpanLo mSpanHi mSeq mTarget mLife mEpoch mBase mRecs base := by
 kernel_rfl
def s_gen3_Encode : Den.Sum := ⟨[.dat (.pair tQi (.pair tQi (.pair tQi (.pair (.pair tQi tQi) (.pair tQi (.pair tQi (.pair tQi (.pair tQi (.pair tQi (.sl tQr)))))))))) true, .dat (.sl tQr) false], fun args objs κ => match args, objs with
 | [.agg [.d (.int .i64) mKind, .d (.int .i64) mFrom, .d (.int .i64) mInc, .d (.int .i64) mSpanLo, .d (.int .i64) mSpanHi, .d (.int .i64) mSeq, .d (.int .i64) mTarget, .d (.int .i64) mLife, .d (.int .i64) mEpoch, .d (.int .i64) mBase, .d (.sl (.pair (.int .i64) (.pair (.int .i64) (.pair (.int .i64) (.pair (.pair (.int .i64) (.int .i64)) (.pair .bool (.sl (.pair (.int .i64) (.sl (.int .u8)))))))))) mRecs], .d (.sl (.pair (.int .i64) (.pair (.int .i64) (.pair (.int .i64) (.pair (.pair (.int .i64) (.int .i64)) (.pair .bool (.sl (.pair (.int .i64) (.sl (.int .u8)))))))))) base], [] => (match veil (gen3_Encode.f BIG mKind mFrom mInc mSpanLo mSpanHi mSeq mTarget mLife mEpoch mBase mRecs base) with | none => none | some y => κ [.d (.sl (.int .u8)) y.1, .d (.int .i64) y.2] [])
 | _, _ => none⟩
theorem s_gen3_Encode_det : SumDet s_gen3_Encode := sdet fun _ _ _ _ => by
 unfold s_gen3_Encode
 simp only [veil_eq]
 split
 ·split <;> rfl
 ·rfl
theorem s_gen3_Encode_ok : SumOk Tryz.prog 64 s_gen3_Encode := by
 have hE : EnvOk Tryz.prog gen3_Encode_E := env_ok (l := [(76, s_valid), (96, s_sorted), (97, s_gen3_lay)]) th_ok any_ok ⟨⟨s_valid_ok, s_valid_det⟩, ⟨s_sorted_ok, s_sorted_det⟩, ⟨s_gen3_lay_ok, s_gen3_lay_det⟩, trivial⟩ _
 refine sum_ok hE Tryz.func64 rfl (by kernel_rfl) s_gen3_Encode [.dat (.sl (.int .u8)) false, .raw] gen3_Encode.k ?_
 intro R avs objs κ r h
 unfold s_gen3_Encode at h
 simp only [veil_eq] at h
 split at h
 ·rename_i mKind mFrom mInc mSpanLo mSpanHi mSeq mTarget mLife mEpoch mBase mRecs base
  split at h
  ·cases h
  ·rename_i y hy
   refine ⟨BIG, _, _, _, (gen3_Encode.eq BIG mKind mFrom mInc mSpanLo mSpanHi mSeq mTarget mLife mEpoch mBase mRecs base).trans hy, ?_, h⟩
   intro rs ros hk
   unfold gen3_Encode.k at hk
   split at hk
   ·first | (cases hk; exact ⟨rfl, rfl⟩) | (rw [← Option.some.inj hk]; exact ⟨rfl, rfl⟩)
   ·cases hk
 ·cases h
def gen3_reader_span_E : Env := ⟨th, gam [(52, s_rnumb), (83, s_sofb)], fun i => ⟨[], [], []⟩⟩
def gen3_reader_span.k (rs : List AV) (os : List Den.Obj) : Option (Int × Int × Bool × (List Int) × Int × Bool) :=
 match rs, os with
 | [.agg [.d (.int .i64) r0, .d (.int .i64) r1]], [.box [.ptr 1 0, .d .bool r2], .box [.d (.sl (.int .u8)) r3, .d (.int .i64) r4, .d .bool r5]] => some (r0, r1, r2, r3, r4, r5)
 | _, _ => none
def gen3_reader_span.b (bs : List Int) (at0 : Int) (bad wrong : Bool) : Option (Int × Int × Bool × (List Int) × Int × Bool) :=
 (if (atOk bs at0) then (match (veil (Option.some (readF bs (1 : Int) at0 bad))) with | none => none | some y0 => (match (veil (Option.some (ofGo allF y0.1))) with | none => none | some y1 => (if wrong then some (y1.1, y1.2.1, true, bs, y0.2.1, y0.2.2) else some (y1.1, y1.2.1, (!y1.2.2), bs, y0.2.1, y0.2.2)))) else none)
def gen3_reader_span.f (fuel : Nat) (bs : List Int) (at0 : Int) (bad wrong : Bool) : Option (Int × Int × Bool × (List Int) × Int × Bool) := gen3_reader_span.b bs at0 bad wrong
theorem gen3_reader_span.eq (fuel : Nat) (bs : List Int) (at0 : Int) (bad wrong : Bool) : (denF gen3_reader_span_E loopN fuel Tryz.f107 [.dat (.pair tQi tQi) true] [.ptr 0 0] [.box [.ptr 1 0, .d .bool wrong], .box [.d (.sl (.int .u8)) bs, .d tQi at0, .d .bool bad]] gen3_reader_span.k) = gen3_reader_span.f fuel bs at0 bad wrong := by
 kernel_rfl
def s_gen3_reader_span : Den.Sum := ⟨[.pb [.frz none [0] 0 (.int .u8)]], fun args objs κ => match args, objs with
 | [.ptr 0 0], [.box [.ptr 1 0, .d .bool wrong], .box [.d (.sl (.int .u8)) bs, .d (.int .i64) at0, .d .bool bad]] => (match veil (gen3_reader_span.f BIG bs at0 bad wrong) with | none => none | some y => κ [.agg [.d (.int .i64) y.1, .d (.int .i64) y.2.1]] [.box [.ptr 1 0, .d .bool y.2.2.1], .box [.d (.sl (.int .u8)) y.2.2.2.1, .d (.int .i64) y.2.2.2.2.1, .d .bool y.2.2.2.2.2]])
 | _, _ => none⟩
theorem s_gen3_reader_span_det : SumDet s_gen3_reader_span := sdet fun _ _ _ _ => by
 unfold s_gen3_reader_span
 simp only [veil_eq]
 split
 ·split <;> rfl
 ·rfl
theorem s_gen3_reader_span_ok : SumOk Tryz.prog 107 s_gen3_reader_span := by
 have hE : EnvOk Tryz.prog gen3_reader_span_E := env_ok (l := [(52, s_rnumb), (83, s_sofb)]) th_ok any_ok ⟨⟨s_rnumb_ok, s_rnumb_det⟩, ⟨s_sofb_ok, s_sofb_det⟩, trivial⟩ _
 refine sum_ok hE Tryz.func107 rfl (by kernel_rfl) s_gen3_reader_span [.dat (.pair tQi tQi) true] gen3_reader_span.k ?_
 intro R avs objs κ r h
 unfold s_gen3_reader_span at h
 simp only [veil_eq] at h
 split at h
 ·rename_i wrong bs at0 bad
  split at h
  ·cases h
  ·rename_i y hy
   refine ⟨BIG, _, _, _, (gen3_reader_span.eq BIG bs at0 bad wrong).trans hy, ?_, h⟩
   intro rs ros hk
   unfold gen3_reader_span.k at hk
   split at hk
   ·first | (cases hk; exact ⟨rfl, rfl⟩) | (rw [← Option.some.inj hk]; exact ⟨rfl, rfl⟩)
   ·cases hk
 ·cases h
def varint_Get_E : Env := ⟨th, gam [], fun i => if i = 4 then ⟨[0, 5, 6, 7, 10], [], []⟩ else ⟨[], [], []⟩⟩
def varint_Get.k (rs : List AV) (os : List Den.Obj) : Option (Int × Int × Int) :=
 match rs, os with
 | [.d (.int .u64) r0, .d (.int .i64) r1, .d (.int .i64) r2], [] => some (r0, r1, r2)
 | _, _ => none
end
end Go.Proofs.YtneiiplppcjjlaaGreatDoor
