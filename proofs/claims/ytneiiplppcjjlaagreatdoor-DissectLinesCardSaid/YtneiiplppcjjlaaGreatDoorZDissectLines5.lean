/- DissectLines: whatever datagrams are given, the law returns true, and the input reads as it did; the table crc.halves is tied to the text of the program. -/
import Derived.Test.YtneiiplppcjjlaaGreatDoorZDissectLines4
set_option linter.unusedVariables false
set_option linter.unusedSimpArgs false
set_option maxRecDepth 100000
namespace Go.Proofs.YtneiiplppcjjlaaGreatDoor
open Go.Den
noncomputable section
def qp.b5 (l : List (List Int)) (A5 : ByteArray → Int → Option Bool) (E15 : ByteArray → Int → Int → (List ByteArray) → (List Int) → (List ByteArray) → (List Int) → Option Bool) (x1 : ByteArray) (x2 : Int) : Option Bool :=
 (if (decide (x2 < ((((List.length l)) : Nat) : Int))) then (match (idx l x2) with | none => none | some y3 => (if (decide (((((List.length y3)) : Nat) : Int) > (2000 : Int))) then (match (veil (QU.f BIG ())) with | none => none | some y4 => some (y4)) else (match (idx l x2) with | none => none | some y5 => (match (veil (qY.f BIG y5)) with | none => none | some y6 => (match (idx l x2) with | none => none | some y7 => (match (veil (zh.f BIG y7)) with | none => none | some y8 => (match (idx l x2) with | none => none | some y9 => (match (veil (zg.f BIG y9)) with | none => none | some y10 => (if (((((List.length y8)) : Nat) : Int) != ((((List.length y6.1)) : Nat) : Int)) then some (false) else (if (((((List.length y10)) : Nat) : Int) != ((((List.length y6.2)) : Nat) : Int)) then some (false) else E15 x1 x2 (0 : Int) y6.1 y6.2 y8 y10)))))))))) else (match (veil (qV.f BIG l)) with | none => none | some y33 => (if ((ByteArray.toList y33) == (ByteArray.toList x1)) then (match (veil (QU.f BIG ())) with | none => none | some y34 => some (y34)) else some (false))))
def qp.l5 (qa : Nat) (l : List (List Int)) : Nat → ByteArray → Int → Option Bool
 | 0, _, _ => none
 | k + 1, x1, x2 => qp.b5 l (qp.l5 qa l k) (qp.l15 qa l (qp.l5 qa l k) qa) x1 x2
def qp.b (l : List (List Int)) (E5 : ByteArray → Int → Option Bool) : Option Bool :=
 (if (decide (((((List.length l)) : Nat) : Int) > (5 : Int))) then (match (veil (QU.f BIG ())) with | none => none | some y0 => some (y0)) else E5 (⟨(([] : List UInt8)).toArray⟩ : ByteArray) (0 : Int))
def qp.f (qa : Nat) (l : List (List Int)) : Option Bool := qp.b l (qp.l5 qa l qa)
theorem qp.l21_eq (qa : Nat) (l : List (List Int)) (k5 : Nat) : ∀ k : Nat, qp.p21 qa l k5 k = qp.l21 qa l (qp.p5 qa l k5) k
 | 0 => by kernel_rfl
 | k + 1 => by
  refine Eq.trans (b := qp.b21 l (qp.p5 qa l k5) (qp.p21 qa l k5 k)) (by kernel_rfl) ?_
  rw [qp.l21_eq qa l k5 k]
  kernel_rfl
theorem qp.l15_eq (qa : Nat) (l : List (List Int)) (k5 : Nat) : ∀ k : Nat, qp.p15 qa l k5 k = qp.l15 qa l (qp.p5 qa l k5) k
 | 0 => by kernel_rfl
 | k + 1 => by
  refine Eq.trans (b := qp.b15 l (qp.p5 qa l k5) (qp.p15 qa l k5 k) (qp.p21 qa l k5 qa)) (by kernel_rfl) ?_
  rw [qp.l15_eq qa l k5 k, qp.l21_eq qa l k5 qa]
  kernel_rfl
theorem qp.l5_eq (qa : Nat) (l : List (List Int)) : ∀ k : Nat, qp.p5 qa l k = qp.l5 qa l k
 | 0 => by kernel_rfl
 | k + 1 => by
  refine Eq.trans (b := qp.b5 l (qp.p5 qa l k) (qp.p15 qa l k qa)) (by kernel_rfl) ?_
  rw [qp.l5_eq qa l k, qp.l15_eq qa l k qa, qp.l5_eq qa l k]
  kernel_rfl
theorem qp.eq (qa : Nat) (l : List (List Int)) : (denF Z0 loopN qa Tryz.f6 [.raw] [.d (.sl (.sl (.int .u8))) l] [] qp.k) = qp.f qa l := by
 refine Eq.trans (b := qp.b l (qp.p5 qa l qa)) (by kernel_rfl) ?_
 rw [qp.l5_eq qa l qa]
 kernel_rfl
theorem qnH (w : ByteArray) : strOf (bytesOf w) = w := by
 apply qiV
 have e : ((fun n : Int => UInt8.ofNat n.toNat) ∘ fun b : UInt8 => (b.toNat : Int)) = id := funext fun b => by simp
 simp [strOf, strOfNums, bytesOf, e]
def qb7 (w : ByteArray) : List Int := bytesOf w ++ [10]
def qbN (zd : List (List Int)) : List Int := zd.flatMap fun b => (qaf b).1.flatMap qb7
theorem qql (w : ByteArray) : (qb7 w).length = w.size + 1 := by simp [qb7, qcE]
theorem qqu (W : List ByteArray) (h : ∀ w ∈ W, w.size ≤ 1100000) : (W.flatMap qb7).length ≤ W.length * 1100001 := by
 induction W with
 | nil => simp
 | cons w W ih =>
  have h1 := h w List.mem_cons_self
  have h2 := ih fun x hx => h x (List.mem_cons_of_mem _ hx)
  rw [List.flatMap_cons, List.length_append, qql, List.length_cons]
  omega
theorem qgs {b : List Int} (hb : isB b) (hl : b.length ≤ 1000000) : (qaf b).1.length ≤ 256 ∧ ∀ w ∈ (qaf b).1, w.size ≤ 1100000 := by
 obtain ⟨ob, ol⟩ := qgf 1 3 hb
 have htell := @qh9 (zI b 1 3).2.2.2.2.2.2.2.2.2.2.2.1 _ ob (by omega)
 unfold qaf
 generalize zI b 1 3 = W at *
 have hh : (qiW W).size ≤ 1000 := by
  have hns := Z7 W.2.2.2.2.2.2.2.2.2.2.2.1
  have hms := (qfs W.1 W.2.1 W.2.2.1 W.2.2.2.1 W.2.2.2.2.1 W.2.2.2.2.2.1 W.2.2.2.2.2.2.1 W.2.2.2.2.2.2.2.1 W.2.2.2.2.2.2.2.2.1 W.2.2.2.2.2.2.2.2.2.1).2
  have g4 : qfb.size = 4 := rfl
  have g1 : qgi.size = 1 := rfl
  unfold qiW
  rw [Qv, Qv, Qv]
  omega
 have hbad : ∀ e, (qeG ++ qeo e).size ≤ 1000 := fun e => by
  have h1 := (qlS.pure e).2
  have h2 : qeG.size = 4 := rfl
  rw [Qv]; omega
 have hbad2 : ∀ e, (qiR ++ qeo e).size ≤ 1000 := fun e => by
  have h1 := (qlS.pure e).2
  have h2 : qiR.size = 6 := rfl
  rw [Qv]; omega
 have hun : qn7.size = 8 := rfl
 split
 ·refine ⟨by simp, fun w hw => ?_⟩
  simp only [List.mem_singleton] at hw
  rw [hw]; have := hbad W.2.2.2.2.2.2.2.2.2.2.2.2.2; omega
 ·split
  ·refine ⟨by simp, fun w hw => ?_⟩
   simp only [List.mem_cons, List.not_mem_nil, or_false] at hw
   rcases hw with hw | hw
   ·rw [hw]; omega
   ·rw [hw]; omega
  ·split
   ·refine ⟨by simp, fun w hw => ?_⟩
    simp only [List.mem_cons, List.not_mem_nil, or_false] at hw
    rcases hw with hw | hw
    ·rw [hw]; omega
    ·rw [hw]; have := hbad2 (qaC (QV W.2.2.2.2.2.2.2.2.2.2.2.1 W.2.2.2.2.2.2.2.2.2.2.2.2.1 [])); omega
   ·rename_i hm
    have ht := htell (Decidable.not_not.1 hm)
    refine ⟨by simp; exact ht.1, fun w hw => ?_⟩
    simp only [List.mem_cons, List.mem_map] at hw
    rcases hw with hw | ⟨r, hr, rfl⟩
    ·rw [hw]; omega
    ·have := (qq7 (ht.2 r hr).1 (ht.2 r hr).2).2
     have h2 : qg5.size = 2 := rfl
     unfold qhu
     rw [Qv]; omega
theorem qmM (zd : List (List Int)) (h : ∀ b ∈ zd, isB b ∧ b.length ≤ 1000000) : (qbN zd).length ≤ zd.length * 281600256 := by
 induction zd with
 | nil => simp [qbN]
 | cons b zd ih =>
  obtain ⟨h1, h2⟩ := h b List.mem_cons_self
  obtain ⟨h3, h4⟩ := qgs h1 h2
  have h5 := qqu _ h4
  have h6 := ih fun x hx => h x (List.mem_cons_of_mem _ hx)
  have h7 : (qaf b).1.length * 1100001 ≤ 256 * 1100001 := Nat.mul_le_mul_right _ h3
  unfold qbN at *
  rw [List.flatMap_cons, List.length_append, List.length_cons]
  omega
theorem qr0 (zd : List (List Int)) (A : Int → Int → List Int → Option ByteArray) (x5 x6 : Int) (W : List ByteArray) (h : ∀ w ∈ W, w.size ≤ 1100000) (hn : W.length ≤ 256) : ∀ (m k i : Nat) (acc : List Int), i + m = W.length → m < k → acc.length + m * 1100001 ≤ 1099511627776 →
  qV.l6 BIG zd A k x5 x6 (W.length : Int) (i : Int) acc W = A x5 (IntKind.wrap .i64 (x6 + 1)) (acc ++ (W.drop i).flatMap qb7) := by
 intro m
 induction m with
 | zero =>
  intro k i acc hi hk ha
  obtain ⟨k, rfl⟩ : ∃ k', k = k' + 1 := ⟨k - 1, by omega⟩
  rw [qV.l6]
  unfold qV.b6
  rw [if_neg (by simp; omega), List.drop_of_length_le (by omega)]
  simp
 | succ m ih =>
  intro k i acc hi hk ha
  obtain ⟨k, rfl⟩ : ∃ k', k = k' + 1 := ⟨k - 1, by omega⟩
  have hlt : i < W.length := by omega
  have hw := h _ (List.getElem_mem hlt)
  rw [qV.l6]
  unfold qV.b6
  simp only [veil_eq]
  rw [if_pos (by simp; omega), Qn, List.getElem?_eq_getElem hlt]
  dsimp only
  unfold zv.f zv.b zD.f zD.b
  rw [if_pos (by rw [qcE]; unfold lim; omega)]
  dsimp only
  rw [if_pos (by rw [List.length_append, qcE]; unfold lim; simp; omega), qX _ (by omega) (by omega), show ((i : Int) + 1) = ((i + 1 : Nat) : Int) from by omega]
  dsimp only
  rw [ih k (i + 1) _ (by omega) (by omega) (by simp [qcE]; omega), List.drop_eq_getElem_cons hlt, List.flatMap_cons]
  simp [qb7]
theorem qqX (zd : List (List Int)) (h : ∀ b ∈ zd, isB b ∧ b.length ≤ 1000000) (hn : zd.length ≤ 1000) : ∀ (m k i : Nat), i + m = zd.length → m < k →
  qV.l3 BIG zd k (zd.length : Int) (i : Int) (qbN (zd.take i)) = some (strOf (qbN zd)) := by
 intro m
 induction m with
 | zero =>
  intro k i hi hk
  obtain ⟨k, rfl⟩ : ∃ k', k = k' + 1 := ⟨k - 1, by omega⟩
  rw [qV.l3]
  unfold qV.b3
  rw [if_neg (by simp; omega), List.take_of_length_le (by omega)]
 | succ m ih =>
  intro k i hi hk
  obtain ⟨k, rfl⟩ : ∃ k', k = k' + 1 := ⟨k - 1, by omega⟩
  have hlt : i < zd.length := by omega
  obtain ⟨h1, h2⟩ := h _ (List.getElem_mem hlt)
  obtain ⟨h3, h4⟩ := qgs h1 h2
  have h5 := qmM (zd.take i) fun x hx => h x (List.mem_of_mem_take hx)
  rw [List.length_take, Nat.min_eq_left (by omega)] at h5
  rw [qV.l3]
  unfold qV.b3
  simp only [veil_eq]
  rw [if_pos (by simp; omega), Qn, List.getElem?_eq_getElem hlt]
  dsimp only
  rw [qrU.pure _ h1 h2]
  dsimp only
  have h7 : (qaf zd[i]).1.length * 1100001 ≤ 256 * 1100001 := Nat.mul_le_mul_right _ h3
  rw [show (0 : Int) = ((0 : Nat) : Int) from rfl, qr0 zd _ _ _ _ h4 h3 _ BIG 0 _ (Nat.zero_add _) (by rw [Zx]; omega) (by omega), List.drop_zero]
  have e : qbN (zd.take i) ++ (qaf zd[i]).1.flatMap qb7 = qbN (zd.take (i + 1)) := by
   unfold qbN
   rw [List.take_succ_eq_append_getElem hlt, List.flatMap_append, List.flatMap_cons, List.flatMap_nil, List.append_nil]
  rw [e, qX _ (by omega) (by omega), show ((i : Int) + 1) = ((i + 1 : Nat) : Int) from by omega]
  exact ih k (i + 1) (by omega) (by omega)
theorem qrH.pure (zd : List (List Int)) (h : ∀ b ∈ zd, isB b ∧ b.length ≤ 1000000) (hn : zd.length ≤ 1000) : qV.f BIG zd = some (strOf (qbN zd)) := by
 unfold qV.f qV.b
 have := qqX zd h hn zd.length BIG 0 (Nat.zero_add _) (by rw [Zx]; omega)
 rw [List.take_zero] at this
 exact this
theorem qnW {gen k f i lo hi s t l e : Int} {qc : LR} {w : List Int} (h1 : 1 ≤ gen) (h3 : gen ≤ 3) (hb : isB w) (hl : w.length ≤ 65499) (hg : qdC k = true → gen = 1) (hp : QW gen w = (k, f, i, lo, hi, s, t, l, e, 0, [], 0)) (hr : QV gen w [] = (k, f, i, lo, hi, s, t, l, e, 0, qc, 0)) :
  (qaf (qbF gen w)).1 = (((qfb ++ ZG gen) ++ qgi) ++ qfV k f i lo hi s t l e 0) :: qc.map qhu := by
 have hh : qiv 1 3 gen = true := by
  unfold qiv
  rw [show okS 1 3 = true from by kernel_rfl, decide_eq_true h1, decide_eq_true h3]
  rfl
 have ho := qpi 1 3 h1 h3 hb hl hg hp
 rw [if_pos (.inl hh)] at ho
 unfold qaf qiW
 rw [ho]
 dsimp only
 rw [hr]
 rw [if_neg (by simp), if_neg (by simp), if_neg (show ¬ qaC _ ≠ 0 from fun h => h rfl)]
 rfl
def w5 : List Int := (Qb 1 1 5 0 1 3 7 0 0 0 0 [] []).1
theorem qlV.pure : QU.f BIG () = some true := by
 have n0 : q9 ([] : LR) = true := rfl
 have hs := QT.pure 1 1 5 0 1 3 7 0 0 0 0 [] [] n0 n0 (by simp) qpD
 have hw : (Qb 1 1 5 0 1 3 7 0 0 0 0 [] []).2 = 0 := by kernel_rfl
 have h0 : (qg9 1 1 5 0 1 3 7 0 0 0 0 [] []).2 = 0 := by
  unfold qg9
  rw [if_neg (by simp), if_neg (by simp [hw])]
  have hl := (qi7 (gen := 1) (k := 1) (f := 5) (i := 0) (lo := 1) (hi := 3) (s := 7) (t := 0) (l := 0) (e := 0) (b := 0) (qc := []) (qb := []) (fun h => by cases h) qpD).2
  unfold qkh
  rw [if_neg (by decide), if_neg (by omega)]
 obtain ⟨w, hsw, h1, h3, hb, hl, hg, hrd, hpk, hv⟩ := qq2 qpD h0
 have hsb := qg8 h1 h3 hb hl
 have hsl := qmS 1 w
 have hlx := qnW h1 h3 hb hl hg hpk hrd
 have hbE : isB ([] : List Int) := qaB
 unfold QU.f QU.b
 simp only [veil_eq]
 rw [hs, hsw]
 dsimp only
 rw [qrH.pure [qbF 1 w] (fun b hb' => by rw [List.mem_singleton.1 hb']; exact ⟨hsb, by omega⟩) (by simp), qrH.pure [[]] (fun b hb' => by rw [List.mem_singleton.1 hb']; exact ⟨hbE, by simp⟩) (by simp)]
 dsimp only
 have t1 : qbN [qbF 1 w] = qb7 (((qfb ++ ZG 1) ++ qgi) ++ qfV 1 5 0 1 3 7 0 0 0 0) := by
  unfold qbN
  rw [List.flatMap_cons, List.flatMap_nil, List.append_nil, hlx]
  simp
 have t2 : qbN [[]] = qb7 (qeG ++ qeo 2) := by
  have e : zS [] = (0, [], 2) := by unfold zS; rw [if_neg (by simp), if_pos (by simp)]
  have e2 : (zS []).2.2 ≠ 0 := by rw [e]; decide
  unfold qbN
  rw [List.flatMap_cons, List.flatMap_nil, List.append_nil]
  have : (qaf []).1 = [qeG ++ qeo 2] := by
   unfold qaf
   rw [qqi 1 3 e2, e]
   rfl
  rw [this]
  simp
 rw [t1, t2, qbk, qbk, qbk, qbk]
 rw [if_pos (by rfl), if_pos (by kernel_rfl)]
 exact congrArg some (by kernel_rfl)
theorem qsf (l : List (List Int)) (A : ByteArray → Int → Option Bool) (x : ByteArray) (y : Int) (F : List Int) (hF : F.length ≤ 1000) : ∀ (m n i : Nat), i + m = F.length → m < n →
  qp.l21 BIG l A n x y (i : Int) F F = A x (IntKind.wrap .i64 (y + 1)) := by
 intro m
 induction m with
 | zero =>
  intro n i hi hn
  obtain ⟨n, rfl⟩ : ∃ n', n = n' + 1 := ⟨n - 1, by omega⟩
  rw [qp.l21]
  unfold qp.b21
  rw [if_neg (by simp; omega)]
 | succ m ih =>
  intro n i hi hn
  obtain ⟨n, rfl⟩ : ∃ n', n = n' + 1 := ⟨n - 1, by omega⟩
  have hlt : i < F.length := by omega
  rw [qp.l21]
  unfold qp.b21
  rw [if_pos (by simp; omega), Qn, List.getElem?_eq_getElem hlt]
  dsimp only
  rw [if_neg (by simp), qX _ (by omega) (by omega), show ((i : Int) + 1) = ((i + 1 : Nat) : Int) from by omega]
  exact ih n (i + 1) (by omega) (by omega)
abbrev wNl : ByteArray := ⟨((10 :: ([] : List UInt8))).toArray⟩
theorem qqk (w : ByteArray) : strOf (qb7 w) = w ++ wNl := by
 unfold qb7
 rw [← qib, qnH]
 congr 1
theorem qry (l : List (List Int)) (A : ByteArray → Int → Option Bool) (y : Int) (W : List ByteArray) (F : List Int) (hW : W.length ≤ 256) (hs : ∀ w ∈ W, w.size ≤ 1100000) (hF : F.length ≤ 1000) : ∀ (m n i : Nat) (acc : ByteArray), i + m = W.length → m < n → acc.size + m * 1100001 ≤ 1099511627776 →
  qp.l15 BIG l A n acc y (i : Int) W F W F = A (acc ++ strOf ((W.drop i).flatMap qb7)) (IntKind.wrap .i64 (y + 1)) := by
 intro m
 induction m with
 | zero =>
  intro n i acc hi hn ha
  obtain ⟨n, rfl⟩ : ∃ n', n = n' + 1 := ⟨n - 1, by omega⟩
  rw [qp.l15]
  unfold qp.b15
  rw [if_neg (by simp; omega), List.drop_of_length_le (by omega), show (0 : Int) = ((0 : Nat) : Int) from rfl, qsf l A _ _ F hF F.length BIG 0 (Nat.zero_add _) (by rw [Zx]; omega)]
  have e : acc ++ strOf (List.flatMap qb7 []) = acc := by apply qiV; simp [strOf, strOfNums]
  rw [e]
 | succ m ih =>
  intro n i acc hi hn ha
  obtain ⟨n, rfl⟩ : ∃ n', n = n' + 1 := ⟨n - 1, by omega⟩
  have hlt : i < W.length := by omega
  have hw := hs _ (List.getElem_mem hlt)
  have e1 : wNl.size = 1 := rfl
  rw [qp.l15]
  unfold qp.b15
  rw [if_pos (by simp; omega), Qn, List.getElem?_eq_getElem hlt]
  dsimp only
  rw [if_neg (by rw [beq_self_eq_true]; simp), if_pos (by omega), if_pos (show (acc ++ W[i]).size + wNl.size ≤ 1099511627776 by rw [Qv]; omega), qX _ (by omega) (by omega), show ((i : Int) + 1) = ((i + 1 : Nat) : Int) from by omega]
  rw [ih n (i + 1) _ (by omega) (by omega) (by rw [Qv, Qv]; show acc.size + W[i].size + wNl.size + _ ≤ _; omega), List.drop_eq_getElem_cons hlt, List.flatMap_cons, ← qib, qqk]
  have e : ((acc ++ W[i]) ++ wNl) ++ strOf (List.flatMap qb7 (List.drop (i + 1) W)) = acc ++ ((W[i] ++ wNl) ++ strOf (List.flatMap qb7 (List.drop (i + 1) W))) := by apply qiV; simp
  exact congrArg (fun q => A q _) e
theorem qqx (b : List Int) : (qaf b).2.length ≤ 3 := by
 unfold qaf
 split
 ·simp
 ·split
  ·simp
  ·split
   ·simp
   ·exact Nat.le_trans (List.length_filter_le _ _) (by simp)
theorem qsu (l : List (List Int)) (h : ∀ b ∈ l, isB b) (hn : l.length ≤ 5) : ∀ (m n i : Nat), i + m = l.length → m < n → (∀ b ∈ l.take i, b.length ≤ 2000) →
  qp.l5 BIG l n (strOf (qbN (l.take i))) (i : Int) = some true := by
 intro m
 induction m with
 | zero =>
  intro n i hi hn' hsm
  obtain ⟨n, rfl⟩ : ∃ n', n = n' + 1 := ⟨n - 1, by omega⟩
  rw [List.take_of_length_le (by omega)] at hsm ⊢
  rw [qp.l5]
  unfold qp.b5
  simp only [veil_eq]
  rw [if_neg (by simp; omega), qrH.pure l (fun b hb => ⟨h b hb, by have := hsm b hb; omega⟩) (by omega)]
  dsimp only
  rw [if_pos (by rw [beq_self_eq_true]), qlV.pure]
 | succ m ih =>
  intro n i hi hn' hsm
  obtain ⟨n, rfl⟩ : ∃ n', n = n' + 1 := ⟨n - 1, by omega⟩
  have hlt : i < l.length := by omega
  have hb := h _ (List.getElem_mem hlt)
  rw [qp.l5]
  unfold qp.b5
  simp only [veil_eq]
  rw [if_pos (by simp; omega), Qn, List.getElem?_eq_getElem hlt]
  dsimp only
  by_cases hbig : l[i].length > 2000
  ·rw [if_pos (by simp; omega), qlV.pure]
  rw [if_neg (by simp; omega)]
  have hl : l[i].length ≤ 1000000 := by omega
  rw [qsa.pure _ hb hl, qrU.pure _ hb hl, qsQ.pure _ hb hl]
  dsimp only
  rw [if_neg (by simp), if_neg (by simp)]
  obtain ⟨h3, h4⟩ := qgs hb hl
  have hf := qqx l[i]
  have h5 := qmM (l.take i) fun x hx => ⟨h x (List.mem_of_mem_take hx), by have := hsm x hx; omega⟩
  rw [List.length_take, Nat.min_eq_left (by omega)] at h5
  have h7 : (qaf l[i]).1.length * 1100001 ≤ 256 * 1100001 := Nat.mul_le_mul_right _ h3
  rw [show (0 : Int) = ((0 : Nat) : Int) from rfl, qry l _ _ _ _ h3 h4 (by omega) _ BIG 0 _ (Nat.zero_add _) (by rw [Zx]; omega) (by rw [qfn]; omega), List.drop_zero, qib]
  have e : qbN (l.take i) ++ (qaf l[i]).1.flatMap qb7 = qbN (l.take (i + 1)) := by
   unfold qbN
   rw [List.take_succ_eq_append_getElem hlt, List.flatMap_append, List.flatMap_cons, List.flatMap_nil, List.append_nil]
  rw [e, qX _ (by omega) (by omega), show ((i : Int) + 1) = ((i + 1 : Nat) : Int) from by omega]
  refine ih n (i + 1) (by omega) (by omega) fun b hb' => ?_
  rw [List.take_succ_eq_append_getElem hlt, List.mem_append, List.mem_singleton] at hb'
  rcases hb' with hb' | hb'
  ·exact hsm b hb'
  ·rw [hb']; omega
theorem qnB.pure (l : List (List Int)) (h : ∀ b ∈ l, isB b) : qp.f BIG l = some true := by
 unfold qp.f qp.b
 simp only [veil_eq]
 by_cases h5 : l.length > 5
 ·rw [if_pos (by simp; omega), qlV.pure]
 rw [if_neg (by simp; omega)]
 have := qsu l h (by omega) l.length BIG 0 (Nat.zero_add _) (by rw [Zx]; omega) (by simp)
 rw [List.take_zero] at this
 exact this
theorem qe9 : EnvOk Tryz.prog Z0 := env_ok (l := [(20, qa7), (21, ZL), (25, qa6), (26, qaG), (27, ZV)]) th_ok qZ ⟨⟨qjJ, qi2⟩, ⟨qe3, qeC⟩, ⟨qjI, qi1⟩, ⟨qi6, qim⟩, ⟨qfl, qe2⟩, trivial⟩ _
theorem qiG (l : List (List Int)) (hl : ∀ b ∈ l, isB b) : denF Z0 loopN BIG Tryz.f6 [.raw] [.d (.sl (.sl (.int .u8))) l] [] isTrue = some () := by
 rw [denF_any qe9.D ((qp.eq BIG l).trans (qnB.pure l hl)) (out := [.d .bool true]) (os := []) (fun rs ros hk => by
  unfold qp.k at hk
  split at hk
  ·first | (cases hk; exact ⟨rfl, rfl⟩) | (have e := Option.some.inj hk; rw [← e]; exact ⟨rfl, rfl⟩)
  ·cases hk)]
 rfl
set_option maxRecDepth 100000 in
theorem qh4 (os : Os) (started : os.Started) (H : Type) (enc : TypeId × Value → H) :
  ReturnsInHanded {} Tryz.checked os 6 .any (fun w qK => (Rows.dissectLinesSpec.pre enc Tryz.prog Tryz.f6 [] false w qK ∧ laidMetH Tryz.prog qkV w) ∧ sizedMet enc Tryz.prog Tryz.f6 (OpenSpec.ofChange Rows.dissectLinesSpec) false w qK)
   (Rows.dissectLinesSpec.post enc Tryz.prog Tryz.f6 false true false false) := by
 refine returnsInHanded_of_change_and (C := Tryz.checked) (X := fun w _ => laidMetH Tryz.prog qkV w) (fun _ _ _ hh h => h.of_heap hh) Tryz.own started (by kernel_rfl) Tryz.func6
  (ChangeSpec.witness_shaped (enc := enc) (C := Tryz.checked) (os := os) (X := fun w _ => laidMetH Tryz.prog qkV w) false (World.doorLaid Tryz.prog 400 os) #[.slice none 0 0] 8 rfl (World.shaped_of_RefB (by kernel_rfl) (by kernel_rfl)) (by kernel_rfl) (by kernel_rfl) (by kernel_rfl) (qrx os _)) ?_
 intro W qb qK ds gs before hval hW _ hwt hL _
 exact law_contract qe9 Tryz.func6 rfl [(.sl (.sl (.int .u8)), false)] (tb := 4) (by kernel_rfl) (by kernel_rfl) (by kernel_rfl) rfl
  (fun ds h => by match ds, h with | [_], _ => rfl) Tryz.laidOut Tryz.mapsRow Tryz.slicesSize (fun y hg => ⟨BIG, qiG y.1 (fun b hb => qps (hg.1.2 b hb))⟩) W qb qK ds gs before hval hW hwt (qqm hL)
theorem qj1 : Rows.DissectLinesSaid :=
 OpenClaim.holds_of_wide 6 Tryz.f6 rfl rfl rfl rfl rfl rfl rfl ⟨rfl, rfl, rfl, rfl, rfl⟩ rfl rfl rfl rfl rfl (by kernel_rfl) Tryz.func6 (by kernel_rfl)
  (of_decide_eq_true (by kernel_rfl)) (by unfold Func.isWrapper; first | (rw [if_pos (by decide +kernel)]; kernel_rfl) | (rw [if_neg (by decide +kernel)]; exact ⟨rfl, rfl⟩))
  (fun os started H enc _ => qh4 os started H enc)
theorem dissectLines_holds : Rows.DissectLinesCardSaid :=
 Claim7.holds_tied_plain_at .later [] [.data] true (true, "7f56fd0b3a73f309c59e77fbd84be1dadc43cc16a837bd7876cbbb970f836cba") false
  qj1 (fun _ h => by cases h) (by kernel_rfl) (fun _ h => by cases h) dissectLines_row_tie rfl ⟨rfl, rfl⟩ (by kernel_rfl) rfl
  (fun f fn hf hfn => by
   obtain rfl : f = 6 := Option.some.inj ((show Tryz.prog.funcNamed "polyglot/polyglotlaw41.DissectLines" = some 6 by kernel_rfl).symm.trans hf) |>.symm
   obtain rfl : fn = Tryz.f6 := (Option.some.inj (Tryz.func6.symm.trans hfn)).symm
   exact ⟨by kernel_rfl, fun j t ht => by
    have hm : t ∈ Tryz.f6.params.toList := by simpa using Array.mem_of_getElem? ht
    have hall : (Tryz.f6.params.toList.all fun u => !Tryz.prog.wantsStandIn u) = true := by kernel_rfl
    exact (show Tryz.prog.wantsStandIn t = false by simpa using List.all_eq_true.1 hall t hm)⟩)
  (by kernel_rfl)
end
end Go.Proofs.YtneiiplppcjjlaaGreatDoor
