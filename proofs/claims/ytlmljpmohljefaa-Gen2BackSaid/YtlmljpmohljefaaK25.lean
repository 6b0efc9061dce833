/- Gen2Back: what was written is read as it was. -/
import Derived.Test.YtlmljpmohljefaaK24
set_option linter.unusedVariables false
set_option linter.unusedSimpArgs false
namespace Go.Proofs.Ytlmljpmohljefaa
open Go.Den
theorem split_items : ∀ (items : LF) (k : Nat), items.length ≤ k → splitGo k (items.flatMap fieldB) = some items
  | [], k, _ => by cases k <;> rfl
  | x :: items, 0, h => by simp at h
  | x :: items, k + 1, h => by
    have ih := split_items items k (by simp at h; omega)
    have e : (x :: items).flatMap fieldB = x.1 :: ((x.2.length / 256 : Nat) : Int) :: ((x.2.length % 256 : Nat) : Int) :: (x.2 ++ items.flatMap fieldB) := by
      rw [List.flatMap_cons]; rfl
    rw [e, splitGo]
    have e2 : ((x.2.length / 256 : Nat) : Int) * 256 + ((x.2.length % 256 : Nat) : Int) = (x.2.length : Int) := by omega
    rw [e2, if_neg (by simp; omega)]
    rw [show (x.2.length : Int).toNat = x.2.length from rfl, List.drop_left, List.take_left, ih]
    rfl
theorem flatF_ge (items : LF) : items.length ≤ (items.flatMap fieldB).length := by
  induction items with
  | nil => simp
  | cons x l ih => rw [List.flatMap_cons, List.length_append, fieldB_len, List.length_cons]; omega
theorem splitF_items (items : LF) : splitF (items.flatMap fieldB) = (items, 0) := by
  unfold splitF
  rw [split_items items _ (flatF_ge items)]
theorem itB_field {t n v : Int} (n1 : 1 ≤ n) (n7 : n ≤ 7) : itB t n v = fieldB (t, be n.toNat v) := by
  unfold itB fieldB
  dsimp only
  rw [be_length]
  have e1 : ((n.toNat / 256 : Nat) : Int) = 0 := by omega
  have e2 : ((n.toNat % 256 : Nat) : Int) = n := by omega
  rw [e1, e2]
theorem hit_be {t n v : Int} {m : LF} (n1 : 1 ≤ n) (h0 : 0 ≤ v) (h1 : v < 256 ^ n.toNat) : hit t n ((t, be n.toNat v) :: m) = some (v, m) := by
  rw [hit, if_pos (by simp [be_length]; omega)]
  dsimp only
  rw [numB_be _ _ h0 h1]
theorem innerL_items (r : Int × Int × Int × (Int × Int) × Bool × LF) : innerL r = (withinL r).flatMap fieldB := by
  unfold innerL withinL
  rw [List.flatMap_append, itB_field (by omega) (by omega), itB_field (by omega) (by omega), itB_field (by omega) (by omega), itB_field (by omega) (by omega)]
  simp [List.flatMap_cons]
theorem recD_back {r : Int × Int × Int × (Int × Int) × Bool × LF} (h : recOkT r = true) (hi : r.2.1 ≤ 4294967295) : recD (innerL r) = (r, true) := by
  obtain ⟨id, inc, st, ⟨lo, hi'⟩, cut, bag⟩ := r
  obtain ⟨f1, f2, f3, f4, f5, f6, f7, f8⟩ := recOk_facts h
  dsimp only at f1 f2 f3 f4 f5 f6 f7 hi
  have hs := (okS_iff _ _).1 f7
  have e := recD_eq (innerL (id, inc, st, (lo, hi'), cut, bag))
  rw [innerL_items, splitF_items] at e
  have hc : 0 ≤ cutSt (id, inc, st, (lo, hi'), cut, bag) ∧ cutSt (id, inc, st, (lo, hi'), cut, bag) < 256 := by
    unfold cutSt
    dsimp only
    split <;> omega
  have w : withinL (id, inc, st, (lo, hi'), cut, bag) = (1, be (2 : Int).toNat id) :: (2, be (4 : Int).toNat inc) :: (3, be (1 : Int).toNat (cutSt (id, inc, st, (lo, hi'), cut, bag))) :: (4, be (1 : Int).toNat (lo * 16 + hi')) :: bag := rfl
  rw [← innerL_items, w] at e
  dsimp only at e
  rw [hit_be (by omega) (by omega) (by simp; omega)] at e
  dsimp only at e
  rw [hit_be (by omega) (by omega) (by simp; omega)] at e
  dsimp only at e
  rw [hit_be (by omega) hc.1 (by simpa using hc.2)] at e
  dsimp only at e
  rw [hit_be (by omega) (by omega) (by simp; omega)] at e
  rw [if_neg (by simp)] at e
  dsimp only at e
  rw [e]
  have o := (ofGo_div (lo * 16 + hi') (by omega) (by omega)).1 (by rw [show (lo * 16 + hi') / 16 = lo from by omega, show (lo * 16 + hi') % 16 = hi' from by omega]; exact f7)
  rw [o, show (lo * 16 + hi') / 16 = lo from by omega, show (lo * 16 + hi') % 16 = hi' from by omega]
  dsimp only
  have s1 : cutSt (id, inc, st, (lo, hi'), cut, bag) % 128 = st := by
    unfold cutSt
    dsimp only
    split <;> omega
  have s2 : decide (cutSt (id, inc, st, (lo, hi'), cut, bag) ≥ 128) = cut := by
    unfold cutSt
    dsimp only
    cases cut
    · simp; omega
    · simp; omega
  rw [s1, s2]
theorem recsD_back : ∀ r : LR, (∀ x ∈ r, recOkT x = true ∧ x.2.1 ≤ 4294967295) → recsD (r.map fun x => ((7 : Int), innerL x)) = some r
  | [], _ => rfl
  | x :: r, h => by
    obtain ⟨h1, h2⟩ := h x (by simp)
    rw [List.map_cons, recsD, recsD_back r fun y hy => h y (by simp [hy])]
    dsimp only
    rw [recD_back h1 h2]
    rfl
theorem valid_zero {kind from0 inc lo hi seq target life epoch base : Int} {recs : LR} (h : validF kind from0 inc lo hi seq target life epoch base recs = true) :
    (hasF kind 0 = false → seq = 0) ∧ (hasF kind 1 = false → target = 0) := by
  unfold validF at h
  have h1 : ((ofF kind).1.toList == (⟨#[]⟩ : ByteArray).toList || (decide (from0 < 0) || (decide (from0 > 4095) || (decide (inc < 0) || (decide (inc > 281474976710655) || !okS lo hi))))) = false := by
    cases hc : ((ofF kind).1.toList == (⟨#[]⟩ : ByteArray).toList || (decide (from0 < 0) || (decide (from0 > 4095) || (decide (inc < 0) || (decide (inc > 281474976710655) || !okS lo hi))))) with
    | false => rfl
    | true => rw [hc] at h; cases h
  rw [h1] at h
  have h2 : (!withinF (hasF kind 0) seq 0 65535 || (!withinF (hasF kind 1) target (if kind == 3 then 1 else 0) (if kind == 3 then 3 else 4095) || !livesF kind life epoch base)) = false := by
    cases hc : (!withinF (hasF kind 0) seq 0 65535 || (!withinF (hasF kind 1) target (if kind == 3 then 1 else 0) (if kind == 3 then 3 else 4095) || !livesF kind life epoch base)) with
    | false => rfl
    | true => rw [hc] at h; cases h
  simp only [Bool.or_eq_false_iff, Bool.not_eq_false'] at h2
  obtain ⟨c1, c2, c3⟩ := h2
  constructor
  · intro h0
    rw [h0] at c1
    simpa [withinF] using c1
  · intro h0
    rw [h0] at c2
    simpa [withinF] using c2
noncomputable def itemsM (kind from0 inc lo hi seq target : Int) (recs : LR) : LF :=
  (1, be (1 : Int).toNat kind) :: (2, be (2 : Int).toNat from0) :: (3, be (6 : Int).toNat inc) :: (4, be (1 : Int).toNat (lo * 16 + hi)) :: ((if hasF kind 0 then [((5 : Int), be (2 : Int).toNat seq)] else []) ++ ((if hasF kind 1 then [((6 : Int), be (2 : Int).toNat target)] else []) ++ recs.map fun x => ((7 : Int), innerL x)))
theorem body2_items (kind from0 inc lo hi seq target : Int) (recs : LR) : body2 kind from0 inc lo hi seq target recs = (itemsM kind from0 inc lo hi seq target recs).flatMap fieldB := by
  unfold body2 itemsM
  rw [itB_field (by omega) (by omega), itB_field (by omega) (by omega), itB_field (by omega) (by omega), itB_field (by omega) (by omega)]
  simp only [List.flatMap_cons, List.flatMap_append, List.append_assoc]
  have e : recs.flatMap recB2 = (recs.map fun x => ((7 : Int), innerL x)).flatMap fieldB := by
    rw [List.flatMap_map]
    rfl
  rw [e]
  cases hasF kind 0 <;> cases hasF kind 1 <;> simp [itB_field (t := 5) (n := 2), itB_field (t := 6) (n := 2)]
theorem back2 {kind from0 inc lo hi seq target : Int} {recs : LR} (hv : validF kind from0 inc lo hi seq target 0 0 0 recs = true) (h9 : kind ≠ 9) (hf : fit2Go recs = true) (hlen : (body2 kind from0 inc lo hi seq target recs).length ≤ 65499) :
    decF2 (body2 kind from0 inc lo hi seq target recs) = (kind, from0, inc, lo, hi, seq, target, recs, 0) := by
  obtain ⟨v1, v2, v3, v4, v5, v6, v7, v8, v9, v10, v11, _, v12, v13⟩ := valid_facts hv
  have hs := (okS_iff _ _).1 v7
  obtain ⟨z0, z1⟩ := valid_zero hv
  have hP : msgP (body2 kind from0 inc lo hi seq target recs) = some (kind, from0, inc, lo * 16 + hi, seq, target, recs.map fun x => ((7 : Int), innerL x)) := by
    have hsp : splitF (body2 kind from0 inc lo hi seq target recs) = (itemsM kind from0 inc lo hi seq target recs, 0) := by rw [body2_items, splitF_items]
    unfold msgP
    rw [if_neg (by rw [hsp]; simp; omega), hsp]
    dsimp only
    unfold itemsM
    rw [hit_be (by omega) (by omega) (by simp; omega)]
    dsimp only
    rw [hit_be (by omega) (by omega) (by simp; omega)]
    dsimp only
    rw [hit_be (by omega) (by omega) (by simp; omega)]
    dsimp only
    rw [hit_be (by omega) (by omega) (by simp; omega)]
    dsimp only
    have hq : optT (hasF kind 0) 5 ((if hasF kind 0 then [((5 : Int), be (2 : Int).toNat seq)] else []) ++ ((if hasF kind 1 then [((6 : Int), be (2 : Int).toNat target)] else []) ++ recs.map fun x => ((7 : Int), innerL x))) = some (seq, (if hasF kind 1 then [((6 : Int), be (2 : Int).toNat target)] else []) ++ recs.map fun x => ((7 : Int), innerL x)) := by
      cases h : hasF kind 0
      · simp [optT, z0 h]
      · simp only [optT, if_true, List.singleton_append]
        exact hit_be (by omega) (by omega) (by simp; omega)
    have ht : optT (hasF kind 1) 6 ((if hasF kind 1 then [((6 : Int), be (2 : Int).toNat target)] else []) ++ recs.map fun x => ((7 : Int), innerL x)) = some (target, recs.map fun x => ((7 : Int), innerL x)) := by
      cases h : hasF kind 1
      · simp [optT, z1 h]
      · simp only [optT, if_true, List.singleton_append]
        exact hit_be (by omega) (by omega) (by simp; omega)
    rw [hq]
    dsimp only
    rw [ht]
  rw [dec2_eq, hP]
  dsimp only
  have o := (ofGo_div (lo * 16 + hi) (by omega) (by omega)).1 (by rw [show (lo * 16 + hi) / 16 = lo from by omega, show (lo * 16 + hi) % 16 = hi from by omega]; exact v7)
  rw [o, recsD_back recs fun x hx => ⟨v13 x hx, fit2_all _ hf x hx⟩, show (lo * 16 + hi) / 16 = lo from by omega, show (lo * 16 + hi) % 16 = hi from by omega]
  unfold end2
  dsimp only
  have hz := size_body hv
  have : fits2 kind from0 inc lo hi seq target 0 0 0 recs = true := by
    unfold fits2
    rw [hv, hz, if_neg, hf]
    simp [h9]
    omega
  rw [this]
  rfl
/-- all bytes of the bags are bytes -/
def byteBags (l : LR) : Prop := ∀ r ∈ l, ∀ x ∈ r.2.2.2.2.2, ∀ c ∈ x.2, 0 ≤ c ∧ c ≤ 255
theorem fieldB_bytes {x : Int × List Int} (h1 : 0 ≤ x.1) (h2 : x.1 ≤ 255) (h3 : x.2.length ≤ 65535) (h4 : ∀ c ∈ x.2, 0 ≤ c ∧ c ≤ 255) : ∀ c ∈ fieldB x, 0 ≤ c ∧ c ≤ 255 := by
  intro c hc
  unfold fieldB at hc
  simp at hc
  rcases hc with rfl | rfl | rfl | hc
  · omega
  · omega
  · omega
  · exact h4 c hc
theorem itB_bytes {t n v : Int} (t0 : 0 ≤ t) (t1 : t ≤ 255) (n1 : 1 ≤ n) (n7 : n ≤ 7) : ∀ c ∈ itB t n v, 0 ≤ c ∧ c ≤ 255 := by
  rw [itB_field n1 n7]
  exact fieldB_bytes t0 t1 (by rw [be_length]; omega) (fun c hc => be_mem _ _ c hc)
theorem flat_mem {α : Type} {l : List α} {f : α → List Int} {Q : Int → Prop} (h : ∀ x ∈ l, ∀ c ∈ f x, Q c) : ∀ c ∈ l.flatMap f, Q c := by
  intro c hc
  obtain ⟨x, hx, hc⟩ := List.mem_flatMap.1 hc
  exact h x hx c hc
theorem innerL_len {r : Int × Int × Int × (Int × Int) × Bool × LF} (h : recOkT r = true) : (innerL r).length ≤ 5000 := by
  have hb := bagOk_len (recOk_facts h).2.2.2.2.2.2.2.1
  have := flatF_len r.2.2.2.2.2
  unfold innerL
  simp only [List.length_append, itB, List.length_cons, be_length]
  omega
theorem innerL_bytes {r : Int × Int × Int × (Int × Int) × Bool × LF} (h : recOkT r = true) (hb : ∀ x ∈ r.2.2.2.2.2, ∀ c ∈ x.2, 0 ≤ c ∧ c ≤ 255) : ∀ c ∈ innerL r, 0 ≤ c ∧ c ≤ 255 := by
  have ht := bag_tags (recOk_facts h).2.2.2.2.2.2.2.1
  intro c hc
  unfold innerL at hc
  simp only [List.mem_append] at hc
  rcases hc with hc | hc | hc | hc | hc
  · exact itB_bytes (by omega) (by omega) (by omega) (by omega) c hc
  · exact itB_bytes (by omega) (by omega) (by omega) (by omega) c hc
  · exact itB_bytes (by omega) (by omega) (by omega) (by omega) c hc
  · exact itB_bytes (by omega) (by omega) (by omega) (by omega) c hc
  · exact flat_mem (fun x hx => fieldB_bytes (by have := ht x hx; omega) (ht x hx).2.1 (by have := ht x hx; omega) (hb x hx)) c hc
theorem body2_bytes {kind from0 inc lo hi seq target : Int} {recs : LR} (hr : ∀ x ∈ recs, recOkT x = true) (hb : byteBags recs) : ∀ c ∈ body2 kind from0 inc lo hi seq target recs, 0 ≤ c ∧ c ≤ 255 := by
  intro c hc
  unfold body2 at hc
  simp only [List.mem_append] at hc
  rcases hc with hc | hc | hc | hc | hc | hc | hc
  · exact itB_bytes (by omega) (by omega) (by omega) (by omega) c hc
  · exact itB_bytes (by omega) (by omega) (by omega) (by omega) c hc
  · exact itB_bytes (by omega) (by omega) (by omega) (by omega) c hc
  · exact itB_bytes (by omega) (by omega) (by omega) (by omega) c hc
  · split at hc
    · exact itB_bytes (by omega) (by omega) (by omega) (by omega) c hc
    · simp at hc
  · split at hc
    · exact itB_bytes (by omega) (by omega) (by omega) (by omega) c hc
    · simp at hc
  · exact flat_mem (fun x hx => fieldB_bytes (x := (7, innerL x)) (by simp) (by simp) (by have := innerL_len (hr x hx); dsimp only; omega) (innerL_bytes (hr x hx) (hb x hx))) c hc
theorem fits13_facts {kind from0 inc lo hi seq target life epoch base : Int} {recs : LR} (h : fits13 kind from0 inc lo hi seq target life epoch base recs = true) :
    validF kind from0 inc lo hi seq target life epoch base recs = true ∧ kind ≠ 9 ∧ life = 0 ∧ epoch = 0 ∧ base = 0 ∧ fit2Go recs = true ∧ (body2 kind from0 inc lo hi seq target recs).length ≤ 65499 := by
  unfold fits13 at h
  split at h
  · cases h
  rename_i c
  split at h
  · cases h
  rename_i c2
  simp at c c2 h
  exact ⟨c.1, c.2.1, c.2.2.1, c.2.2.2.1, c.2.2.2.2, c2, by omega⟩
theorem Gen2Back.pure (kind from0 inc lo hi seq target life epoch base : Int) (recs : LR) (hl : smallRecs recs = true ∧ byteBags recs) :
    law13_Gen2Back.f 0 kind from0 inc lo hi seq target life epoch base recs = some true := by
  obtain ⟨hl, hb⟩ := hl
  unfold law13_Gen2Back.f law13_Gen2Back.b
  simp only [veil_eq]
  rw [hl]
  cases few8 recs
  · rfl
  cases hf : fits13 kind from0 inc lo hi seq target life epoch base recs
  · rfl
  obtain ⟨hv, h9, rfl, rfl, rfl, h2, hlen⟩ := fits13_facts hf
  have he : enc2 kind from0 inc lo hi seq target 0 0 0 recs = (body2 kind from0 inc lo hi seq target recs, 0) := by
    unfold enc2
    rw [hv, fits2_same, hf]
    rfl
  have hs : inS (body2 kind from0 inc lo hi seq target recs) = true := inS_of (body2_bytes (valid_facts hv).2.2.2.2.2.2.2.2.2.2.2.2.2 hb) (by omega)
  have hd := back2 hv h9 h2 hlen
  generalize body2 kind from0 inc lo hi seq target recs = B at he hs hd
  rw [he]
  dsimp only
  rw [hs, hd]
  simp [hl, allGo_self]
end Go.Proofs.Ytlmljpmohljefaa
