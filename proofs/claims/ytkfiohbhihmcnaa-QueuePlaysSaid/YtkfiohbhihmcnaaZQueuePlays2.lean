/- QueuePlays, part 2: what the row leans on. -/
import Derived.Test.YtkfiohbhihmcnaaZQueuePlays1
set_option linter.unusedVariables false
set_option linter.unusedSimpArgs false
set_option maxRecDepth 100000
namespace Go.Proofs.Ytkfiohbhihmcnaa
open Go.Den
theorem ins_inner (l : List QT) (a b : Int) (A1 : Int → List QT → Option (List QT)) (x2 : Int) (pre : List QT) (ha : a = pre.length) (v : QT) (post : List QT) : ∀ (R moved : List QT) (n : Nat), R.length < n → pre.length + R.length + moved.length + post.length ≤ 1000000 →
    slices_insertionSortCmpFunc_queue_Item.l4 BIG l a b A1 n x2 ((pre.length : Int) + R.length) (pre ++ R.reverse ++ v :: moved ++ post) = A1 (Go.IntKind.wrap .i64 (x2 + 1)) (pre ++ (insR v R).reverse ++ moved ++ post)
  | R, moved, 0, h, _ => absurd h (by omega)
  | [], moved, n + 1, h, hb => by
    rw [slices_insertionSortCmpFunc_queue_Item.l4_at BIG (n + 1) n rfl]
    unfold slices_insertionSortCmpFunc_queue_Item.b4
    rw [if_neg (by simp [ha])]
    simp [insR]
  | x :: R, moved, n + 1, h, hb => by
    simp at h hb
    have hL : pre ++ (x :: R).reverse ++ v :: moved ++ post = (pre ++ R.reverse) ++ x :: v :: (moved ++ post) := by simp
    have hj : (pre.length : Int) + ((x :: R).length : Nat) = (((pre ++ R.reverse ++ [x]).length : Nat) : Int) := by simp <;> omega
    have hj1 : Go.IntKind.wrap .i64 ((((pre ++ R.reverse ++ [x]).length : Nat) : Int) - 1) = (((pre ++ R.reverse).length : Nat) : Int) := by rw [wrap_small _ (by simp; omega) (by simp; omega)]; simp <;> omega
    have i1 : idx ((pre ++ R.reverse) ++ x :: v :: (moved ++ post)) (((pre ++ R.reverse ++ [x]).length : Nat) : Int) = some v := by
      have := idx_mid (pre ++ R.reverse ++ [x]) v (moved ++ post)
      rw [List.append_assoc (pre ++ R.reverse) [x]] at this
      exact this
    have i2 : idx ((pre ++ R.reverse) ++ x :: v :: (moved ++ post)) (((pre ++ R.reverse).length : Nat) : Int) = some x := idx_mid _ x _
    have s1 : List.set ((pre ++ R.reverse) ++ x :: v :: (moved ++ post)) (Int.toNat (((pre ++ R.reverse ++ [x]).length : Nat) : Int)) x = (pre ++ R.reverse) ++ x :: x :: (moved ++ post) := by
      have e1 : (pre ++ R.reverse ++ [x]).length - (pre ++ R.reverse).length = 1 := by simp <;> omega
      rw [Int.toNat_natCast, List.set_append_right _ _ (by simp <;> omega), e1]
      rfl
    have i3 : idx ((pre ++ R.reverse) ++ x :: x :: (moved ++ post)) (((pre ++ R.reverse).length : Nat) : Int) = some x := idx_mid _ x _
    have s2 : List.set ((pre ++ R.reverse) ++ x :: x :: (moved ++ post)) (Int.toNat (((pre ++ R.reverse).length : Nat) : Int)) v = (pre ++ R.reverse) ++ v :: x :: (moved ++ post) := by
      rw [Int.toNat_natCast, List.set_append_right _ _ (by simp)]
      simp
    obtain ⟨c, hc, hcd⟩ := queue_Queue_All_c1.pure v x
    rw [slices_insertionSortCmpFunc_queue_Item.l4_at BIG (n + 1) n rfl]
    unfold slices_insertionSortCmpFunc_queue_Item.b4
    rw [hL, hj, if_pos (by simp [ha]; omega), i1]
    dsimp only
    rw [hj1, i2]
    dsimp only
    rw [hc]
    simp only [veil_eq]
    rw [hcd, insR]
    by_cases hv : v.2 < x.2
    · rw [if_pos (by simp [hv]), if_pos hv]
      rw [show (x.1, x.2) = x from rfl, show (v.1, v.2) = v from rfl, s1, i3]
      dsimp only
      rw [s2]
      have ih := ins_inner l a b A1 x2 pre ha v post R (x :: moved) n (by omega) (by simp; omega)
      have f1 : (((pre ++ R.reverse).length : Nat) : Int) = (pre.length : Int) + R.length := by simp
      have f2 : pre ++ R.reverse ++ v :: x :: (moved ++ post) = pre ++ R.reverse ++ v :: (x :: moved) ++ post := by simp
      rw [f1, f2, ih]
      simp
    · rw [if_neg (by simp [hv]), if_neg hv]
      simp
theorem ins_outer (l : List QT) (a b : Int) (pre : List QT) (ha : a = pre.length) (post : List QT) : ∀ (rest R : List QT) (n : Nat), rest.length < n → pre.length + R.length + rest.length + post.length ≤ 1000000 → b = pre.length + R.length + rest.length →
    slices_insertionSortCmpFunc_queue_Item.l1 BIG l a b n ((pre.length : Int) + R.length) (pre ++ R.reverse ++ rest ++ post) = some (pre ++ (isr R rest).reverse ++ post)
  | rest, R, 0, h, _, _ => absurd h (by omega)
  | [], R, n + 1, h, hb, hbb => by
    rw [slices_insertionSortCmpFunc_queue_Item.l1_at BIG (n + 1) n rfl]
    unfold slices_insertionSortCmpFunc_queue_Item.b1
    rw [if_neg (by simp [hbb])]
    simp [isr]
  | v :: rest, R, n + 1, h, hb, hbb => by
    simp at h hb hbb
    rw [slices_insertionSortCmpFunc_queue_Item.l1_at BIG (n + 1) n rfl]
    unfold slices_insertionSortCmpFunc_queue_Item.b1
    rw [if_pos (by simp; omega)]
    have e := ins_inner l a b (slices_insertionSortCmpFunc_queue_Item.l1 BIG l a b n) ((pre.length : Int) + R.length) pre ha v (rest ++ post) R [] BIG (by rw [BIG_eq]; omega) (by simp; omega)
    have f1 : pre ++ R.reverse ++ v :: [] ++ (rest ++ post) = pre ++ R.reverse ++ v :: rest ++ post := by simp
    rw [f1] at e
    rw [e]
    have ih := ins_outer l a b pre ha post rest (insR v R) n (by omega) (by rw [insR_len]; omega) (by rw [insR_len]; push_cast; omega)
    rw [insR_len] at ih
    have f2 : Go.IntKind.wrap .i64 ((pre.length : Int) + R.length + 1) = (pre.length : Int) + ((R.length + 1 : Nat) : Int) := by rw [wrap_small _ (by omega) (by omega)]; push_cast; omega
    rw [f2]
    have f3 : pre ++ (insR v R).reverse ++ [] ++ (rest ++ post) = pre ++ (insR v R).reverse ++ rest ++ post := by simp
    rw [f3, ih]
    rfl
theorem slices_insertionSortCmpFunc_queue_Item.pure (pre seg post : List QT) (h : pre.length + seg.length + post.length ≤ 1000000) :
    slices_insertionSortCmpFunc_queue_Item.f BIG (pre ++ seg ++ post) (pre.length : Int) ((pre.length + seg.length : Nat) : Int) = some (pre ++ isort seg ++ post) := by
  unfold slices_insertionSortCmpFunc_queue_Item.f slices_insertionSortCmpFunc_queue_Item.b
  rw [wrap_small _ (by omega) (by omega)]
  cases seg with
  | nil =>
    rw [big_eq, ← big_eq, slices_insertionSortCmpFunc_queue_Item.l1_at BIG BIG _ big_eq]
    unfold slices_insertionSortCmpFunc_queue_Item.b1
    rw [if_neg (by simp <;> omega)]
    rfl
  | cons v rest =>
    simp at h
    have e := ins_outer (pre ++ v :: rest ++ post) (pre.length : Int) ((pre.length + (v :: rest).length : Nat) : Int) pre rfl post rest [v] BIG (by rw [BIG_eq]; omega) (by simp; omega) (by simp; omega)
    have f : pre ++ [v].reverse ++ rest ++ post = pre ++ v :: rest ++ post := by simp
    rw [f] at e
    exact e
theorem set_mid {α : Type} (a : List α) (v w : α) (b : List α) : List.set (a ++ v :: b) (Int.toNat ((a.length : Nat) : Int)) w = a ++ w :: b := by
  rw [Int.toNat_natCast]; simp
theorem idx_mid2 {α : Type} (l a : List α) (v : α) (b : List α) (i : Int) (hl : l = a ++ v :: b) (hi : i = ((a.length : Nat) : Int)) : idx l i = some v := by
  rw [hl, hi]; exact idx_mid a v b
theorem set_mid2 {α : Type} (l a : List α) (v w : α) (b : List α) (i : Int) (hl : l = a ++ v :: b) (hi : i = ((a.length : Nat) : Int)) : List.set l (Int.toNat i) w = a ++ w :: b := by
  rw [hl, hi]; exact set_mid a v w b
theorem swap_loop (l : List (Int × Int)) (a b n0 : Int) (ha0 : 0 ≤ a) (Q : List (Int × Int)) : ∀ (X Y P M : List (Int × Int)) (i n : Nat), X.length = Y.length → a + i = P.length → b + i = P.length + X.length + M.length → n0 = i + X.length → X.length < n → P.length + X.length + M.length + Y.length ≤ 1000000 →
    slices_swapRangeCmpFunc_queue_Item.l1 BIG l a b n0 n (i : Int) (P ++ X ++ M ++ Y ++ Q) = some (P ++ Y ++ M ++ X ++ Q)
  | X, Y, P, M, i, 0, _, _, _, _, h, _ => absurd h (by omega)
  | [], [], P, M, i, n + 1, _, ha, hb, hn, h, hsz => by
    rw [slices_swapRangeCmpFunc_queue_Item.l1_at BIG (n + 1) n rfl]
    unfold slices_swapRangeCmpFunc_queue_Item.b1
    simp at hn
    rw [if_neg (by simp; omega)]
  | [], y :: Y, P, M, i, n + 1, hl, _, _, _, _, _ => by simp at hl
  | x :: X, [], P, M, i, n + 1, hl, _, _, _, _, _ => by simp at hl
  | x :: X, y :: Y, P, M, i, n + 1, hl, ha, hb, hn, h, hsz => by
    simp at hl hb hn h hsz
    rw [slices_swapRangeCmpFunc_queue_Item.l1_at BIG (n + 1) n rfl]
    unfold slices_swapRangeCmpFunc_queue_Item.b1
    have wa : Go.IntKind.wrap .i64 (a + (i : Int)) = ((P.length : Nat) : Int) := by rw [wrap_small _ (by omega) (by omega)]; omega
    have wb : Go.IntKind.wrap .i64 (b + (i : Int)) = (((P ++ x :: X ++ M).length : Nat) : Int) := by rw [wrap_small _ (by omega) (by omega)]; simp; omega
    have wb2 : Go.IntKind.wrap .i64 (b + (i : Int)) = (((P ++ y :: X ++ M).length : Nat) : Int) := by rw [wb]; simp
    have i1 : idx (P ++ x :: X ++ M ++ y :: Y ++ Q) (Go.IntKind.wrap .i64 (b + (i : Int))) = some y := idx_mid2 _ (P ++ x :: X ++ M) y (Y ++ Q) _ (by simp) wb
    have i2 : idx (P ++ x :: X ++ M ++ y :: Y ++ Q) (Go.IntKind.wrap .i64 (a + (i : Int))) = some x := idx_mid2 _ P x (X ++ M ++ y :: Y ++ Q) _ (by simp) wa
    have s1 : List.set (P ++ x :: X ++ M ++ y :: Y ++ Q) (Int.toNat (Go.IntKind.wrap .i64 (a + (i : Int)))) y = P ++ y :: (X ++ M ++ y :: Y ++ Q) := set_mid2 _ P x y (X ++ M ++ y :: Y ++ Q) _ (by simp) wa
    have i3 : idx (P ++ y :: (X ++ M ++ y :: Y ++ Q)) (Go.IntKind.wrap .i64 (b + (i : Int))) = some y := idx_mid2 _ (P ++ y :: X ++ M) y (Y ++ Q) _ (by simp) wb2
    have s2 : List.set (P ++ y :: (X ++ M ++ y :: Y ++ Q)) (Int.toNat (Go.IntKind.wrap .i64 (b + (i : Int)))) x = (P ++ y :: X ++ M) ++ x :: (Y ++ Q) := set_mid2 _ (P ++ y :: X ++ M) y x (Y ++ Q) _ (by simp) wb2
    rw [if_pos (by simp; omega), i1]
    dsimp only
    rw [i2]
    dsimp only
    rw [show (y.1, y.2) = y from rfl, show (x.1, x.2) = x from rfl, s1, i3]
    dsimp only
    rw [s2]
    have ih := swap_loop l a b n0 ha0 Q X Y (P ++ [y]) (M ++ [x]) (i + 1) n (by omega) (by simp; omega) (by simp; omega) (by push_cast; omega) (by omega) (by simp; omega)
    have f1 : Go.IntKind.wrap .i64 ((i : Int) + 1) = ((i + 1 : Nat) : Int) := by rw [wrap_small _ (by omega) (by omega)]; simp
    have f2 : (P ++ y :: X ++ M) ++ x :: (Y ++ Q) = P ++ [y] ++ X ++ (M ++ [x]) ++ Y ++ Q := by simp
    rw [f1, f2, ih]
    simp
theorem slices_swapRangeCmpFunc_queue_Item.pure (P X M Y Q : List (Int × Int)) (a b n0 : Int) (hl : X.length = Y.length) (ha : a = P.length) (hb : b = P.length + X.length + M.length) (hn : n0 = X.length) (hsz : P.length + X.length + M.length + Y.length ≤ 1000000) :
    slices_swapRangeCmpFunc_queue_Item.f BIG (P ++ X ++ M ++ Y ++ Q) a b n0 = some (P ++ Y ++ M ++ X ++ Q) := by
  unfold slices_swapRangeCmpFunc_queue_Item.f slices_swapRangeCmpFunc_queue_Item.b
  exact swap_loop _ a b n0 (by omega) Q X Y P M 0 BIG hl (by omega) (by omega) (by omega) (by rw [BIG_eq]; omega) (by omega)
theorem rot_loop (l : List (Int × Int)) (a m b : Int) : ∀ (k : Nat) (U V P Q : List (Int × Int)) (n : Nat), U.length + V.length ≤ k → 0 < U.length → 0 < V.length → m = P.length + U.length → k < n → P.length + U.length + V.length ≤ 1000000 →
    slices_rotateCmpFunc_queue_Item.l2 BIG l a m b n (U.length : Int) (V.length : Int) (P ++ U ++ V ++ Q) = some (P ++ V ++ U ++ Q)
  | k, U, V, P, Q, 0, _, _, _, _, h, _ => absurd h (by omega)
  | 0, U, V, P, Q, n + 1, hk, hu, hv, _, _, _ => absurd hk (by omega)
  | k + 1, U, V, P, Q, n + 1, hk, hu, hv, hm, h, hsz => by
    rw [slices_rotateCmpFunc_queue_Item.l2_at BIG (n + 1) n rfl]
    unfold slices_rotateCmpFunc_queue_Item.b2
    by_cases he : U.length = V.length
    · rw [if_neg (by simp [he])]
      have e := slices_swapRangeCmpFunc_queue_Item.pure P U [] V Q (Go.IntKind.wrap .i64 (m - (U.length : Int))) m (U.length : Int) he (by rw [wrap_small _ (by omega) (by omega)]; omega) (by simp; omega) rfl (by simp; omega)
      simp only [List.append_nil] at e
      rw [e]
      simp only [veil_eq]
    · rw [if_pos (by simp; omega)]
      by_cases hg : V.length < U.length
      · rw [if_pos (by simp; omega)]
        obtain ⟨U1, U2, rfl, h1⟩ : ∃ U1 U2, U = U1 ++ U2 ∧ U1.length = V.length := ⟨U.take V.length, U.drop V.length, (List.take_append_drop _ _).symm, by simp; omega⟩
        simp only [List.length_append] at *
        have e := slices_swapRangeCmpFunc_queue_Item.pure P U1 U2 V Q (Go.IntKind.wrap .i64 (m - ((U1.length + U2.length : Nat) : Int))) m (V.length : Int) h1 (by rw [wrap_small _ (by omega) (by omega)]; omega) (by omega) (by omega) (by omega)
        have f1 : P ++ (U1 ++ U2) ++ V ++ Q = P ++ U1 ++ U2 ++ V ++ Q := by simp
        rw [f1, e]
        simp only [veil_eq]
        have ih := rot_loop l a m b k U2 U1 (P ++ V) Q n (by omega) (by omega) (by omega) (by simp; omega) (by omega) (by simp; omega)
        have f2 : Go.IntKind.wrap .i64 (((U1.length + U2.length : Nat) : Int) - (V.length : Int)) = (U2.length : Int) := by rw [wrap_small _ (by omega) (by omega)]; omega
        rw [f2, ← h1, ih]
        simp
      · rw [if_neg (by simp; omega)]
        obtain ⟨V1, V2, rfl, h1⟩ : ∃ V1 V2, V = V1 ++ V2 ∧ V2.length = U.length := ⟨V.take (V.length - U.length), V.drop (V.length - U.length), (List.take_append_drop _ _).symm, by simp; omega⟩
        simp only [List.length_append] at *
        have g1 : Go.IntKind.wrap .i64 (m + ((V1.length + V2.length : Nat) : Int)) = m + ((V1.length + V2.length : Nat) : Int) := wrap_small _ (by omega) (by omega)
        have e := slices_swapRangeCmpFunc_queue_Item.pure P U V1 V2 Q (Go.IntKind.wrap .i64 (m - (U.length : Int))) (Go.IntKind.wrap .i64 (Go.IntKind.wrap .i64 (m + ((V1.length + V2.length : Nat) : Int)) - (U.length : Int))) (U.length : Int) h1.symm (by rw [wrap_small _ (by omega) (by omega)]; omega) (by rw [g1, wrap_small _ (by omega) (by omega)]; omega) rfl (by omega)
        have f1 : P ++ U ++ (V1 ++ V2) ++ Q = P ++ U ++ V1 ++ V2 ++ Q := by simp
        rw [f1, e]
        simp only [veil_eq]
        have ih := rot_loop l a m b k V2 V1 P (U ++ Q) n (by omega) (by omega) (by omega) (by omega) (by omega) (by omega)
        have f2 : Go.IntKind.wrap .i64 (((V1.length + V2.length : Nat) : Int) - (U.length : Int)) = (V1.length : Int) := by rw [wrap_small _ (by omega) (by omega)]; omega
        have f3 : P ++ V2 ++ V1 ++ U ++ Q = P ++ V2 ++ V1 ++ (U ++ Q) := by simp
        rw [f2, f3, ← h1, ih]
        simp
theorem slices_rotateCmpFunc_queue_Item.pure (P U V Q : List (Int × Int)) (a m b : Int) (hu : 0 < U.length) (hv : 0 < V.length) (ha : a = P.length) (hm : m = P.length + U.length) (hb : b = P.length + U.length + V.length) (hsz : P.length + U.length + V.length ≤ 1000000) :
    slices_rotateCmpFunc_queue_Item.f BIG (P ++ U ++ V ++ Q) a m b = some (P ++ V ++ U ++ Q) := by
  unfold slices_rotateCmpFunc_queue_Item.f slices_rotateCmpFunc_queue_Item.b
  have e := rot_loop (P ++ U ++ V ++ Q) a m b (U.length + V.length) U V P Q BIG (Nat.le_refl _) hu hv hm (by rw [BIG_eq]; omega) hsz
  have f1 : Go.IntKind.wrap .i64 (m - a) = (U.length : Int) := by rw [wrap_small _ (by omega) (by omega)]; omega
  have f2 : Go.IntKind.wrap .i64 (b - m) = (V.length : Int) := by rw [wrap_small _ (by omega) (by omega)]; omega
  rw [f1, f2]
  exact e
def Srt (l : List QT) : Prop := l.Pairwise fun x y => x.2 ≤ y.2
def keyf (k : Int) (l : List QT) : List QT := l.filter fun x => x.2 == k
theorem keyf_app (k : Int) (a b : List QT) : keyf k (a ++ b) = keyf k a ++ keyf k b := List.filter_append _ _
theorem keyf_mem (x : QT) (l : List QT) : x ∈ l ↔ x ∈ keyf x.2 l := by unfold keyf; rw [List.mem_filter]; simp
theorem keyf_nil (k : Int) (l : List QT) (h : ∀ x ∈ l, x.2 ≠ k) : keyf k l = [] := by
  unfold keyf; rw [List.filter_eq_nil_iff]; intro x hx; have := h x hx; simp [this]
theorem keyf_one (k : Int) (x : QT) : keyf k [x] = if x.2 = k then [x] else [] := by
  unfold keyf; rw [List.filter_cons, List.filter_nil]; by_cases h : x.2 = k <;> simp [h]
theorem keyf_cons (k : Int) (x : QT) (l : List QT) : keyf k (x :: l) = keyf k [x] ++ keyf k l := keyf_app k [x] l
/-- there is one sorted row at most -/
theorem srt_uniq : ∀ (l l' : List QT), Srt l → Srt l' → (∀ k, keyf k l = keyf k l') → l = l'
  | [], [], _, _, _ => rfl
  | [], y :: l', _, _, h => by
    have := (keyf_mem y (y :: l')).1 (by simp)
    rw [← h] at this
    simp [keyf] at this
  | x :: l, [], _, _, h => by
    have := (keyf_mem x (x :: l)).1 (by simp)
    rw [h] at this
    simp [keyf] at this
  | x :: l, y :: l', hl, hl', h => by
    have hx : x ∈ y :: l' := (keyf_mem x _).2 (by rw [← h]; exact (keyf_mem x _).1 (by simp))
    have hy : y ∈ x :: l := (keyf_mem y _).2 (by rw [h]; exact (keyf_mem y _).1 (by simp))
    have h1 : y.2 ≤ x.2 := by
      rcases List.mem_cons.1 hx with e | e
      · rw [e]; exact Int.le_refl _
      · exact (List.pairwise_cons.1 hl').1 x e
    have h2 : x.2 ≤ y.2 := by
      rcases List.mem_cons.1 hy with e | e
      · rw [e]; exact Int.le_refl _
      · exact (List.pairwise_cons.1 hl).1 y e
    have hk : x.2 = y.2 := by omega
    have e := h x.2
    rw [keyf_cons, keyf_cons x.2 y, keyf_one, keyf_one, if_pos rfl, if_pos hk.symm] at e
    simp at e
    obtain ⟨rfl, _⟩ := e
    have ih := srt_uniq l l' (List.pairwise_cons.1 hl).2 (List.pairwise_cons.1 hl').2 (fun k => by
      have e := h k
      rw [keyf_cons, keyf_cons k x l'] at e
      exact List.append_cancel_left e)
    rw [ih]
/-- what merges two rows -/
def Mg (u v w : List QT) : Prop := Srt w ∧ (∀ k, keyf k w = keyf k u ++ keyf k v) ∧ w.length = u.length + v.length
theorem Mg_mem {u v w : List QT} (h : Mg u v w) (x : QT) : x ∈ w → x ∈ u ∨ x ∈ v := by
  intro hx
  have := (keyf_mem x w).1 hx
  rw [h.2.1] at this
  rcases List.mem_append.1 this with e | e
  · exact .inl ((keyf_mem x u).2 e)
  · exact .inr ((keyf_mem x v).2 e)
theorem Mg_left (v : List QT) (hv : Srt v) : Mg [] v v := ⟨hv, fun k => rfl, by simp⟩
theorem Mg_right (u : List QT) (hu : Srt u) : Mg u [] u := ⟨hu, fun k => by simp [keyf], by simp⟩
theorem srt_app (a b : List QT) (ha : Srt a) (hb : Srt b) (h : ∀ x ∈ a, ∀ y ∈ b, x.2 ≤ y.2) : Srt (a ++ b) := List.pairwise_append.2 ⟨ha, hb, h⟩
theorem Mg_one (x : QT) (v1 v2 : List QT) (hv : Srt (v1 ++ v2)) (h1 : ∀ y ∈ v1, y.2 < x.2) (h2 : ∀ y ∈ v2, x.2 ≤ y.2) : Mg [x] (v1 ++ v2) (v1 ++ x :: v2) := by
  obtain ⟨a, b, c⟩ := List.pairwise_append.1 hv
  refine ⟨srt_app _ _ a (List.pairwise_cons.2 ⟨h2, b⟩) ?_, ?_, by simp; omega⟩
  · intro y hy z hz
    rcases List.mem_cons.1 hz with e | e
    · rw [e]; have := h1 y hy; omega
    · exact c y hy z e
  · intro k
    rw [keyf_app, keyf_cons, keyf_app, keyf_one]
    by_cases hk : x.2 = k
    · rw [keyf_nil k v1 (fun y hy => by have := h1 y hy; omega)]; simp
    · rw [if_neg hk]; simp
theorem Mg_one' (y : QT) (u1 u2 : List QT) (hu : Srt (u1 ++ u2)) (h1 : ∀ x ∈ u1, x.2 ≤ y.2) (h2 : ∀ x ∈ u2, y.2 < x.2) : Mg (u1 ++ u2) [y] (u1 ++ y :: u2) := by
  obtain ⟨a, b, c⟩ := List.pairwise_append.1 hu
  refine ⟨srt_app _ _ a (List.pairwise_cons.2 ⟨fun x hx => by have := h2 x hx; omega, b⟩) ?_, ?_, by simp; omega⟩
  · intro z hz x hx
    rcases List.mem_cons.1 hx with e | e
    · rw [e]; exact h1 z hz
    · exact c z hz x e
  · intro k
    rw [keyf_app, keyf_cons, keyf_app, keyf_one]
    by_cases hk : y.2 = k
    · rw [keyf_nil k u2 (fun x hx => by have := h2 x hx; omega)]; simp
    · rw [if_neg hk]; simp
theorem Mg_two (u1 u2 v1 v2 w1 w2 : List QT) (hu : Srt (u1 ++ u2)) (hv : Srt (v1 ++ v2)) (h1 : ∀ y ∈ v1, ∀ x ∈ u2, y.2 < x.2) (h2 : ∀ x ∈ u1, ∀ y ∈ v2, x.2 ≤ y.2) (m1 : Mg u1 v1 w1) (m2 : Mg u2 v2 w2) : Mg (u1 ++ u2) (v1 ++ v2) (w1 ++ w2) := by
  obtain ⟨_, _, cu⟩ := List.pairwise_append.1 hu
  obtain ⟨_, _, cv⟩ := List.pairwise_append.1 hv
  refine ⟨srt_app _ _ m1.1 m2.1 ?_, ?_, by simp [m1.2.2, m2.2.2]; omega⟩
  · intro x hx y hy
    rcases Mg_mem m1 x hx with e | e
    · rcases Mg_mem m2 y hy with f | f
      · exact cu x e y f
      · exact h2 x e y f
    · rcases Mg_mem m2 y hy with f | f
      · have := h1 x e y f; omega
      · exact cv x e y f
  · intro k
    rw [keyf_app, keyf_app, keyf_app, m1.2.1, m2.2.1]
    have hz : keyf k v1 = [] ∨ keyf k u2 = [] := by
      cases hv1 : keyf k v1 with
      | nil => exact .inl rfl
      | cons y t =>
        refine .inr (keyf_nil k u2 fun x hx he => ?_)
        have hy : y ∈ keyf k v1 := by rw [hv1]; simp
        unfold keyf at hy
        obtain ⟨hy1, hy2⟩ := List.mem_filter.1 hy
        have := h1 y hy1 x hx
        simp at hy2
        omega
    rcases hz with e | e <;> rw [e] <;> simp
theorem insR_srt (v : QT) : ∀ R : List QT, R.Pairwise (fun x y => y.2 ≤ x.2) → (insR v R).Pairwise (fun x y => y.2 ≤ x.2)
  | [], _ => by simp [insR]
  | x :: R, h => by
    rw [List.pairwise_cons] at h
    rw [insR]
    split
    · rename_i hlt
      rw [List.pairwise_cons]
      refine ⟨fun y hy => ?_, insR_srt v R h.2⟩
      rcases (insR_mem v y R).1 hy with e | e
      · rw [e]; omega
      · exact h.1 y e
    · rename_i hlt
      rw [List.pairwise_cons, List.pairwise_cons]
      refine ⟨fun y hy => ?_, h⟩
      rcases List.mem_cons.1 hy with e | e
      · rw [e]; omega
      · have := h.1 y e; omega
theorem isr_srt : ∀ (l R : List QT), R.Pairwise (fun x y => y.2 ≤ x.2) → (isr R l).Pairwise (fun x y => y.2 ≤ x.2)
  | [], R, h => h
  | v :: l, R, h => isr_srt l (insR v R) (insR_srt v R h)
theorem isort_srt (l : List QT) : Srt (isort l) := by
  unfold isort Srt
  rw [List.pairwise_reverse]
  exact isr_srt l [] List.Pairwise.nil
theorem insR_key (k : Int) (v : QT) : ∀ R : List QT, keyf k (insR v R) = keyf k [v] ++ keyf k R
  | [] => by simp [insR, keyf]
  | x :: R => by
    rw [insR]
    split
    · rename_i hlt
      rw [keyf_cons, insR_key k v R, keyf_cons k x R, keyf_one, keyf_one]
      by_cases h1 : x.2 = k
      · rw [if_pos h1, if_neg (by omega)]; simp
      · rw [if_neg h1]; simp
    · rw [keyf_cons]
theorem isr_key (k : Int) : ∀ (l R : List QT), keyf k (isr R l) = (keyf k l).reverse ++ keyf k R
  | [], R => by simp [isr, keyf]
  | v :: l, R => by
    rw [isr, isr_key k l, insR_key, keyf_cons k v l, keyf_one]
    split <;> simp
theorem isort_key (k : Int) (l : List QT) : keyf k (isort l) = keyf k l := by
  have h := isr_key k l []
  unfold isort
  have e : keyf k (isr [] l).reverse = (keyf k (isr [] l)).reverse := by unfold keyf; rw [List.filter_reverse]
  rw [e, h]
  simp [keyf]
theorem isort_mg (A B w : List QT) (h : Mg (isort A) (isort B) w) : w = isort (A ++ B) := by
  refine srt_uniq _ _ h.1 (isort_srt _) fun k => ?_
  rw [h.2.1, isort_key, isort_key, isort_key, keyf_app]
def bs (P : Nat → Bool) : Nat → Nat → Nat → Nat
  | 0, i, _ => i
  | n + 1, i, j => if i < j then (if P ((i + j) / 2) = true then bs P n ((i + j) / 2 + 1) j else bs P n i ((i + j) / 2)) else i
theorem bs_ok (P : Nat → Bool) (lo hi : Nat) (mono : ∀ c c', lo ≤ c → c ≤ c' → c' < hi → P c' = true → P c = true) : ∀ (n i j : Nat), j - i < n → lo ≤ i → i ≤ j → j ≤ hi → (∀ c, lo ≤ c → c < i → P c = true) → (∀ c, j ≤ c → c < hi → P c = false) →
    i ≤ bs P n i j ∧ bs P n i j ≤ j ∧ (∀ c, lo ≤ c → c < bs P n i j → P c = true) ∧ (∀ c, bs P n i j ≤ c → c < hi → P c = false)
  | 0, i, j, h, _, _, _, _, _ => absurd h (by omega)
  | n + 1, i, j, h, h1, h2, h3, h4, h5 => by
    rw [bs]
    by_cases hij : i < j
    · rw [if_pos hij]
      cases hp : P ((i + j) / 2) with
      | true =>
        rw [if_pos rfl]
        obtain ⟨a, b, c, d⟩ := bs_ok P lo hi mono n ((i + j) / 2 + 1) j (by omega) (by omega) (by omega) h3 (fun c hc1 hc2 => mono c ((i + j) / 2) hc1 (by omega) (by omega) hp) h5
        exact ⟨by omega, b, c, d⟩
      | false =>
        rw [if_neg (by simp)]
        obtain ⟨a, b, c, d⟩ := bs_ok P lo hi mono n i ((i + j) / 2) (by omega) h1 (by omega) (by omega) h4 (fun c hc1 hc2 => by
          cases hq : P c with
          | false => rfl
          | true => rw [mono ((i + j) / 2) c (by omega) hc1 hc2 hq] at hp; cases hp)
        exact ⟨a, by omega, c, d⟩
    · rw [if_neg hij]
      have : i = j := by omega
      subst this
      exact ⟨Nat.le_refl _, Nat.le_refl _, h4, h5⟩
theorem half (x y : Nat) (h : x + y ≤ 2000000) : Go.IntKind.wrap .i64 (Int.fdiv (Go.IntKind.wrap .u64 (Go.IntKind.wrap .i64 ((x : Int) + (y : Int)))) (2 ^ (Min.min (Int.toNat 1) (Go.IntKind.bits .u64)))) = (((x + y) / 2 : Nat) : Int) := by
  have e : (2 : Int) ^ (Min.min (Int.toNat 1) (Go.IntKind.bits .u64)) = 2 := rfl
  have e1 : Go.IntKind.wrap .i64 ((x : Int) + (y : Int)) = (x : Int) + (y : Int) := wrap_small _ (by omega) (by omega)
  rw [e, e1, Go.IntKind.wrap_u64, Int.emod_eq_of_lt (by omega) (by omega), Int.fdiv_eq_ediv_of_nonneg _ (by omega), wrap_small _ (by omega) (by omega)]
  omega
theorem gD_r {α : Type} (l r : List α) (d : α) (i : Nat) (h : l.length ≤ i) : (l ++ r).getD i d = r.getD (i - l.length) d := by
  show ((l ++ r)[i]?).getD d = (r[i - l.length]?).getD d
  rw [List.getElem?_append_right h]
theorem gD_l {α : Type} (l r : List α) (d : α) (i : Nat) (h : i < l.length) : (l ++ r).getD i d = l.getD i d := by
  show ((l ++ r)[i]?).getD d = (l[i]?).getD d
  rw [List.getElem?_append_left h]
theorem gD_get {α : Type} (l : List α) (d : α) (i : Nat) (h : i < l.length) : l.getD i d = l[i] := by
  show (l[i]?).getD d = l[i]
  rw [List.getElem?_eq_getElem h]; rfl
def qa (D : List QT) (c : Nat) : Int := (D.getD c (0, 0)).2
theorem idx_qa (D : List QT) (c : Nat) (h : c < D.length) : idx D (c : Int) = some (D.getD c (0, 0)) := getD_at D (0, 0) c h
theorem getD_mid (P u R : List QT) (i : Nat) (h : i < u.length) : (P ++ u ++ R).getD (P.length + i) (0, 0) = u.getD i (0, 0) := by
  rw [List.append_assoc, gD_r _ _ _ _ (by omega), gD_l _ _ _ _ (by omega)]
  congr 1
  omega
theorem take_all (R : QT → Prop) : ∀ (v : List QT) (t : Nat), (∀ j, j < t → j < v.length → R (v.getD j (0, 0))) → ∀ y ∈ v.take t, R y
  | [], t, _, y, hy => by simp at hy
  | x :: v, 0, _, y, hy => by simp at hy
  | x :: v, t + 1, h, y, hy => by
    rw [List.take_succ_cons] at hy
    rcases List.mem_cons.1 hy with e | e
    · rw [e]; exact h 0 (by omega) (by simp)
    · exact take_all R v t (fun j hj hl => h (j + 1) (by omega) (by simp; omega)) y e
theorem drop_all (R : QT → Prop) : ∀ (v : List QT) (t : Nat), (∀ j, t ≤ j → j < v.length → R (v.getD j (0, 0))) → ∀ y ∈ v.drop t, R y
  | [], t, _, y, hy => by simp at hy
  | x :: v, 0, h, y, hy => by
    rw [List.drop_zero] at hy
    rcases List.mem_cons.1 hy with e | e
    · rw [e]; exact h 0 (by omega) (by simp)
    · exact drop_all R v 0 (fun j hj hl => h (j + 1) (by omega) (by simp; omega)) y (by simpa using e)
  | x :: v, t + 1, h, y, hy => by
    rw [List.drop_succ_cons] at hy
    exact drop_all R v t (fun j hj hl => h (j + 1) (by omega) (by simp; omega)) y hy
theorem srt_idx : ∀ (u : List QT), Srt u → ∀ i j, i ≤ j → j < u.length → (u.getD i (0, 0)).2 ≤ (u.getD j (0, 0)).2
  | [], _, i, j, _, h => by simp at h
  | x :: u, hs, 0, 0, _, _ => Int.le_refl _
  | x :: u, hs, 0, j + 1, _, h => by
    have hj : j < u.length := by simpa using h
    show x.2 ≤ (u.getD j (0, 0)).2
    rw [gD_get _ _ _ hj]
    exact (List.pairwise_cons.1 hs).1 _ (List.getElem_mem hj)
  | x :: u, hs, i + 1, 0, hij, _ => by omega
  | x :: u, hs, i + 1, j + 1, hij, h => srt_idx u (List.pairwise_cons.1 hs).2 i j (by omega) (by simpa using h)
abbrev RG := List (Int × Int) → Int → Int → Int → Option (List (Int × Int))
theorem sm3 (recG : RG) (D : List QT) (a m b : Nat) (hD : D.length ≤ 1000000) (ha : a < D.length) (hb : b ≤ D.length) : ∀ (n i j : Nat), j - i < n → i ≤ j → j ≤ b →
    slices_symMergeCmpFunc_queue_Item.l3 recG BIG D a m b n (i : Int) (j : Int) = slices_symMergeCmpFunc_queue_Item.l9 recG BIG D a m b BIG ((bs (fun h => decide (qa D h < qa D a)) n i j : Nat) : Int) (a : Int) D
  | 0, i, j, h, _, _ => absurd h (by omega)
  | n + 1, i, j, h, hij, hj => by
    rw [slices_symMergeCmpFunc_queue_Item.l3_at recG BIG (n + 1) n rfl]
    unfold slices_symMergeCmpFunc_queue_Item.b3
    rw [bs]
    by_cases hlt : i < j
    · rw [if_pos (by simp; omega), if_pos hlt, half i j (by omega), idx_qa D _ (by omega)]
      dsimp only
      rw [idx_qa D a ha]
      dsimp only
      obtain ⟨c, hc, hd⟩ := queue_Queue_All_c1.pure (D.getD ((i + j) / 2) (0, 0)) (D.getD a (0, 0))
      rw [hc]
      simp only [veil_eq]
      rw [hd]
      by_cases hp : qa D ((i + j) / 2) < qa D a
      · rw [if_pos (by exact decide_eq_true hp), if_pos (by exact decide_eq_true hp), lenw _ (by omega)]
        exact sm3 recG D a m b hD ha hb n _ j (by omega) (by omega) hj
      · rw [if_neg (by intro e; exact hp (of_decide_eq_true e)), if_neg (by intro e; exact hp (of_decide_eq_true e))]
        exact sm3 recG D a m b hD ha hb n i _ (by omega) (by omega) (by omega)
    · rw [if_neg (by simp; omega), if_neg hlt]
theorem sm15 (recG : RG) (D : List QT) (a m b : Nat) (hD : D.length ≤ 1000000) (ha : m < D.length) : ∀ (n i j : Nat), j - i < n → i ≤ j → j ≤ m →
    slices_symMergeCmpFunc_queue_Item.l15 recG BIG D a m b n (i : Int) (j : Int) = slices_symMergeCmpFunc_queue_Item.l21 recG BIG D a m b BIG ((bs (fun h => !decide (qa D m < qa D h)) n i j : Nat) : Int) (m : Int) D
  | 0, i, j, h, _, _ => absurd h (by omega)
  | n + 1, i, j, h, hij, hj => by
    rw [slices_symMergeCmpFunc_queue_Item.l15_at recG BIG (n + 1) n rfl]
    unfold slices_symMergeCmpFunc_queue_Item.b15
    rw [bs]
    by_cases hlt : i < j
    · rw [if_pos (by simp; omega), if_pos hlt, idx_qa D m ha]
      dsimp only
      rw [half i j (by omega), idx_qa D _ (by omega)]
      dsimp only
      obtain ⟨c, hc, hd⟩ := queue_Queue_All_c1.pure (D.getD m (0, 0)) (D.getD ((i + j) / 2) (0, 0))
      rw [hc]
      simp only [veil_eq]
      rw [hd]
      by_cases hp : qa D m < qa D ((i + j) / 2)
      · have e : decide ((D.getD m (0, 0)).2 < (D.getD ((i + j) / 2) (0, 0)).2) = true := decide_eq_true hp
        rw [e, if_neg (by simp), if_neg (by show ¬ ((!decide (qa D m < qa D ((i + j) / 2))) = true); rw [decide_eq_true hp]; simp)]
        exact sm15 recG D a m b hD ha n i _ (by omega) (by omega) (by omega)
      · have e : decide ((D.getD m (0, 0)).2 < (D.getD ((i + j) / 2) (0, 0)).2) = false := decide_eq_false hp
        rw [e, if_pos (by simp), if_pos (by show (!decide (qa D m < qa D ((i + j) / 2))) = true; rw [decide_eq_false hp]; rfl), lenw _ (by omega)]
        exact sm15 recG D a m b hD ha n _ j (by omega) (by omega) hj
    · rw [if_neg (by simp; omega), if_neg hlt]
theorem sm9 (recG : RG) (l : List QT) (a m b : Int) (x : QT) (R : List QT) (i : Int) : ∀ (v1 P : List QT) (n : Nat), v1.length < n → i = P.length + 1 + v1.length → P.length + v1.length + R.length ≤ 1000000 →
    slices_symMergeCmpFunc_queue_Item.l9 recG BIG l a m b n i ((P.length : Nat) : Int) (P ++ x :: (v1 ++ R)) = some (P ++ v1 ++ x :: R)
  | v1, P, 0, h, _, _ => absurd h (by omega)
  | [], P, n + 1, h, hi, hsz => by
    simp at hi
    rw [slices_symMergeCmpFunc_queue_Item.l9_at recG BIG (n + 1) n rfl]
    unfold slices_symMergeCmpFunc_queue_Item.b9
    rw [wrap_small _ (by omega) (by omega), if_neg (by simp; omega)]
    simp
  | y :: v1, P, n + 1, h, hi, hsz => by
    simp at h hi hsz
    rw [slices_symMergeCmpFunc_queue_Item.l9_at recG BIG (n + 1) n rfl]
    unfold slices_symMergeCmpFunc_queue_Item.b9
    have w1 : Go.IntKind.wrap .i64 (((P.length : Nat) : Int) + 1) = (((P ++ [x]).length : Nat) : Int) := by rw [wrap_small _ (by omega) (by omega)]; simp
    have w2 : Go.IntKind.wrap .i64 (((P.length : Nat) : Int) + 1) = (((P ++ [y]).length : Nat) : Int) := by rw [w1]; simp
    have i1 : idx (P ++ x :: (y :: v1 ++ R)) (Go.IntKind.wrap .i64 (((P.length : Nat) : Int) + 1)) = some y := idx_mid2 _ (P ++ [x]) y (v1 ++ R) _ (by simp) w1
    have i2 : idx (P ++ x :: (y :: v1 ++ R)) ((P.length : Nat) : Int) = some x := idx_mid _ x _
    have s1 : List.set (P ++ x :: (y :: v1 ++ R)) (Int.toNat ((P.length : Nat) : Int)) y = P ++ y :: (y :: v1 ++ R) := set_mid _ x y _
    have i3 : idx (P ++ y :: (y :: v1 ++ R)) (Go.IntKind.wrap .i64 (((P.length : Nat) : Int) + 1)) = some y := idx_mid2 _ (P ++ [y]) y (v1 ++ R) _ (by simp) w2
    have s2 : List.set (P ++ y :: (y :: v1 ++ R)) (Int.toNat (Go.IntKind.wrap .i64 (((P.length : Nat) : Int) + 1))) x = P ++ [y] ++ x :: (v1 ++ R) := set_mid2 _ (P ++ [y]) y x (v1 ++ R) _ (by simp) w2
    rw [if_pos (by rw [wrap_small _ (by omega) (by omega)]; simp; omega), i1]
    dsimp only
    rw [i2]
    dsimp only
    rw [show (y.1, y.2) = y from rfl, show (x.1, x.2) = x from rfl, s1, i3]
    dsimp only
    rw [s2, w2]
    have ih := sm9 recG l a m b x R i v1 (P ++ [y]) n (by omega) (by simp; omega) (by simp; omega)
    rw [ih]
    simp
theorem sm21 (recG : RG) (l : List QT) (a m b : Int) (y : QT) (P : List QT) (i : Int) (hi : i = P.length) : ∀ (R2 Q : List QT) (n : Nat), R2.length < n → P.length + R2.length + Q.length ≤ 1000000 →
    slices_symMergeCmpFunc_queue_Item.l21 recG BIG l a m b n i ((P.length + R2.length : Nat) : Int) (P ++ R2.reverse ++ y :: Q) = some (P ++ y :: R2.reverse ++ Q)
  | R2, Q, 0, h, _ => absurd h (by omega)
  | [], Q, n + 1, h, hsz => by
    rw [slices_symMergeCmpFunc_queue_Item.l21_at recG BIG (n + 1) n rfl]
    unfold slices_symMergeCmpFunc_queue_Item.b21
    rw [if_neg (by simp; omega)]
    simp
  | x :: R2, Q, n + 1, h, hsz => by
    simp at h hsz
    rw [slices_symMergeCmpFunc_queue_Item.l21_at recG BIG (n + 1) n rfl]
    unfold slices_symMergeCmpFunc_queue_Item.b21
    have k1 : ((P.length + (x :: R2).length : Nat) : Int) = (((P ++ R2.reverse ++ [x]).length : Nat) : Int) := by simp <;> omega
    have k2 : ((P.length + (x :: R2).length : Nat) : Int) = (((P ++ R2.reverse ++ [y]).length : Nat) : Int) := by simp <;> omega
    have w1 : Go.IntKind.wrap .i64 (((P.length + (x :: R2).length : Nat) : Int) - 1) = (((P ++ R2.reverse).length : Nat) : Int) := by rw [wrap_small _ (by simp; omega) (by simp; omega)]; simp; omega
    have i1 : idx (P ++ (x :: R2).reverse ++ y :: Q) (Go.IntKind.wrap .i64 (((P.length + (x :: R2).length : Nat) : Int) - 1)) = some x := idx_mid2 _ (P ++ R2.reverse) x (y :: Q) _ (by simp) w1
    have i2 : idx (P ++ (x :: R2).reverse ++ y :: Q) ((P.length + (x :: R2).length : Nat) : Int) = some y := idx_mid2 _ (P ++ R2.reverse ++ [x]) y Q _ (by simp) k1
    have s1 : List.set (P ++ (x :: R2).reverse ++ y :: Q) (Int.toNat ((P.length + (x :: R2).length : Nat) : Int)) x = P ++ R2.reverse ++ [x] ++ x :: Q := set_mid2 _ (P ++ R2.reverse ++ [x]) y x Q _ (by simp) k1
    have i3 : idx (P ++ R2.reverse ++ [x] ++ x :: Q) (Go.IntKind.wrap .i64 (((P.length + (x :: R2).length : Nat) : Int) - 1)) = some x := idx_mid2 _ (P ++ R2.reverse) x (x :: Q) _ (by simp) w1
    have s2 : List.set (P ++ R2.reverse ++ [x] ++ x :: Q) (Int.toNat (Go.IntKind.wrap .i64 (((P.length + (x :: R2).length : Nat) : Int) - 1))) y = P ++ R2.reverse ++ y :: (x :: Q) := set_mid2 _ (P ++ R2.reverse) x y (x :: Q) _ (by simp) w1
    rw [if_pos (by simp; omega), i1]
    dsimp only
    rw [i2]
    dsimp only
    rw [show (y.1, y.2) = y from rfl, show (x.1, x.2) = x from rfl, s1, i3]
    dsimp only
    rw [s2, w1]
    have ih := sm21 recG l a m b y P i hi R2 (x :: Q) n (by omega) (by simp; omega)
    have f1 : (((P ++ R2.reverse).length : Nat) : Int) = ((P.length + R2.length : Nat) : Int) := by simp
    rw [f1, ih]
    simp
/-- a function that merges rows of up to k elements -/
def MgOk (recG : RG) (k : Nat) : Prop := ∀ (P u v Q : List QT), 1 ≤ u.length → 1 ≤ v.length → u.length + v.length ≤ k → P.length + u.length + v.length + Q.length ≤ 100000 → Srt u → Srt v →
  ∃ w, recG (P ++ u ++ v ++ Q) (P.length : Int) ((P.length + u.length : Nat) : Int) ((P.length + u.length + v.length : Nat) : Int) = some (P ++ w ++ Q) ∧ Mg u v w
theorem sm_left (recG : RG) (x : QT) (P v Q : List QT) (hv : 1 ≤ v.length) (hsz : P.length + 1 + v.length + Q.length ≤ 100000) (hs : Srt v) :
    ∃ w, slices_symMergeCmpFunc_queue_Item.f recG BIG (P ++ [x] ++ v ++ Q) (P.length : Int) ((P.length + 1 : Nat) : Int) ((P.length + 1 + v.length : Nat) : Int) = some (P ++ w ++ Q) ∧ Mg [x] v w := by
  generalize hD : P ++ [x] ++ v ++ Q = D
  have hDl : D.length = P.length + 1 + v.length + Q.length := by rw [← hD]; simp <;> omega
  have hq : ∀ j, j < v.length → qa D (P.length + 1 + j) = (v.getD j (0, 0)).2 := by
    intro j hj
    have e := getD_mid (P ++ [x]) v Q j hj
    rw [hD] at e
    unfold qa
    rw [← e]
    congr 2
    simp
  have hx : qa D P.length = x.2 := by
    have e := getD_mid P [x] (v ++ Q) 0 (by simp)
    have f : P ++ [x] ++ (v ++ Q) = D := by rw [← hD]; simp
    rw [f] at e
    unfold qa
    rw [show P.length = P.length + 0 from rfl, e]
    rfl
  have mono : ∀ c c', P.length + 1 ≤ c → c ≤ c' → c' < P.length + 1 + v.length → (fun h => decide (qa D h < qa D P.length)) c' = true → (fun h => decide (qa D h < qa D P.length)) c = true := by
    intro c c' h1 h2 h3 h4
    simp only [decide_eq_true_eq] at h4 ⊢
    have e1 := hq (c - (P.length + 1)) (by omega)
    have e2 := hq (c' - (P.length + 1)) (by omega)
    rw [show P.length + 1 + (c - (P.length + 1)) = c by omega] at e1
    rw [show P.length + 1 + (c' - (P.length + 1)) = c' by omega] at e2
    have := srt_idx v hs (c - (P.length + 1)) (c' - (P.length + 1)) (by omega) (by omega)
    rw [e2] at h4
    rw [e1]
    omega
  obtain ⟨b1, b2, b3, b4⟩ := bs_ok _ (P.length + 1) (P.length + 1 + v.length) mono BIG (P.length + 1) (P.length + 1 + v.length) (by rw [BIG_eq]; omega) (Nat.le_refl _) (by omega) (Nat.le_refl _) (fun c h1 h2 => by omega) (fun c h1 h2 => by omega)
  have h3 := sm3 recG D P.length (P.length + 1) (P.length + 1 + v.length) (by omega) (by omega) (by omega) BIG (P.length + 1) (P.length + 1 + v.length) (by rw [BIG_eq]; omega) (by omega) (Nat.le_refl _)
  generalize hs' : bs (fun h => decide (qa D h < qa D P.length)) BIG (P.length + 1) (P.length + 1 + v.length) = s at *
  refine ⟨v.take (s - (P.length + 1)) ++ x :: v.drop (s - (P.length + 1)), ?_, ?_⟩
  · unfold slices_symMergeCmpFunc_queue_Item.f slices_symMergeCmpFunc_queue_Item.b
    have w1 : Go.IntKind.wrap .i64 (((P.length + 1 : Nat) : Int) - (P.length : Int)) = 1 := by rw [wrap_small _ (by omega) (by omega)]; omega
    rw [w1, if_pos (by rfl), h3]
    have e := sm9 recG D P.length ((P.length + 1 : Nat) : Int) ((P.length + 1 + v.length : Nat) : Int) x (v.drop (s - (P.length + 1)) ++ Q) (s : Int) (v.take (s - (P.length + 1))) P BIG (by rw [BIG_eq]; simp; omega) (by simp; omega) (by simp; omega)
    have f : P ++ x :: (v.take (s - (P.length + 1)) ++ (v.drop (s - (P.length + 1)) ++ Q)) = D := by
      rw [← hD, ← List.append_assoc (v.take _), List.take_append_drop]; simp
    rw [f] at e
    rw [e]
    simp
  · have hm := Mg_one x (v.take (s - (P.length + 1))) (v.drop (s - (P.length + 1))) (by rw [List.take_append_drop]; exact hs)
      (take_all (fun y => y.2 < x.2) v _ fun j h1 h2 => by
        have := b3 (P.length + 1 + j) (by omega) (by omega)
        simp only [decide_eq_true_eq] at this
        rw [hq j h2, hx] at this
        exact this)
      (drop_all (fun y => x.2 ≤ y.2) v _ fun j h1 h2 => by
        have := b4 (P.length + 1 + j) (by omega) (by omega)
        simp only [decide_eq_false_iff_not] at this
        rw [hq j h2, hx] at this
        omega)
    rw [List.take_append_drop] at hm
    exact hm
theorem sm_right (recG : RG) (y : QT) (P u Q : List QT) (hu : 2 ≤ u.length) (hsz : P.length + u.length + 1 + Q.length ≤ 100000) (hs : Srt u) :
    ∃ w, slices_symMergeCmpFunc_queue_Item.f recG BIG (P ++ u ++ [y] ++ Q) (P.length : Int) ((P.length + u.length : Nat) : Int) ((P.length + u.length + 1 : Nat) : Int) = some (P ++ w ++ Q) ∧ Mg u [y] w := by
  generalize hD : P ++ u ++ [y] ++ Q = D
  have hDl : D.length = P.length + u.length + 1 + Q.length := by rw [← hD]; simp <;> omega
  have hq : ∀ j, j < u.length → qa D (P.length + j) = (u.getD j (0, 0)).2 := by
    intro j hj
    have e := getD_mid P u ([y] ++ Q) j hj
    have f : P ++ u ++ ([y] ++ Q) = D := by rw [← hD]; simp
    rw [f] at e
    unfold qa
    rw [e]
  have hy : qa D (P.length + u.length) = y.2 := by
    have e := getD_mid (P ++ u) [y] Q 0 (by simp)
    rw [hD] at e
    unfold qa
    rw [show P.length + u.length = (P ++ u).length + 0 by simp, e]
    rfl
  have mono : ∀ c c', P.length ≤ c → c ≤ c' → c' < P.length + u.length → (fun h => !decide (qa D (P.length + u.length) < qa D h)) c' = true → (fun h => !decide (qa D (P.length + u.length) < qa D h)) c = true := by
    intro c c' h1 h2 h3 h4
    simp only [Bool.not_eq_true', decide_eq_false_iff_not] at h4 ⊢
    have e1 := hq (c - P.length) (by omega)
    have e2 := hq (c' - P.length) (by omega)
    rw [show P.length + (c - P.length) = c by omega] at e1
    rw [show P.length + (c' - P.length) = c' by omega] at e2
    have := srt_idx u hs (c - P.length) (c' - P.length) (by omega) (by omega)
    rw [e2] at h4
    rw [e1]
    omega
  obtain ⟨b1, b2, b3, b4⟩ := bs_ok _ P.length (P.length + u.length) mono BIG P.length (P.length + u.length) (by rw [BIG_eq]; omega) (Nat.le_refl _) (by omega) (Nat.le_refl _) (fun c h1 h2 => by omega) (fun c h1 h2 => by omega)
  have h3 := sm15 recG D P.length (P.length + u.length) (P.length + u.length + 1) (by omega) (by omega) BIG P.length (P.length + u.length) (by rw [BIG_eq]; omega) (by omega) (Nat.le_refl _)
  generalize hs' : bs (fun h => !decide (qa D (P.length + u.length) < qa D h)) BIG P.length (P.length + u.length) = s at *
  refine ⟨u.take (s - P.length) ++ y :: u.drop (s - P.length), ?_, ?_⟩
  · unfold slices_symMergeCmpFunc_queue_Item.f slices_symMergeCmpFunc_queue_Item.b
    have w1 : Go.IntKind.wrap .i64 (((P.length + u.length : Nat) : Int) - (P.length : Int)) = (u.length : Int) := by rw [wrap_small _ (by omega) (by omega)]; omega
    have w2 : Go.IntKind.wrap .i64 (((P.length + u.length + 1 : Nat) : Int) - ((P.length + u.length : Nat) : Int)) = 1 := by rw [wrap_small _ (by omega) (by omega)]; omega
    rw [w1, if_neg (by simp; omega), w2, if_pos (by rfl), h3]
    have e := sm21 recG D P.length ((P.length + u.length : Nat) : Int) ((P.length + u.length + 1 : Nat) : Int) y (P ++ u.take (s - P.length)) (s : Int) (by simp; omega) (u.drop (s - P.length)).reverse Q BIG (by rw [BIG_eq]; simp; omega) (by simp; omega)
    rw [List.reverse_reverse] at e
    have f : P ++ u.take (s - P.length) ++ u.drop (s - P.length) ++ y :: Q = D := by
      rw [← hD, List.append_assoc P, List.take_append_drop]; simp
    have g : (((P ++ u.take (s - P.length)).length + (u.drop (s - P.length)).reverse.length : Nat) : Int) = ((P.length + u.length : Nat) : Int) := by simp; omega
    rw [f, g] at e
    rw [e]
    simp
  · have hm := Mg_one' y (u.take (s - P.length)) (u.drop (s - P.length)) (by rw [List.take_append_drop]; exact hs)
      (take_all (fun x => x.2 ≤ y.2) u _ fun j h1 h2 => by
        have := b3 (P.length + j) (by omega) (by omega)
        simp only [Bool.not_eq_true', decide_eq_false_iff_not] at this
        rw [hq j h2, hy] at this
        omega)
      (drop_all (fun x => y.2 < x.2) u _ fun j h1 h2 => by
        have := b4 (P.length + j) (by omega) (by omega)
        simp only [Bool.not_eq_false', decide_eq_true_eq] at this
        rw [hq j h2, hy] at this
        exact this)
    rw [List.take_append_drop] at hm
    exact hm
theorem sm33 (recG : RG) (D : List QT) (a m b : Nat) (hD : D.length ≤ 200000) (hm : 1 ≤ m) (hab : a + b ≤ 400000) (hmb : m ≤ b) (hb : b ≤ D.length) (hi0 : Nat) (hhi : hi0 ≤ (a + b) / 2) (hhm : hi0 ≤ m) : ∀ (n i j : Nat), j - i < n → i ≤ j → j ≤ hi0 → (a + b) / 2 + m ≤ i + b →
    slices_symMergeCmpFunc_queue_Item.l33 recG BIG D a m b n (i : Int) (j : Int) = slices_symMergeCmpFunc_queue_Item.l33 recG BIG D a m b 1 ((bs (fun c => !decide (qa D ((a + b) / 2 + m - 1 - c) < qa D c)) n i j : Nat) : Int) ((bs (fun c => !decide (qa D ((a + b) / 2 + m - 1 - c) < qa D c)) n i j : Nat) : Int)
  | 0, i, j, h, _, _, _ => absurd h (by omega)
  | n + 1, i, j, h, hij, hj, hib => by
    by_cases hlt : i < j
    · rw [bs, if_pos hlt, slices_symMergeCmpFunc_queue_Item.l33_at recG BIG (n + 1) n rfl]
      unfold slices_symMergeCmpFunc_queue_Item.b33
      have wp : Go.IntKind.wrap .i64 (Go.IntKind.wrap .i64 (Go.IntKind.wrap .i64 ((((a + b) / 2 : Nat) : Int) + (m : Int)) - 1) - (((i + j) / 2 : Nat) : Int)) = (((a + b) / 2 + m - 1 - (i + j) / 2 : Nat) : Int) := by
        rw [wrap_small ((((a + b) / 2 : Nat) : Int) + (m : Int)) (by omega) (by omega), wrap_small ((((a + b) / 2 : Nat) : Int) + (m : Int) - 1) (by omega) (by omega), wrap_small _ (by omega) (by omega)]
        omega
      rw [if_pos (by simp; omega), half a b (by omega), half i j (by omega), wp, idx_qa D _ (by omega)]
      dsimp only
      rw [idx_qa D _ (by omega)]
      dsimp only
      obtain ⟨c, hc, hd⟩ := queue_Queue_All_c1.pure (D.getD ((a + b) / 2 + m - 1 - (i + j) / 2) (0, 0)) (D.getD ((i + j) / 2) (0, 0))
      rw [hc]
      simp only [veil_eq]
      rw [hd]
      by_cases hp : qa D ((a + b) / 2 + m - 1 - (i + j) / 2) < qa D ((i + j) / 2)
      · have e : decide ((D.getD ((a + b) / 2 + m - 1 - (i + j) / 2) (0, 0)).2 < (D.getD ((i + j) / 2) (0, 0)).2) = true := decide_eq_true hp
        rw [e, if_neg (by simp), if_neg (by show ¬ ((!decide (qa D ((a + b) / 2 + m - 1 - (i + j) / 2) < qa D ((i + j) / 2))) = true); rw [decide_eq_true hp]; simp)]
        exact sm33 recG D a m b hD hm hab hmb hb hi0 hhi hhm n i _ (by omega) (by omega) (by omega) hib
      · have e : decide ((D.getD ((a + b) / 2 + m - 1 - (i + j) / 2) (0, 0)).2 < (D.getD ((i + j) / 2) (0, 0)).2) = false := decide_eq_false hp
        rw [e, if_pos (by simp), if_pos (by show (!decide (qa D ((a + b) / 2 + m - 1 - (i + j) / 2) < qa D ((i + j) / 2))) = true; rw [decide_eq_false hp]; rfl), lenw _ (by omega)]
        exact sm33 recG D a m b hD hm hab hmb hb hi0 hhi hhm n _ j (by omega) (by omega) hj (by omega)
    · have : i = j := by omega
      subst this
      rw [bs, if_neg hlt]
      rw [slices_symMergeCmpFunc_queue_Item.l33_at recG BIG (n + 1) n rfl, slices_symMergeCmpFunc_queue_Item.l33_at recG BIG 1 0 rfl]
      unfold slices_symMergeCmpFunc_queue_Item.b33
      have hn : ¬ (decide ((i : Int) < (i : Int)) = true) := by simp
      rw [if_neg hn, if_neg hn]
theorem sm_step (recG : RG) (k : Nat) (hr : MgOk recG k) : MgOk (fun l a m b => slices_symMergeCmpFunc_queue_Item.f recG BIG l a m b) (k + 1) := by
  intro P u v Q hu hv hk hsz su sv
  by_cases hu1 : u.length = 1
  · obtain ⟨x, rfl⟩ : ∃ x, u = [x] := by
      cases u with
      | nil => simp at hu1
      | cons x u => cases u with
        | nil => exact ⟨x, rfl⟩
        | cons y u => simp at hu1
    exact sm_left recG x P v Q hv (by simp at hsz ⊢; omega) sv
  by_cases hv1 : v.length = 1
  · obtain ⟨y, rfl⟩ : ∃ y, v = [y] := by
      cases v with
      | nil => simp at hv1
      | cons y v => cases v with
        | nil => exact ⟨y, rfl⟩
        | cons z v => simp at hv1
    exact sm_right recG y P u Q (by omega) (by simp at hsz ⊢; omega) su
  have hu2 : 2 ≤ u.length := by omega
  have hv2 : 2 ≤ v.length := by omega
  generalize hD : P ++ u ++ v ++ Q = D
  have hDl : D.length = P.length + u.length + v.length + Q.length := by rw [← hD]; simp <;> omega
  have hqu : ∀ j, j < u.length → qa D (P.length + j) = (u.getD j (0, 0)).2 := by
    intro j hj
    have e := getD_mid P u (v ++ Q) j hj
    have f : P ++ u ++ (v ++ Q) = D := by rw [← hD]; simp
    rw [f] at e
    unfold qa
    rw [e]
  have hqv : ∀ j, j < v.length → qa D (P.length + u.length + j) = (v.getD j (0, 0)).2 := by
    intro j hj
    have e := getD_mid (P ++ u) v Q j hj
    rw [hD] at e
    unfold qa
    rw [← e]
    congr 2
    simp
  obtain ⟨a, ha⟩ : ∃ a, a = P.length := ⟨_, rfl⟩
  obtain ⟨m, hm⟩ : ∃ m, m = P.length + u.length := ⟨_, rfl⟩
  obtain ⟨b, hb⟩ : ∃ b, b = P.length + u.length + v.length := ⟨_, rfl⟩
  rw [← ha] at hqu
  rw [← hm] at hqv
  rw [← hb, ← hm, ← ha]
  have U : ∀ c c', a ≤ c → c ≤ c' → c' < m → qa D c ≤ qa D c' := by
    intro c c' h1 h2 h3
    have e1 := hqu (c - a) (by omega)
    have e2 := hqu (c' - a) (by omega)
    rw [show a + (c - a) = c by omega] at e1
    rw [show a + (c' - a) = c' by omega] at e2
    rw [e1, e2]
    exact srt_idx u su _ _ (by omega) (by omega)
  have V : ∀ c c', m ≤ c → c ≤ c' → c' < b → qa D c ≤ qa D c' := by
    intro c c' h1 h2 h3
    have e1 := hqv (c - m) (by omega)
    have e2 := hqv (c' - m) (by omega)
    rw [show m + (c - m) = c by omega] at e1
    rw [show m + (c' - m) = c' by omega] at e2
    rw [e1, e2]
    exact srt_idx v sv _ _ (by omega) (by omega)
  obtain ⟨lo, hi, hlohi, hlo1, hlo2, hhi1, hhi2, hlo3, hhi3, hstart⟩ : ∃ lo hi : Nat, lo ≤ hi ∧ a ≤ lo ∧ (a + b) / 2 + m ≤ lo + b ∧ hi ≤ m ∧ hi ≤ (a + b) / 2 ∧ (lo = a ∨ (a + b) / 2 + m = lo + b) ∧ (hi = m ∨ hi = (a + b) / 2) ∧
      slices_symMergeCmpFunc_queue_Item.f recG BIG D a m b = slices_symMergeCmpFunc_queue_Item.l33 recG BIG D a m b BIG (lo : Int) (hi : Int) := by
    have w1 : Go.IntKind.wrap .i64 ((m : Int) - (a : Int)) = (u.length : Int) := by rw [wrap_small _ (by omega) (by omega)]; omega
    have w2 : Go.IntKind.wrap .i64 ((b : Int) - (m : Int)) = (v.length : Int) := by rw [wrap_small _ (by omega) (by omega)]; omega
    by_cases hmm : (a + b) / 2 < m
    · refine ⟨(a + b) / 2 + m - b, (a + b) / 2, by omega, by omega, by omega, by omega, by omega, .inr (by omega), .inr rfl, ?_⟩
      unfold slices_symMergeCmpFunc_queue_Item.f slices_symMergeCmpFunc_queue_Item.b
      have w3 : Go.IntKind.wrap .i64 (Go.IntKind.wrap .i64 ((((a + b) / 2 : Nat) : Int) + (m : Int)) - (b : Int)) = (((a + b) / 2 + m - b : Nat) : Int) := by
        rw [wrap_small ((((a + b) / 2 : Nat) : Int) + (m : Int)) (by omega) (by omega), wrap_small _ (by omega) (by omega)]
        omega
      rw [w1, if_neg (by simp; omega), w2, if_neg (by simp; omega), half a b (by omega), if_pos (by simp; omega), w3, slices_symMergeCmpFunc_queue_Item.l32_at recG BIG BIG _ big_eq]
      rfl
    · refine ⟨a, m, by omega, by omega, by omega, by omega, by omega, .inl rfl, .inl rfl, ?_⟩
      unfold slices_symMergeCmpFunc_queue_Item.f slices_symMergeCmpFunc_queue_Item.b
      rw [w1, if_neg (by simp; omega), w2, if_neg (by simp; omega), half a b (by omega), if_neg (by simp; omega), slices_symMergeCmpFunc_queue_Item.l32_at recG BIG BIG _ big_eq]
      rfl
  have mono : ∀ c c', lo ≤ c → c ≤ c' → c' < hi → (fun c => !decide (qa D ((a + b) / 2 + m - 1 - c) < qa D c)) c' = true → (fun c => !decide (qa D ((a + b) / 2 + m - 1 - c) < qa D c)) c = true := by
    intro c c' h1 h2 h3 h4
    simp only [Bool.not_eq_true', decide_eq_false_iff_not] at h4 ⊢
    have e1 := U c c' (by omega) h2 (by omega)
    have e2 := V ((a + b) / 2 + m - 1 - c') ((a + b) / 2 + m - 1 - c) (by omega) (by omega) (by omega)
    omega
  obtain ⟨b1, b2, b3, b4⟩ := bs_ok _ lo hi mono BIG lo hi (by rw [BIG_eq]; omega) (Nat.le_refl _) hlohi (Nat.le_refl _) (fun c h1 h2 => by omega) (fun c h1 h2 => by omega)
  have h3 := sm33 recG D a m b (by omega) (by omega) (by omega) (by omega) (by omega) hi hhi2 hhi1 BIG lo hi (by rw [BIG_eq]; omega) hlohi (Nat.le_refl _) hlo2
  generalize hs' : bs (fun c => !decide (qa D ((a + b) / 2 + m - 1 - c) < qa D c)) BIG lo hi = s at *
  obtain ⟨u1, u2, hue, hu1l⟩ : ∃ u1 u2, u = u1 ++ u2 ∧ u1.length = s - a := ⟨u.take (s - a), u.drop (s - a), (List.take_append_drop _ _).symm, by simp; omega⟩
  obtain ⟨v1, v2, hve, hv1l⟩ : ∃ v1 v2, v = v1 ++ v2 ∧ v1.length = (a + b) / 2 - s := ⟨v.take ((a + b) / 2 - s), v.drop ((a + b) / 2 - s), (List.take_append_drop _ _).symm, by simp; omega⟩
  have hul : u1.length + u2.length = u.length := by rw [hue]; simp
  have hvl : v1.length + v2.length = v.length := by rw [hve]; simp
  have gu : ∀ i, i < u2.length → (u2.getD i (0, 0)).2 = qa D (s + i) := by
    intro i hi
    have e := hqu (s - a + i) (by omega)
    rw [show a + (s - a + i) = s + i by omega] at e
    rw [e, hue, gD_r _ _ _ _ (by omega)]
    congr 2; omega
  have gu1 : ∀ i, i < u1.length → (u1.getD i (0, 0)).2 = qa D (a + i) := by
    intro i hi
    rw [hqu i (by omega), hue, gD_l _ _ _ _ hi]
  have gv1 : ∀ i, i < v1.length → (v1.getD i (0, 0)).2 = qa D (m + i) := by
    intro i hi
    rw [hqv i (by omega), hve, gD_l _ _ _ _ hi]
  have gv2 : ∀ i, i < v2.length → (v2.getD i (0, 0)).2 = qa D (m + (v1.length + i)) := by
    intro i hi
    rw [hqv _ (by omega), hve, gD_r _ _ _ _ (by omega)]
    congr 2; omega
  have all0 : ∀ (l : List QT) (R : QT → Prop), (∀ j, j < l.length → R (l.getD j (0, 0))) → ∀ y ∈ l, R y := by
    intro l R h y hy
    exact drop_all R l 0 (fun j _ hj => h j hj) y (by simpa using hy)
  have A1 : ∀ y ∈ v1, ∀ x ∈ u2, y.2 < x.2 := by
    refine all0 v1 _ fun j hj => all0 u2 _ fun i hii => ?_
    rw [gv1 j hj, gu i hii]
    have hsh : s < hi := by omega
    have := b4 s (Nat.le_refl _) hsh
    simp only [Bool.not_eq_false', decide_eq_true_eq] at this
    have e1 := V (m + j) ((a + b) / 2 + m - 1 - s) (by omega) (by omega) (by omega)
    have e2 := U s (s + i) (by omega) (by omega) (by omega)
    omega
  have A2 : ∀ x ∈ u1, ∀ y ∈ v2, x.2 ≤ y.2 := by
    refine all0 u1 _ fun i hi => all0 v2 _ fun j hj => ?_
    rw [gu1 i hi, gv2 j hj]
    have hsl : lo < s := by omega
    have := b3 (s - 1) (by omega) (by omega)
    simp only [Bool.not_eq_true', decide_eq_false_iff_not] at this
    have e1 := U (a + i) (s - 1) (by omega) (by omega) (by omega)
    have e2 := V ((a + b) / 2 + m - 1 - (s - 1)) (m + (v1.length + j)) (by omega) (by omega) (by omega)
    omega
  have su' := su
  have sv' := sv
  rw [hue] at su'
  rw [hve] at sv'
  obtain ⟨su1, su2, _⟩ := List.pairwise_append.1 su'
  obtain ⟨sv1, sv2, _⟩ := List.pairwise_append.1 sv'
  -- the end
  have wend : Go.IntKind.wrap .i64 (Go.IntKind.wrap .i64 ((((a + b) / 2 : Nat) : Int) + (m : Int)) - (s : Int)) = (((a + b) / 2 + m - s : Nat) : Int) := by
    rw [wrap_small ((((a + b) / 2 : Nat) : Int) + (m : Int)) (by omega) (by omega), wrap_small _ (by omega) (by omega)]
    omega
  have G43 : ∀ w1 : List QT, w1.length = u1.length + v1.length → ∃ w2, Mg u2 v2 w2 ∧ slices_symMergeCmpFunc_queue_Item.l43 recG BIG D a m b BIG (((a + b) / 2 + m - s : Nat) : Int) (P ++ w1 ++ u2 ++ v2 ++ Q) = some (P ++ (w1 ++ w2) ++ Q) := by
    intro w1 hw1
    rw [slices_symMergeCmpFunc_queue_Item.l43_at recG BIG BIG _ big_eq]
    unfold slices_symMergeCmpFunc_queue_Item.b43
    rw [half a b (by omega)]
    by_cases c1 : u2.length = 0
    · have : u2 = [] := List.eq_nil_of_length_eq_zero c1
      subst this
      refine ⟨v2, Mg_left v2 sv2, ?_⟩
      rw [if_neg (by simp at hul ⊢; omega)]
      simp
    · by_cases c2 : v2.length = 0
      · have : v2 = [] := List.eq_nil_of_length_eq_zero c2
        subst this
        refine ⟨u2, Mg_right u2 su2, ?_⟩
        rw [if_pos (by simp; omega), if_neg (by simp at hvl ⊢; omega)]
        simp
      · rw [if_pos (by simp; omega), if_pos (by simp; omega)]
        obtain ⟨w2, e, hmg⟩ := hr (P ++ w1) u2 v2 Q (by omega) (by omega) (by omega) (by simp; omega) su2 sv2
        refine ⟨w2, hmg, ?_⟩
        have f1 : (((P ++ w1).length : Nat) : Int) = (((a + b) / 2 : Nat) : Int) := by simp; omega
        have f2 : (((P ++ w1).length + u2.length : Nat) : Int) = (((a + b) / 2 + m - s : Nat) : Int) := by simp; omega
        have f3 : (((P ++ w1).length + u2.length + v2.length : Nat) : Int) = (b : Int) := by simp; omega
        rw [f1, f2, f3] at e
        rw [e]
        simp only [veil_eq]
        simp
  have G41 : ∃ w, Mg u v w ∧ slices_symMergeCmpFunc_queue_Item.l41 recG BIG D a m b BIG (s : Int) (((a + b) / 2 + m - s : Nat) : Int) (P ++ u1 ++ v1 ++ u2 ++ v2 ++ Q) = some (P ++ w ++ Q) := by
    have key : ∃ w1, Mg u1 v1 w1 ∧ slices_symMergeCmpFunc_queue_Item.l41 recG BIG D a m b BIG (s : Int) (((a + b) / 2 + m - s : Nat) : Int) (P ++ u1 ++ v1 ++ u2 ++ v2 ++ Q) = slices_symMergeCmpFunc_queue_Item.l43 recG BIG D a m b BIG (((a + b) / 2 + m - s : Nat) : Int) (P ++ w1 ++ u2 ++ v2 ++ Q) := by
      rw [slices_symMergeCmpFunc_queue_Item.l41_at recG BIG BIG _ big_eq]
      unfold slices_symMergeCmpFunc_queue_Item.b41
      rw [half a b (by omega)]
      by_cases c1 : u1.length = 0
      · have : u1 = [] := List.eq_nil_of_length_eq_zero c1
        subst this
        refine ⟨v1, Mg_left v1 sv1, ?_⟩
        rw [if_neg (by simp at hu1l ⊢; omega)]
        simp
      · by_cases c2 : v1.length = 0
        · have : v1 = [] := List.eq_nil_of_length_eq_zero c2
          subst this
          refine ⟨u1, Mg_right u1 su1, ?_⟩
          rw [if_pos (by simp; omega), if_neg (by simp at hv1l ⊢; omega)]
          simp
        · rw [if_pos (by simp; omega), if_pos (by simp; omega)]
          obtain ⟨w1, e, hmg⟩ := hr P u1 v1 (u2 ++ v2 ++ Q) (by omega) (by omega) (by omega) (by simp; omega) su1 sv1
          refine ⟨w1, hmg, ?_⟩
          have f1 : ((P.length : Nat) : Int) = (a : Int) := by omega
          have f2 : ((P.length + u1.length : Nat) : Int) = (s : Int) := by omega
          have f3 : ((P.length + u1.length + v1.length : Nat) : Int) = (((a + b) / 2 : Nat) : Int) := by omega
          have f4 : P ++ u1 ++ v1 ++ (u2 ++ v2 ++ Q) = P ++ u1 ++ v1 ++ u2 ++ v2 ++ Q := by simp
          rw [f1, f2, f3, f4] at e
          rw [e]
          simp only [veil_eq]
          have f5 : P ++ w1 ++ (u2 ++ v2 ++ Q) = P ++ w1 ++ u2 ++ v2 ++ Q := by simp
          rw [f5]
    obtain ⟨w1, hm1, e1⟩ := key
    obtain ⟨w2, hm2, e2⟩ := G43 w1 hm1.2.2
    refine ⟨w1 ++ w2, ?_, e1.trans e2⟩
    rw [hue, hve]
    exact Mg_two u1 u2 v1 v2 w1 w2 su' sv' A1 A2 hm1 hm2
  obtain ⟨w, hmg, hw⟩ := G41
  refine ⟨w, ?_, hmg⟩
  show slices_symMergeCmpFunc_queue_Item.f recG BIG D a m b = _
  rw [hstart, h3, slices_symMergeCmpFunc_queue_Item.l33_at recG BIG 1 0 rfl]
  unfold slices_symMergeCmpFunc_queue_Item.b33
  rw [if_neg (by simp), half a b (by omega), wend]
  have eD : D = P ++ u1 ++ u2 ++ v1 ++ v2 ++ Q := by rw [← hD, hue, hve]; simp
  by_cases c1 : u2.length = 0
  · have : u2 = [] := List.eq_nil_of_length_eq_zero c1
    rw [if_neg (by simp; omega)]
    refine Eq.trans ?_ hw
    congr 1
    rw [eD, this]; simp
  · by_cases c2 : v1.length = 0
    · have : v1 = [] := List.eq_nil_of_length_eq_zero c2
      rw [if_pos (by simp; omega), if_neg (by simp; omega)]
      refine Eq.trans ?_ hw
      congr 1
      rw [eD, this]; simp
    · rw [if_pos (by simp; omega), if_pos (by simp; omega)]
      have e := slices_rotateCmpFunc_queue_Item.pure (P ++ u1) u2 v1 (v2 ++ Q) (s : Int) (m : Int) (((a + b) / 2 + m - s : Nat) : Int) (by omega) (by omega) (by simp; omega) (by simp; omega) (by simp; omega) (by simp; omega)
      have f1 : P ++ u1 ++ u2 ++ v1 ++ (v2 ++ Q) = D := by rw [eD]; simp
      rw [f1] at e
      rw [e]
      simp only [veil_eq]
      have f2 : P ++ u1 ++ v1 ++ u2 ++ (v2 ++ Q) = P ++ u1 ++ v1 ++ u2 ++ v2 ++ Q := by simp
      rw [f2]
      exact hw
theorem sm_it : ∀ k, MgOk (slices_symMergeCmpFunc_queue_Item.it k) k
  | 0 => fun P u v Q hu hv hk _ _ _ => absurd hk (by omega)
  | k + 1 => sm_step (slices_symMergeCmpFunc_queue_Item.it k) k (sm_it k)
noncomputable def queue_Queue_Drop_E : Env := ⟨th, gam [(42, s_slices_DeleteFunc_queue_Item_queue_Item), (43, s_queue_Queue_Drop_c1)], fun i => ⟨[], [], []⟩⟩
noncomputable def queue_Queue_Drop.k (rs : List AV) (os : List Den.Obj) : Option (List (Int × Int)) :=
  match rs, os with
  | [], [.box [.row 2], .gone, .row 47 (.pair (.int .i64) (.int .i64)) r0 false] => some r0
  | _, _ => none
noncomputable def queue_Queue_Drop.b (l : List (Int × Int)) (id : Int) : Option (List (Int × Int)) :=
  (match (veil (slices_DeleteFunc_queue_Item_queue_Item_drop.f BIG l id)) with | none => none | some y0 => some (y0.2))
noncomputable def queue_Queue_Drop.f (fuel : Nat) (l : List (Int × Int)) (id : Int) : Option (List (Int × Int)) := queue_Queue_Drop.b l id
theorem queue_Queue_Drop.eq (fuel : Nat) (l : List (Int × Int)) (id : Int) : (denF queue_Queue_Drop_E loopN fuel Try.f19 [.pb [.own (some 0) [] 0 47 (.pair (.int .i64) (.int .i64)) true, .kill 1]] [.ptr 0 0, .d (.int .i64) id] [.box [.row 1], .row 47 (.pair (.int .i64) (.int .i64)) l false] queue_Queue_Drop.k) = queue_Queue_Drop.f fuel l id := by
  kernel_rfl
noncomputable def s_queue_Queue_Drop : Den.Sum := ⟨[.pb [.own none [] 0 47 (.pair (.int .i64) (.int .i64)) false], .raw], fun args objs κ => match args, objs with
  | [.ptr 0 0, .d (.int .i64) id], [.box [.row 1], .row 47 (.pair (.int .i64) (.int .i64)) l false] => (match veil (queue_Queue_Drop.f BIG l id) with | none => none | some y => κ [] [.box [.row 2], .gone, .row 47 (.pair (.int .i64) (.int .i64)) y false])
  | _, _ => none⟩
theorem s_queue_Queue_Drop_det : SumDet s_queue_Queue_Drop := fun avs objs R κ => by
  show s_queue_Queue_Drop.run avs objs (two κ) = (s_queue_Queue_Drop.run avs objs (two some)).bind κ
  unfold s_queue_Queue_Drop
  simp only [veil_eq]
  split
  · split <;> rfl
  · rfl
theorem s_queue_Queue_Drop_ok : SumOk Try.prog 19 s_queue_Queue_Drop := by
  have hE : EnvOk Try.prog queue_Queue_Drop_E := env_ok (l := [(42, s_slices_DeleteFunc_queue_Item_queue_Item), (43, s_queue_Queue_Drop_c1)]) th_ok any_ok ⟨⟨s_slices_DeleteFunc_queue_Item_queue_Item_ok, s_slices_DeleteFunc_queue_Item_queue_Item_det⟩, ⟨s_queue_Queue_Drop_c1_ok, s_queue_Queue_Drop_c1_det⟩, trivial⟩ _
  refine sum_ok hE Try.func19 rfl (by kernel_rfl) s_queue_Queue_Drop [.pb [.own (some 0) [] 0 47 (.pair (.int .i64) (.int .i64)) true, .kill 1]] queue_Queue_Drop.k ?_
  intro R avs objs κ r h
  unfold s_queue_Queue_Drop at h
  simp only [veil_eq] at h
  split at h
  · rename_i id l
    split at h
    · cases h
    · rename_i y hy
      refine ⟨BIG, _, _, _, (queue_Queue_Drop.eq BIG l id).trans hy, ?_, h⟩
      intro rs ros hk
      unfold queue_Queue_Drop.k at hk
      split at hk
      · first | (cases hk; exact ⟨rfl, rfl⟩) | (have e := Option.some.inj hk; rw [← e]; exact ⟨rfl, rfl⟩)
      · cases hk
  · cases h
noncomputable def queue_Queue_All_E : Env := ⟨th, gam [(47, s_clone47), (48, s_slices_Reverse_queue_Item_queue_Item), (49, s_slices_SortStableFunc_queue_Item_queue_Item), (50, s_queue_Queue_All_c1)], fun i => ⟨[], [], []⟩⟩
noncomputable def queue_Queue_All.k (rs : List AV) (os : List Den.Obj) : Option ((List (Int × Int)) × (List (Int × Int))) :=
  match rs, os with
  | [.row 3], [.box [.row 2], .gone, .row 47 (.pair (.int .i64) (.int .i64)) r0 false, .row 47 (.pair (.int .i64) (.int .i64)) r1 false] => some (r0, r1)
  | _, _ => none
noncomputable def queue_Queue_All.b (l : List (Int × Int)) : Option ((List (Int × Int)) × (List (Int × Int))) :=
  (if (((47 : Nat) = (47 : Nat)) ∧ (((List.length l) * (16 : Nat)) ≤ (140737488355328 : Nat))) then (match (veil (slices_Reverse_queue_Item_queue_Item.f BIG l)) with | none => none | some y0 => (match (veil (slices_SortStableFunc_queue_Item_queue_Item.f BIG y0)) with | none => none | some y1 => some (l, y1))) else none)
noncomputable def queue_Queue_All.f (fuel : Nat) (l : List (Int × Int)) : Option ((List (Int × Int)) × (List (Int × Int))) := queue_Queue_All.b l
theorem queue_Queue_All.eq (fuel : Nat) (l : List (Int × Int)) : (denF queue_Queue_All_E loopN fuel Try.f22 [.own 47 (.pair (.int .i64) (.int .i64)), .pb [.own (some 0) [] 0 47 (.pair (.int .i64) (.int .i64)) true, .kill 1]] [.ptr 0 0] [.box [.row 1], .row 47 (.pair (.int .i64) (.int .i64)) l false] queue_Queue_All.k) = queue_Queue_All.f fuel l := by
  kernel_rfl
noncomputable def s_queue_Queue_All : Den.Sum := ⟨[.pb [.own none [] 0 47 (.pair (.int .i64) (.int .i64)) false]], fun args objs κ => match args, objs with
  | [.ptr 0 0], [.box [.row 1], .row 47 (.pair (.int .i64) (.int .i64)) l false] => (match veil (queue_Queue_All.f BIG l) with | none => none | some y => κ [.row 3] [.box [.row 2], .gone, .row 47 (.pair (.int .i64) (.int .i64)) y.1 false, .row 47 (.pair (.int .i64) (.int .i64)) y.2 false])
  | _, _ => none⟩
theorem s_queue_Queue_All_det : SumDet s_queue_Queue_All := fun avs objs R κ => by
  show s_queue_Queue_All.run avs objs (two κ) = (s_queue_Queue_All.run avs objs (two some)).bind κ
  unfold s_queue_Queue_All
  simp only [veil_eq]
  split
  · split <;> rfl
  · rfl
theorem s_queue_Queue_All_ok : SumOk Try.prog 22 s_queue_Queue_All := by
  have hE : EnvOk Try.prog queue_Queue_All_E := env_ok (l := [(47, s_clone47), (48, s_slices_Reverse_queue_Item_queue_Item), (49, s_slices_SortStableFunc_queue_Item_queue_Item), (50, s_queue_Queue_All_c1)]) th_ok any_ok ⟨⟨s_clone47_ok, s_clone47_det⟩, ⟨s_slices_Reverse_queue_Item_queue_Item_ok, s_slices_Reverse_queue_Item_queue_Item_det⟩, ⟨s_slices_SortStableFunc_queue_Item_queue_Item_ok, s_slices_SortStableFunc_queue_Item_queue_Item_det⟩, ⟨s_queue_Queue_All_c1_ok, s_queue_Queue_All_c1_det⟩, trivial⟩ _
  refine sum_ok hE Try.func22 rfl (by kernel_rfl) s_queue_Queue_All [.own 47 (.pair (.int .i64) (.int .i64)), .pb [.own (some 0) [] 0 47 (.pair (.int .i64) (.int .i64)) true, .kill 1]] queue_Queue_All.k ?_
  intro R avs objs κ r h
  unfold s_queue_Queue_All at h
  simp only [veil_eq] at h
  split at h
  · rename_i l
    split at h
    · cases h
    · rename_i y hy
      refine ⟨BIG, _, _, _, (queue_Queue_All.eq BIG l).trans hy, ?_, h⟩
      intro rs ros hk
      unfold queue_Queue_All.k at hk
      split at hk
      · first | (cases hk; exact ⟨rfl, rfl⟩) | (have e := Option.some.inj hk; rw [← e]; exact ⟨rfl, rfl⟩)
      · cases hk
  · cases h
noncomputable def queue_Queue_Put_E : Env := ⟨th, gam [(19, s_queue_Queue_Drop)], fun i => ⟨[], [], []⟩⟩
noncomputable def queue_Queue_Put.k (rs : List AV) (os : List Den.Obj) : Option (List (Int × Int)) :=
  match rs, os with
  | [], [.box [.row 2], .gone, .row 47 (.pair (.int .i64) (.int .i64)) r0 false] => some r0
  | _, _ => none
noncomputable def queue_Queue_Put.b (l : List (Int × Int)) (id : Int) : Option (List (Int × Int)) :=
  (match (veil (queue_Queue_Drop.f BIG l id)) with | none => none | some y0 => (if ((((List.length y0) + (List.length ((id, 0) :: ([] : List (Int × Int))))) * (16 : Nat)) ≤ lim) then some ((y0 ++ ((id, 0) :: ([] : List (Int × Int))))) else none))
noncomputable def queue_Queue_Put.f (fuel : Nat) (l : List (Int × Int)) (id : Int) : Option (List (Int × Int)) := queue_Queue_Put.b l id
theorem queue_Queue_Put.eq (fuel : Nat) (l : List (Int × Int)) (id : Int) : (denF queue_Queue_Put_E loopN fuel Try.f17 [.pb [.own (some 0) [] 0 47 (.pair (.int .i64) (.int .i64)) true, .kill 1]] [.ptr 0 0, .d (.int .i64) id] [.box [.row 1], .row 47 (.pair (.int .i64) (.int .i64)) l false] queue_Queue_Put.k) = queue_Queue_Put.f fuel l id := by
  kernel_rfl
noncomputable def s_queue_Queue_Put : Den.Sum := ⟨[.pb [.own none [] 0 47 (.pair (.int .i64) (.int .i64)) false], .raw], fun args objs κ => match args, objs with
  | [.ptr 0 0, .d (.int .i64) id], [.box [.row 1], .row 47 (.pair (.int .i64) (.int .i64)) l false] => (match veil (queue_Queue_Put.f BIG l id) with | none => none | some y => κ [] [.box [.row 2], .gone, .row 47 (.pair (.int .i64) (.int .i64)) y false])
  | _, _ => none⟩
theorem s_queue_Queue_Put_det : SumDet s_queue_Queue_Put := fun avs objs R κ => by
  show s_queue_Queue_Put.run avs objs (two κ) = (s_queue_Queue_Put.run avs objs (two some)).bind κ
  unfold s_queue_Queue_Put
  simp only [veil_eq]
  split
  · split <;> rfl
  · rfl
theorem s_queue_Queue_Put_ok : SumOk Try.prog 17 s_queue_Queue_Put := by
  have hE : EnvOk Try.prog queue_Queue_Put_E := env_ok (l := [(19, s_queue_Queue_Drop)]) th_ok any_ok ⟨⟨s_queue_Queue_Drop_ok, s_queue_Queue_Drop_det⟩, trivial⟩ _
  refine sum_ok hE Try.func17 rfl (by kernel_rfl) s_queue_Queue_Put [.pb [.own (some 0) [] 0 47 (.pair (.int .i64) (.int .i64)) true, .kill 1]] queue_Queue_Put.k ?_
  intro R avs objs κ r h
  unfold s_queue_Queue_Put at h
  simp only [veil_eq] at h
  split at h
  · rename_i id l
    split at h
    · cases h
    · rename_i y hy
      refine ⟨BIG, _, _, _, (queue_Queue_Put.eq BIG l id).trans hy, ?_, h⟩
      intro rs ros hk
      unfold queue_Queue_Put.k at hk
      split at hk
      · first | (cases hk; exact ⟨rfl, rfl⟩) | (have e := Option.some.inj hk; rw [← e]; exact ⟨rfl, rfl⟩)
      · cases hk
  · cases h
noncomputable def queue_Queue_Take_E : Env := ⟨th, gam [(22, s_queue_Queue_All), (42, s_slices_DeleteFunc_queue_Item_queue_Item), (45, s_slices_Contains_int_int), (46, s_queue_Queue_Take_c1)], fun i => if i = 3 then ⟨[0, 1, 3, 6, 9, 14, 15, 16], [(1576, 3, (.int .i64))], []⟩ else if i = 12 then ⟨[0, 6, 9, 42, 43], [], []⟩ else ⟨[], [], []⟩⟩
noncomputable def queue_Queue_Take.k (rs : List AV) (os : List Den.Obj) : Option ((List (Int × Int)) × (List Int)) :=
  match rs, os with
  | [.row 3], [.box [.row 2], .gone, .row 47 (.pair (.int .i64) (.int .i64)) r0 false, .row 3 (.int .i64) r1 false] => some (r0, r1)
  | _, _ => none
noncomputable def queue_Queue_Take.s12 (l : List (Int × Int)) (n : Int) (budget : Int) (but : List Int) (x8 : Int) (x9 : Int) (x10 : (List (Int × Int))) (x11 : (List Int)) : St := ⟨[.ptr 0 0, .dead, .dead, .dead, .dead, .dead, .ptr 65 0, .dead, .dead, .ptr 66 0, .dead, .dead, .dead, .dead, .dead, .dead, .dead, .dead, .dead, .dead, .dead, .dead, .dead, .dead, .dead, .dead, .dead, .dead, .dead, .dead, .dead, .dead, .dead, .dead, .dead, .dead, .dead, .dead, .dead, .dead, .dead, .dead, .d (.int .i64) x8, .d (.int .i64) x9, .dead, .dead, .dead, .dead, .dead, .dead, .dead, .dead, .dead, .dead, .dead, .dead, .dead, .dead, .dead, .dead, .dead, .dead, .dead, .dead, .dead, .dead, .dead, .dead, .dead, .dead, .dead, .dead, .dead, .dead, .dead, .dead, .dead, .dead], ofL [(0, .box [.row 64]), (1, .gone), (64, .row 47 (.pair (.int .i64) (.int .i64)) x10 false), (65, .box [.d (.int .i64) (budget)]), (66, .box [.row 67]), (67, .row 3 (.int .i64) x11 false)], 2⟩
noncomputable def queue_Queue_Take.b12 (l : List (Int × Int)) (n : Int) (budget : Int) (but : List Int) (A12 : Int → Int → (List (Int × Int)) → (List Int) → Option ((List (Int × Int)) × (List Int))) (x8 : Int) (x9 : Int) (x10 : (List (Int × Int))) (x11 : (List Int)) : Option ((List (Int × Int)) × (List Int)) :=
  (if (decide (x9 < x8)) then (match (idx x10 x9) with | none => none | some y12 => (match (idx x10 x9) with | none => none | some y13 => (match (veil (slices_Contains_int_int_row.f BIG x11 y13.1)) with | none => none | some y14 => (if y14.1 then (match (idx x10 x9) with | none => none | some y15 => (match (idx x10 x9) with | none => none | some y16 => (match (idx x10 x9) with | none => none | some y17 => (match (idx x10 x9) with | none => none | some y18 => A12 x8 (Go.IntKind.wrap .i64 (x9 + (1 : Int))) (List.set x10 (Int.toNat x9) (y18.1, (Go.IntKind.wrap .i64 (y16.2 + (1 : Int))))) y14.2)))) else A12 x8 (Go.IntKind.wrap .i64 (x9 + (1 : Int))) x10 y14.2)))) else (match (veil (slices_DeleteFunc_queue_Item_queue_Item_take.f BIG x10 x11 budget)) with | none => none | some y19 => some (y19.2.2, y19.1)))
noncomputable def queue_Queue_Take.l12 (fuel : Nat) (l : List (Int × Int)) (n : Int) (budget : Int) (but : List Int) : Nat → Int → Int → (List (Int × Int)) → (List Int) → Option ((List (Int × Int)) × (List Int))
  | 0, _, _, _, _ => none
  | k + 1, x8, x9, x10, x11 => queue_Queue_Take.b12 l n budget but (queue_Queue_Take.l12 fuel l n budget but k) x8 x9 x10 x11
noncomputable def queue_Queue_Take.s3 (l : List (Int × Int)) (n : Int) (budget : Int) (but : List Int) (x1 : Int) (x2 : Int) (x3 : (List (Int × Int))) (x4 : (List Int)) (x5 : (List (Int × Int))) : St := ⟨[.ptr 0 0, .d (.int .i64) (n), .dead, .d (.sl (.int .i64)) (but), .dead, .dead, .ptr 65 0, .dead, .dead, .ptr 66 0, .dead, .dead, .dead, .dead, .row 68, .d (.int .i64) x1, .d (.int .i64) x2, .dead, .dead, .dead, .dead, .dead, .dead, .dead, .dead, .dead, .dead, .dead, .dead, .dead, .dead, .dead, .dead, .dead, .dead, .dead, .dead, .dead, .dead, .dead, .dead, .dead, .dead, .dead, .dead, .dead, .dead, .dead, .dead, .dead, .dead, .dead, .dead, .dead, .dead, .dead, .dead, .dead, .dead, .dead, .dead, .dead, .dead, .dead, .dead, .dead, .dead, .dead, .dead, .dead, .dead, .dead, .dead, .dead, .dead, .dead, .dead, .dead], ofL [(0, .box [.row 64]), (1, .gone), (64, .row 47 (.pair (.int .i64) (.int .i64)) x3 false), (65, .box [.d (.int .i64) (budget)]), (66, .box [.row 67]), (67, .row 3 (.int .i64) x4 false), (68, .row 47 (.pair (.int .i64) (.int .i64)) x5 false)], 2⟩
noncomputable def queue_Queue_Take.b3 (l : List (Int × Int)) (n : Int) (budget : Int) (but : List Int) (A3 : Int → Int → (List (Int × Int)) → (List Int) → (List (Int × Int)) → Option ((List (Int × Int)) × (List Int))) (E12 : Int → Int → (List (Int × Int)) → (List Int) → Option ((List (Int × Int)) × (List Int))) (x1 : Int) (x2 : Int) (x3 : (List (Int × Int))) (x4 : (List Int)) (x5 : (List (Int × Int))) : Option ((List (Int × Int)) × (List Int)) :=
  (if (decide (x2 < x1)) then (match (idx x5 x2) with | none => none | some y6 => (match (idx x5 x2) with | none => none | some y7 => (if (decide (((((List.length x4)) : Nat) : Int) ≥ n)) then (if (((((List.length x4)) : Nat) : Int) == (0 : Int)) then some (x3, ([] : List Int)) else E12 ((((List.length x3)) : Nat) : Int) (0 : Int) x3 x4) else (match (veil (slices_Contains_int_int_dat.f BIG but y7.1)) with | none => none | some y20 => (if (!y20) then (if ((((List.length x4) + (List.length (y7.1 :: ([] : List Int)))) * (8 : Nat)) ≤ lim) then A3 x1 (Go.IntKind.wrap .i64 (x2 + (1 : Int))) x3 (x4 ++ (y7.1 :: ([] : List Int))) x5 else none) else A3 x1 (Go.IntKind.wrap .i64 (x2 + (1 : Int))) x3 x4 x5))))) else (if (((((List.length x4)) : Nat) : Int) == (0 : Int)) then some (x3, ([] : List Int)) else E12 ((((List.length x3)) : Nat) : Int) (0 : Int) x3 x4))
noncomputable def queue_Queue_Take.l3 (fuel : Nat) (l : List (Int × Int)) (n : Int) (budget : Int) (but : List Int) : Nat → Int → Int → (List (Int × Int)) → (List Int) → (List (Int × Int)) → Option ((List (Int × Int)) × (List Int))
  | 0, _, _, _, _, _ => none
  | k + 1, x1, x2, x3, x4, x5 => queue_Queue_Take.b3 l n budget but (queue_Queue_Take.l3 fuel l n budget but k) (queue_Queue_Take.l12 fuel l n budget but fuel) x1 x2 x3 x4 x5
noncomputable def queue_Queue_Take.b (l : List (Int × Int)) (n : Int) (budget : Int) (but : List Int) (E3 : Int → Int → (List (Int × Int)) → (List Int) → (List (Int × Int)) → Option ((List (Int × Int)) × (List Int))) : Option ((List (Int × Int)) × (List Int)) :=
  (match (veil (queue_Queue_All.f BIG l)) with | none => none | some y0 => E3 ((((List.length y0.2)) : Nat) : Int) (0 : Int) y0.1 ([] : List Int) y0.2)
noncomputable def queue_Queue_Take.f (fuel : Nat) (l : List (Int × Int)) (n : Int) (budget : Int) (but : List Int) : Option ((List (Int × Int)) × (List Int)) := queue_Queue_Take.b l n budget but (queue_Queue_Take.l3 fuel l n budget but fuel)
theorem queue_Queue_Take.l12_eq (fuel : Nat) (l : List (Int × Int)) (n : Int) (budget : Int) (but : List Int) : ∀ (k : Nat) (x8 : Int) (x9 : Int) (x10 : (List (Int × Int))) (x11 : (List Int)), lp queue_Queue_Take_E fuel Try.f21 [.own 3 (.int .i64), .pb [.own (some 0) [] 0 47 (.pair (.int .i64) (.int .i64)) true, .kill 1]] 2 queue_Queue_Take.k 12 [] k (queue_Queue_Take.s12 l n budget but x8 x9 x10 x11) = queue_Queue_Take.l12 fuel l n budget but k x8 x9 x10 x11 := by
  intro k
  induction k with
  | zero => intro x8 x9 x10 x11; rfl
  | succ k ih =>
    intro x8 x9 x10 x11
    have h : lp queue_Queue_Take_E fuel Try.f21 [.own 3 (.int .i64), .pb [.own (some 0) [] 0 47 (.pair (.int .i64) (.int .i64)) true, .kill 1]] 2 queue_Queue_Take.k 12 [] (k + 1) (queue_Queue_Take.s12 l n budget but x8 x9 x10 x11) = queue_Queue_Take.b12 l n budget but (fun x8 x9 x10 x11 => lp queue_Queue_Take_E fuel Try.f21 [.own 3 (.int .i64), .pb [.own (some 0) [] 0 47 (.pair (.int .i64) (.int .i64)) true, .kill 1]] 2 queue_Queue_Take.k 12 [] k (queue_Queue_Take.s12 l n budget but x8 x9 x10 x11)) x8 x9 x10 x11 := by kernel_rfl
    rw [h]
    have e12 : (fun x8 x9 x10 x11 => lp queue_Queue_Take_E fuel Try.f21 [.own 3 (.int .i64), .pb [.own (some 0) [] 0 47 (.pair (.int .i64) (.int .i64)) true, .kill 1]] 2 queue_Queue_Take.k 12 [] k (queue_Queue_Take.s12 l n budget but x8 x9 x10 x11)) = queue_Queue_Take.l12 fuel l n budget but k := (funext fun x8 => (funext fun x9 => (funext fun x10 => (funext fun x11 => ih x8 x9 x10 x11))))
    rw [e12]
    rfl
theorem queue_Queue_Take.l3_eq (fuel : Nat) (l : List (Int × Int)) (n : Int) (budget : Int) (but : List Int) : ∀ (k : Nat) (x1 : Int) (x2 : Int) (x3 : (List (Int × Int))) (x4 : (List Int)) (x5 : (List (Int × Int))), lp queue_Queue_Take_E fuel Try.f21 [.own 3 (.int .i64), .pb [.own (some 0) [] 0 47 (.pair (.int .i64) (.int .i64)) true, .kill 1]] 2 queue_Queue_Take.k 3 [] k (queue_Queue_Take.s3 l n budget but x1 x2 x3 x4 x5) = queue_Queue_Take.l3 fuel l n budget but k x1 x2 x3 x4 x5 := by
  intro k
  induction k with
  | zero => intro x1 x2 x3 x4 x5; rfl
  | succ k ih =>
    intro x1 x2 x3 x4 x5
    have h : lp queue_Queue_Take_E fuel Try.f21 [.own 3 (.int .i64), .pb [.own (some 0) [] 0 47 (.pair (.int .i64) (.int .i64)) true, .kill 1]] 2 queue_Queue_Take.k 3 [] (k + 1) (queue_Queue_Take.s3 l n budget but x1 x2 x3 x4 x5) = queue_Queue_Take.b3 l n budget but (fun x1 x2 x3 x4 x5 => lp queue_Queue_Take_E fuel Try.f21 [.own 3 (.int .i64), .pb [.own (some 0) [] 0 47 (.pair (.int .i64) (.int .i64)) true, .kill 1]] 2 queue_Queue_Take.k 3 [] k (queue_Queue_Take.s3 l n budget but x1 x2 x3 x4 x5)) (fun x8 x9 x10 x11 => lp queue_Queue_Take_E fuel Try.f21 [.own 3 (.int .i64), .pb [.own (some 0) [] 0 47 (.pair (.int .i64) (.int .i64)) true, .kill 1]] 2 queue_Queue_Take.k 12 [] fuel (queue_Queue_Take.s12 l n budget but x8 x9 x10 x11)) x1 x2 x3 x4 x5 := by kernel_rfl
    rw [h]
    have e3 : (fun x1 x2 x3 x4 x5 => lp queue_Queue_Take_E fuel Try.f21 [.own 3 (.int .i64), .pb [.own (some 0) [] 0 47 (.pair (.int .i64) (.int .i64)) true, .kill 1]] 2 queue_Queue_Take.k 3 [] k (queue_Queue_Take.s3 l n budget but x1 x2 x3 x4 x5)) = queue_Queue_Take.l3 fuel l n budget but k := (funext fun x1 => (funext fun x2 => (funext fun x3 => (funext fun x4 => (funext fun x5 => ih x1 x2 x3 x4 x5)))))
    rw [e3]
    have e12 : (fun x8 x9 x10 x11 => lp queue_Queue_Take_E fuel Try.f21 [.own 3 (.int .i64), .pb [.own (some 0) [] 0 47 (.pair (.int .i64) (.int .i64)) true, .kill 1]] 2 queue_Queue_Take.k 12 [] fuel (queue_Queue_Take.s12 l n budget but x8 x9 x10 x11)) = queue_Queue_Take.l12 fuel l n budget but fuel := (funext fun x8 => (funext fun x9 => (funext fun x10 => (funext fun x11 => queue_Queue_Take.l12_eq fuel l n budget but fuel x8 x9 x10 x11))))
    rw [e12]
    rfl
theorem queue_Queue_Take.eq (fuel : Nat) (l : List (Int × Int)) (n : Int) (budget : Int) (but : List Int) : (denF queue_Queue_Take_E loopN fuel Try.f21 [.own 3 (.int .i64), .pb [.own (some 0) [] 0 47 (.pair (.int .i64) (.int .i64)) true, .kill 1]] [.ptr 0 0, .d (.int .i64) n, .d (.int .i64) budget, .d (.sl (.int .i64)) but] [.box [.row 1], .row 47 (.pair (.int .i64) (.int .i64)) l false] queue_Queue_Take.k) = queue_Queue_Take.f fuel l n budget but := by
  have h : (denF queue_Queue_Take_E loopN fuel Try.f21 [.own 3 (.int .i64), .pb [.own (some 0) [] 0 47 (.pair (.int .i64) (.int .i64)) true, .kill 1]] [.ptr 0 0, .d (.int .i64) n, .d (.int .i64) budget, .d (.sl (.int .i64)) but] [.box [.row 1], .row 47 (.pair (.int .i64) (.int .i64)) l false] queue_Queue_Take.k) = queue_Queue_Take.b l n budget but (fun x1 x2 x3 x4 x5 => lp queue_Queue_Take_E fuel Try.f21 [.own 3 (.int .i64), .pb [.own (some 0) [] 0 47 (.pair (.int .i64) (.int .i64)) true, .kill 1]] 2 queue_Queue_Take.k 3 [] fuel (queue_Queue_Take.s3 l n budget but x1 x2 x3 x4 x5)) := by kernel_rfl
  rw [h]
  have e3 : (fun x1 x2 x3 x4 x5 => lp queue_Queue_Take_E fuel Try.f21 [.own 3 (.int .i64), .pb [.own (some 0) [] 0 47 (.pair (.int .i64) (.int .i64)) true, .kill 1]] 2 queue_Queue_Take.k 3 [] fuel (queue_Queue_Take.s3 l n budget but x1 x2 x3 x4 x5)) = queue_Queue_Take.l3 fuel l n budget but fuel := (funext fun x1 => (funext fun x2 => (funext fun x3 => (funext fun x4 => (funext fun x5 => queue_Queue_Take.l3_eq fuel l n budget but fuel x1 x2 x3 x4 x5)))))
  rw [e3]
  rfl
theorem queue_Queue_Take.l12_at (fuel nN kK : Nat) (hN : nN = kK + 1) (l : List (Int × Int)) (n : Int) (budget : Int) (but : List Int) (x8 : Int) (x9 : Int) (x10 : (List (Int × Int))) (x11 : (List Int)) : queue_Queue_Take.l12 fuel l n budget but nN x8 x9 x10 x11 = queue_Queue_Take.b12 l n budget but (queue_Queue_Take.l12 fuel l n budget but kK) x8 x9 x10 x11 := by
  subst hN
  rfl
theorem queue_Queue_Take.l3_at (fuel nN kK : Nat) (hN : nN = kK + 1) (l : List (Int × Int)) (n : Int) (budget : Int) (but : List Int) (x1 : Int) (x2 : Int) (x3 : (List (Int × Int))) (x4 : (List Int)) (x5 : (List (Int × Int))) : queue_Queue_Take.l3 fuel l n budget but nN x1 x2 x3 x4 x5 = queue_Queue_Take.b3 l n budget but (queue_Queue_Take.l3 fuel l n budget but kK) (queue_Queue_Take.l12 fuel l n budget but fuel) x1 x2 x3 x4 x5 := by
  subst hN
  rfl
noncomputable def s_queue_Queue_Take : Den.Sum := ⟨[.pb [.own none [] 0 47 (.pair (.int .i64) (.int .i64)) false], .raw, .raw, .dat (.sl (.int .i64)) false], fun args objs κ => match args, objs with
  | [.ptr 0 0, .d (.int .i64) n, .d (.int .i64) budget, .d (.sl (.int .i64)) but], [.box [.row 1], .row 47 (.pair (.int .i64) (.int .i64)) l false] => (match veil (queue_Queue_Take.f BIG l n budget but) with | none => none | some y => κ [.row 3] [.box [.row 2], .gone, .row 47 (.pair (.int .i64) (.int .i64)) y.1 false, .row 3 (.int .i64) y.2 false])
  | _, _ => none⟩
theorem s_queue_Queue_Take_det : SumDet s_queue_Queue_Take := fun avs objs R κ => by
  show s_queue_Queue_Take.run avs objs (two κ) = (s_queue_Queue_Take.run avs objs (two some)).bind κ
  unfold s_queue_Queue_Take
  simp only [veil_eq]
  split
  · split <;> rfl
  · rfl
theorem s_queue_Queue_Take_ok : SumOk Try.prog 21 s_queue_Queue_Take := by
  have hE : EnvOk Try.prog queue_Queue_Take_E := env_ok (l := [(22, s_queue_Queue_All), (42, s_slices_DeleteFunc_queue_Item_queue_Item), (45, s_slices_Contains_int_int), (46, s_queue_Queue_Take_c1)]) th_ok any_ok ⟨⟨s_queue_Queue_All_ok, s_queue_Queue_All_det⟩, ⟨s_slices_DeleteFunc_queue_Item_queue_Item_ok, s_slices_DeleteFunc_queue_Item_queue_Item_det⟩, ⟨s_slices_Contains_int_int_ok, s_slices_Contains_int_int_det⟩, ⟨s_queue_Queue_Take_c1_ok, s_queue_Queue_Take_c1_det⟩, trivial⟩ _
  refine sum_ok hE Try.func21 rfl (by kernel_rfl) s_queue_Queue_Take [.own 3 (.int .i64), .pb [.own (some 0) [] 0 47 (.pair (.int .i64) (.int .i64)) true, .kill 1]] queue_Queue_Take.k ?_
  intro R avs objs κ r h
  unfold s_queue_Queue_Take at h
  simp only [veil_eq] at h
  split at h
  · rename_i n budget but l
    split at h
    · cases h
    · rename_i y hy
      refine ⟨BIG, _, _, _, (queue_Queue_Take.eq BIG l n budget but).trans hy, ?_, h⟩
      intro rs ros hk
      unfold queue_Queue_Take.k at hk
      split at hk
      · first | (cases hk; exact ⟨rfl, rfl⟩) | (have e := Option.some.inj hk; rw [← e]; exact ⟨rfl, rfl⟩)
      · cases hk
  · cases h
noncomputable def law22_awake_E : Env := ⟨th, gam [(16, s_queue_New), (17, s_queue_Queue_Put), (21, s_queue_Queue_Take), (22, s_queue_Queue_All), (23, s_queue_Budget)], fun i => ⟨[], [], []⟩⟩
noncomputable def law22_awake.k (rs : List AV) (os : List Den.Obj) : Option Bool :=
  match rs, os with
  | [.d .bool r0], [] => some r0
  | _, _ => none
noncomputable def law22_awake.b (u : Unit) : Option Bool :=
  (match (veil (queue_New.f BIG ())) with | none => none | some y0 => (match (veil (queue_Queue_Put.f BIG ([] : List (Int × Int)) (1 : Int))) with | none => none | some y1 => (match (veil (queue_Queue_Put.f BIG y1 (2 : Int))) with | none => none | some y2 => (match (veil (queue_Queue_Take.f BIG y2 (1 : Int) (2 : Int) ([] : List Int))) with | none => none | some y3 => (match (veil (queue_Queue_Take.f BIG y3.1 (2 : Int) (2 : Int) ([] : List Int))) with | none => none | some y4 => (if (((((List.length y3.2)) : Nat) : Int) == (1 : Int)) then (match (idx y3.2 (0 : Int)) with | none => none | some y5 => (match (idx y3.2 (0 : Int)) with | none => none | some y6 => (if (y6 == (2 : Int)) then (if (((((List.length y4.2)) : Nat) : Int) == (2 : Int)) then (match (idx y4.2 (0 : Int)) with | none => none | some y7 => (match (idx y4.2 (0 : Int)) with | none => none | some y8 => (if (y8 == (1 : Int)) then (match (idx y4.2 (1 : Int)) with | none => none | some y9 => (match (idx y4.2 (1 : Int)) with | none => none | some y10 => (if (y10 == (2 : Int)) then (match (veil (queue_Queue_All.f BIG y4.1)) with | none => none | some y11 => (if (((((List.length y11.2)) : Nat) : Int) == (1 : Int)) then (match (veil (queue_Budget.f BIG (7 : Int) (3 : Int))) with | none => none | some y12 => (if (y12 == (9 : Int)) then (match (veil (queue_Budget.f BIG (8 : Int) (3 : Int))) with | none => none | some y13 => (if (y13 == (12 : Int)) then (match (veil (queue_Budget.f BIG (0 : Int) (3 : Int))) with | none => none | some y14 => some ((y14 == (0 : Int)))) else some (false))) else some (false))) else some (false))) else some (false)))) else some (false)))) else some (false)) else some (false)))) else some (false)))))))
noncomputable def law22_awake.f (fuel : Nat) (u : Unit) : Option Bool := law22_awake.b u
theorem law22_awake.eq (fuel : Nat) (u : Unit) : (denF law22_awake_E loopN fuel Try.f15 [.raw] [] [] law22_awake.k) = law22_awake.f fuel u := by
  kernel_rfl
noncomputable def s_law22_awake : Den.Sum := ⟨[], fun args objs κ => match args, objs with
  | [], [] => (match veil (law22_awake.f BIG ()) with | none => none | some y => κ [.d .bool y] [])
  | _, _ => none⟩
theorem s_law22_awake_det : SumDet s_law22_awake := fun avs objs R κ => by
  show s_law22_awake.run avs objs (two κ) = (s_law22_awake.run avs objs (two some)).bind κ
  unfold s_law22_awake
  simp only [veil_eq]
  split
  · split <;> rfl
  · rfl
theorem s_law22_awake_ok : SumOk Try.prog 15 s_law22_awake := by
  have hE : EnvOk Try.prog law22_awake_E := env_ok (l := [(16, s_queue_New), (17, s_queue_Queue_Put), (21, s_queue_Queue_Take), (22, s_queue_Queue_All), (23, s_queue_Budget)]) th_ok any_ok ⟨⟨s_queue_New_ok, s_queue_New_det⟩, ⟨s_queue_Queue_Put_ok, s_queue_Queue_Put_det⟩, ⟨s_queue_Queue_Take_ok, s_queue_Queue_Take_det⟩, ⟨s_queue_Queue_All_ok, s_queue_Queue_All_det⟩, ⟨s_queue_Budget_ok, s_queue_Budget_det⟩, trivial⟩ _
  refine sum_ok hE Try.func15 rfl (by kernel_rfl) s_law22_awake [.raw] law22_awake.k ?_
  intro R avs objs κ r h
  unfold s_law22_awake at h
  simp only [veil_eq] at h
  split at h
  · skip
    split at h
    · cases h
    · rename_i y hy
      refine ⟨BIG, _, _, _, (law22_awake.eq BIG ()).trans hy, ?_, h⟩
      intro rs ros hk
      unfold law22_awake.k at hk
      split at hk
      · first | (cases hk; exact ⟨rfl, rfl⟩) | (have e := Option.some.inj hk; rw [← e]; exact ⟨rfl, rfl⟩)
      · cases hk
  · cases h
theorem merge20 (A B : List QT) (hA : A.length = 20) (hB : 1 ≤ B.length) (hB2 : B.length ≤ 20) :
    slices_symMergeCmpFunc_queue_Item.it 64 (isort A ++ isort B) 0 20 ((20 + B.length : Nat) : Int) = some (isort (A ++ B)) := by
  obtain ⟨w, e, hm⟩ := sm_it 64 [] (isort A) (isort B) [] (by rw [isort_len]; omega) (by rw [isort_len]; omega) (by rw [isort_len, isort_len]; omega) (by rw [isort_len, isort_len]; simp; omega) (isort_srt A) (isort_srt B)
  simp only [List.nil_append, List.append_nil, List.length_nil, Nat.zero_add, isort_len, hA] at e
  rw [← isort_mg A B w hm]
  exact e
theorem slices_stableCmpFunc_queue_Item.small (l : List QT) (hl : l.length ≤ 20) : slices_stableCmpFunc_queue_Item.f BIG l (l.length : Int) = some (isort l) := by
  have hi := slices_insertionSortCmpFunc_queue_Item.pure [] l [] (by simp; omega)
  have hi2 := slices_insertionSortCmpFunc_queue_Item.pure (isort l) [] [] (by simp [isort_len]; omega)
  simp only [List.nil_append, List.append_nil, List.length_nil, Nat.zero_add, Nat.add_zero, isort_len] at hi hi2
  rw [show isort ([] : List QT) = [] from rfl, List.append_nil] at hi2
  rw [show ((0 : Nat) : Int) = 0 from rfl] at hi
  have fin : ∀ x : List QT, slices_stableCmpFunc_queue_Item.l7 BIG l (l.length : Int) BIG 20 x = some x := by
    intro x
    rw [slices_stableCmpFunc_queue_Item.l7_at BIG BIG _ big_eq]
    unfold slices_stableCmpFunc_queue_Item.b7
    rw [if_neg (by simp; omega)]
  unfold slices_stableCmpFunc_queue_Item.f slices_stableCmpFunc_queue_Item.b
  obtain ⟨k, hk⟩ : ∃ k, BIG = k + 1 + 1 := ⟨BIG - 2, by rw [BIG_eq]⟩
  rw [slices_stableCmpFunc_queue_Item.l2_at BIG BIG (k + 1) hk]
  unfold slices_stableCmpFunc_queue_Item.b2
  by_cases h20 : l.length = 20
  · have e20 : (l.length : Int) = 20 := by omega
    rw [if_pos (by simp; omega)]
    rw [show (20 : Int) = (l.length : Int) from e20.symm, hi]
    simp only [veil_eq]
    rw [slices_stableCmpFunc_queue_Item.l2_at BIG (k + 1) k rfl]
    unfold slices_stableCmpFunc_queue_Item.b2
    rw [if_neg (by rw [wrap_small _ (by omega) (by omega)]; simp; omega), hi2]
    simp only [veil_eq]
    exact fin _
  · rw [if_neg (by simp; omega), hi]
    simp only [veil_eq]
    exact fin _
theorem st7 (l x : List QT) (n0 : Int) (h : n0 ≤ 40) : ∀ n, slices_stableCmpFunc_queue_Item.l7 BIG l n0 (n + 1) 40 x = some x := by
  intro n
  rw [slices_stableCmpFunc_queue_Item.l7_at BIG (n + 1) n rfl]
  unfold slices_stableCmpFunc_queue_Item.b7
  rw [if_neg (by simp; omega)]
theorem st2 (l A B : List QT) (hA : A.length = 20) (hB : 1 ≤ B.length) (hB2 : B.length ≤ 20) : slices_stableCmpFunc_queue_Item.l7 BIG l ((20 + B.length : Nat) : Int) BIG 20 (isort A ++ isort B) = some (isort (A ++ B)) := by
  obtain ⟨k, hk⟩ : ∃ k, BIG = k + 1 + 1 := ⟨BIG - 2, by rw [BIG_eq]⟩
  have w20 : Go.IntKind.wrap .i64 (0 + 20) = 20 := wrap_small _ (by omega) (by omega)
  have w40 : Go.IntKind.wrap .i64 (2 * 20) = 40 := wrap_small _ (by omega) (by omega)
  have w40' : Go.IntKind.wrap .i64 (20 * 2) = 40 := wrap_small _ (by omega) (by omega)
  have w80 : Go.IntKind.wrap .i64 (40 + 40) = 80 := wrap_small _ (by omega) (by omega)
  have w60 : Go.IntKind.wrap .i64 (40 + 20) = 60 := wrap_small _ (by omega) (by omega)
  have hm := merge20 A B hA hB hB2
  rw [slices_stableCmpFunc_queue_Item.l7_at BIG BIG (k + 1) hk]
  unfold slices_stableCmpFunc_queue_Item.b7
  rw [if_pos (by simp; omega), w40, slices_stableCmpFunc_queue_Item.l9_at BIG BIG (k + 1) hk]
  unfold slices_stableCmpFunc_queue_Item.b9
  rw [w20, w40, w40']
  by_cases h40 : B.length = 20
  · rw [if_pos (by simp; omega)]
    rw [h40] at hm
    have e40 : ((20 + 20 : Nat) : Int) = 40 := rfl
    rw [e40] at hm
    rw [hm]
    simp only [veil_eq]
    rw [w80, slices_stableCmpFunc_queue_Item.l9_at BIG (k + 1) k rfl]
    unfold slices_stableCmpFunc_queue_Item.b9
    rw [if_neg (by simp; omega), w60, if_neg (by simp; omega), w40']
    exact st7 l _ _ (by omega) _
  · rw [if_neg (by simp; omega), if_pos (by simp; omega), hm]
    simp only [veil_eq]
    exact st7 l _ _ (by omega) _
theorem slices_stableCmpFunc_queue_Item.pure (l : List QT) (hl : l.length ≤ 40) : slices_stableCmpFunc_queue_Item.f BIG l (l.length : Int) = some (isort l) := by
  by_cases h20 : l.length ≤ 20
  · exact slices_stableCmpFunc_queue_Item.small l h20
  obtain ⟨A, B, hAB, hA⟩ : ∃ A B, l = A ++ B ∧ A.length = 20 := ⟨l.take 20, l.drop 20, (List.take_append_drop _ _).symm, by simp; omega⟩
  have hB : l.length = 20 + B.length := by rw [hAB]; simp [hA]
  have i1 := slices_insertionSortCmpFunc_queue_Item.pure [] A B (by simp; omega)
  have i2 := slices_insertionSortCmpFunc_queue_Item.pure (isort A) B [] (by simp [isort_len]; omega)
  have i3 := slices_insertionSortCmpFunc_queue_Item.pure (isort A ++ isort B) [] [] (by simp [isort_len]; omega)
  simp only [List.nil_append, List.append_nil, List.length_nil, Nat.zero_add, Nat.add_zero, isort_len, hA, List.length_append] at i1 i2 i3
  rw [show isort ([] : List QT) = [] from rfl, List.append_nil] at i3
  rw [show ((0 : Nat) : Int) = 0 from rfl, show ((20 : Nat) : Int) = 20 from rfl] at i1
  rw [show ((20 : Nat) : Int) = 20 from rfl] at i2
  obtain ⟨k, hk⟩ : ∃ k, BIG = k + 1 + 1 + 1 := ⟨BIG - 3, by rw [BIG_eq]⟩
  have w40 : Go.IntKind.wrap .i64 (20 + 20) = 40 := wrap_small _ (by omega) (by omega)
  have w60 : Go.IntKind.wrap .i64 (40 + 20) = 60 := wrap_small _ (by omega) (by omega)
  have fin := st2 l A B hA (by omega) (by omega)
  unfold slices_stableCmpFunc_queue_Item.f slices_stableCmpFunc_queue_Item.b
  rw [slices_stableCmpFunc_queue_Item.l2_at BIG BIG (k + 1 + 1) hk]
  unfold slices_stableCmpFunc_queue_Item.b2
  rw [if_pos (by simp; omega)]
  rw [show slices_insertionSortCmpFunc_queue_Item.f BIG l 0 20 = some (isort A ++ B) by rw [hAB]; exact i1]
  simp only [veil_eq]
  rw [w40, slices_stableCmpFunc_queue_Item.l2_at BIG (k + 1 + 1) (k + 1) rfl]
  unfold slices_stableCmpFunc_queue_Item.b2
  rw [hB]
  by_cases h40 : B.length = 20
  · rw [if_pos (by simp; omega)]
    rw [h40] at i2 i3 fin ⊢
    rw [show ((20 + 20 : Nat) : Int) = 40 from rfl] at i2 i3 fin ⊢
    rw [i2]
    simp only [veil_eq]
    rw [w60, slices_stableCmpFunc_queue_Item.l2_at BIG (k + 1) k rfl]
    unfold slices_stableCmpFunc_queue_Item.b2
    rw [if_neg (by simp), i3]
    simp only [veil_eq]
    rw [fin, hAB]
  · rw [if_neg (by simp; omega), i2]
    simp only [veil_eq]
    rw [fin, hAB]
theorem queue_Queue_All.pure (l : List QT) (hl : l.length ≤ 40) : queue_Queue_All.f BIG l = some (l, isort l.reverse) := by
  unfold queue_Queue_All.f queue_Queue_All.b
  rw [if_pos ⟨rfl, by omega⟩, slices_Reverse_queue_Item_queue_Item.pure l (by omega)]
  simp only [veil_eq]
  unfold slices_SortStableFunc_queue_Item_queue_Item.f slices_SortStableFunc_queue_Item_queue_Item.b
  rw [slices_stableCmpFunc_queue_Item.pure l.reverse (by simpa using hl)]
  simp only [veil_eq]
def qDrop (l : List QT) (id : Int) : List QT := l.filter (fun v => !(pDrop id v))
theorem queue_Queue_Drop.pure (l : List QT) (id : Int) (hl : l.length ≤ 1000) : queue_Queue_Drop.f BIG l id = some (qDrop l id) := by
  unfold queue_Queue_Drop.f queue_Queue_Drop.b
  rw [slices_DeleteFunc_queue_Item_queue_Item_drop.pure l id (by omega)]
  simp only [veil_eq]
  rfl
def qPut (l : List QT) (id : Int) : List QT := qDrop l id ++ [(id, 0)]
theorem queue_Queue_Put.pure (l : List QT) (id : Int) (hl : l.length ≤ 1000) : queue_Queue_Put.f BIG l id = some (qPut l id) := by
  unfold queue_Queue_Put.f queue_Queue_Put.b
  rw [queue_Queue_Drop.pure l id hl]
  simp only [veil_eq]
  have : (qDrop l id).length ≤ l.length := List.length_filter_le _ _
  rw [if_pos (by unfold lim; simp; omega)]
  rfl
/-- what is taken -/
def tOut (but : List Int) (n : Int) : List QT → List Int → List Int
  | [], out => out
  | x :: l, out => if (out.length : Int) ≥ n then out else if hasI but x.1 then tOut but n l out else tOut but n l (out ++ [x.1])
noncomputable def tBump (out : List Int) (x : QT) : QT := if hasI out x.1 then (x.1, Go.IntKind.wrap .i64 (x.2 + 1)) else x
noncomputable def qTake (l : List QT) (n budget : Int) (but : List Int) : List QT × List Int :=
  let out := tOut but n (isort l.reverse) []
  if out = [] then (l, []) else ((l.map (tBump out)).filter (fun v => !(pOut out budget v)), out)
theorem take_bump (l0 : List QT) (n budget : Int) (but out : List Int) (ho : out.length ≤ 1000) : ∀ (suf pre : List QT) (m : Nat), suf.length < m → pre.length + suf.length ≤ 1000 →
    queue_Queue_Take.l12 BIG l0 n budget but m ((pre.length + suf.length : Nat) : Int) ((pre.length : Nat) : Int) (pre ++ suf) out = some ((pre ++ suf.map (tBump out)).filter (fun v => !(pOut out budget v)), out)
  | suf, pre, 0, h, _ => absurd h (by omega)
  | [], pre, m + 1, h, hb => by
    rw [queue_Queue_Take.l12_at BIG (m + 1) m rfl]
    unfold queue_Queue_Take.b12
    rw [if_neg (by simp), slices_DeleteFunc_queue_Item_queue_Item_take.pure _ out budget (by omega) (by simp at hb ⊢; omega)]
    simp only [veil_eq]
    simp
  | x :: suf, pre, m + 1, h, hb => by
    simp at h hb
    rw [queue_Queue_Take.l12_at BIG (m + 1) m rfl]
    unfold queue_Queue_Take.b12
    rw [if_pos (by simp; omega), idx_mid]
    dsimp only
    rw [slices_Contains_int_int_row.pure out x.1 (by omega)]
    simp only [veil_eq]
    have f0 : pre.length + (x :: suf).length = (pre ++ [tBump out x]).length + suf.length := by simp; omega
    have f1 : Go.IntKind.wrap .i64 (((pre.length : Nat) : Int) + 1) = (((pre ++ [tBump out x]).length : Nat) : Int) := by rw [wrap_small _ (by omega) (by omega)]; simp
    have ih := take_bump l0 n budget but out ho suf (pre ++ [tBump out x]) m (by omega) (by simp; omega)
    have f3 : pre ++ (x :: suf).map (tBump out) = pre ++ [tBump out x] ++ suf.map (tBump out) := by simp
    rw [f0, f1, f3]
    refine Eq.trans ?_ ih
    cases hh : hasI out x.1 with
    | true =>
      rw [if_pos rfl]
      have ex : tBump out x = (x.1, Go.IntKind.wrap .i64 (x.2 + 1)) := by unfold tBump; rw [if_pos hh]
      have s1 : List.set (pre ++ x :: suf) (Int.toNat ((pre.length : Nat) : Int)) (x.1, Go.IntKind.wrap .i64 (x.2 + 1)) = pre ++ [tBump out x] ++ suf := by
        rw [Int.toNat_natCast, List.set_append_right _ _ (Nat.le_refl _), ex]
        simp
      rw [s1]
    | false =>
      rw [if_neg (by simp)]
      have ex : tBump out x = x := by unfold tBump; rw [if_neg (by simp [hh])]
      rw [ex]
      simp
theorem take_loop (l : List QT) (n budget : Int) (but : List Int) (hl : l.length ≤ 1000) (hbt : but.length ≤ 1000) (s : List QT) (hs : s.length ≤ 1000) : ∀ (suf pre : List QT) (out : List Int) (m : Nat), pre ++ suf = s → out.length ≤ pre.length → suf.length < m →
    queue_Queue_Take.l3 BIG l n budget but m ((s.length : Nat) : Int) ((pre.length : Nat) : Int) l out s =
      (let o := tOut but n suf out; if o = [] then some (l, ([] : List Int)) else some ((l.map (tBump o)).filter (fun v => !(pOut o budget v)), o))
  | suf, pre, out, 0, _, _, h => absurd h (by omega)
  | suf, pre, out, m + 1, h, ho, hm => by
    have hps : pre.length + suf.length ≤ 1000 := by rw [← h] at hs; simp at hs; omega
    have fin : (if ((((List.length out) : Nat) : Int) == 0) = true then some (l, ([] : List Int)) else queue_Queue_Take.l12 BIG l n budget but BIG (((List.length l) : Nat) : Int) 0 l out) = (if out = [] then some (l, ([] : List Int)) else some ((l.map (tBump out)).filter (fun v => !(pOut out budget v)), out)) := by
      cases out with
      | nil => rw [if_pos (by rfl), if_pos rfl]
      | cons o out =>
        rw [if_neg (by simp <;> omega), if_neg (by simp)]
        have e := take_bump l n budget but (o :: out) (by simp at ho ⊢; omega) l [] BIG (by rw [BIG_eq]; omega) (by simpa using hl)
        simpa using e
    rw [queue_Queue_Take.l3_at BIG (m + 1) m rfl]
    unfold queue_Queue_Take.b3
    cases suf with
    | nil =>
      rw [if_neg (by rw [← h]; simp), tOut]
      exact fin
    | cons x suf =>
      have hi : idx s ((pre.length : Nat) : Int) = some x := by rw [← h]; exact idx_mid pre x suf
      rw [if_pos (by rw [← h]; simp; omega), hi]
      dsimp only
      rw [tOut]
      by_cases hn : ((out.length : Nat) : Int) ≥ n
      · rw [if_pos (by simp; omega), if_pos hn]
        exact fin
      · rw [if_neg (by simp; omega), if_neg hn, slices_Contains_int_int_dat.pure but x.1 (by omega)]
        simp only [veil_eq]
        simp at hm hps
        have f1 : Go.IntKind.wrap .i64 (((pre.length : Nat) : Int) + 1) = (((pre ++ [x]).length : Nat) : Int) := by rw [wrap_small _ (by omega) (by omega)]; simp
        cases hb : hasI but x.1 with
        | true =>
          rw [if_neg (by simp), if_pos rfl, f1]
          exact take_loop l n budget but hl hbt s hs suf (pre ++ [x]) out m (by rw [← h]; simp) (by simp; omega) (by omega)
        | false =>
          rw [if_pos (by rfl), if_pos (by unfold lim; simp; omega), if_neg (show ¬ (false = true) by simp), f1]
          exact take_loop l n budget but hl hbt s hs suf (pre ++ [x]) (out ++ [x.1]) m (by rw [← h]; simp) (by simp; omega) (by omega)
theorem queue_Queue_Take.pure (l : List QT) (n budget : Int) (but : List Int) (hl : l.length ≤ 40) (hbt : but.length ≤ 1000) : queue_Queue_Take.f BIG l n budget but = some (qTake l n budget but) := by
  unfold queue_Queue_Take.f queue_Queue_Take.b
  rw [queue_Queue_All.pure l hl]
  simp only [veil_eq]
  have hlen : (isort l.reverse).length = l.length := by rw [isort_len, List.length_reverse]
  have e := take_loop l n budget but (by omega) hbt (isort l.reverse) (by omega) (isort l.reverse) [] [] BIG rfl (Nat.le_refl _) (by rw [BIG_eq]; omega)
  refine Eq.trans e ?_
  unfold qTake
  dsimp only
  split <;> rfl
def itm (l : List QT) (i : Nat) : QT := l.getD i (0, 0)
/-- the first of the least -/
def fm (l : List QT) : Option Nat → List Nat → Option Nat
  | a, [] => a
  | none, i :: C => fm l (some i) C
  | some a, i :: C => if (itm l i).2 < (itm l a).2 then fm l (some i) C else fm l (some a) C
theorem fm_some (l : List QT) : ∀ (C : List Nat) (a : Nat), ∃ b, fm l (some a) C = some b ∧ ((b = a ∧ ∀ x ∈ C, (itm l a).2 ≤ (itm l x).2) ∨ ∃ C1 C2, C = C1 ++ b :: C2 ∧ (itm l b).2 < (itm l a).2 ∧ (∀ x ∈ C1, (itm l b).2 < (itm l x).2) ∧ ∀ x ∈ C2, (itm l b).2 ≤ (itm l x).2)
  | [], a => ⟨a, rfl, .inl ⟨rfl, by simp⟩⟩
  | i :: C, a => by
    rw [fm]
    by_cases h : (itm l i).2 < (itm l a).2
    · rw [if_pos h]
      obtain ⟨b, hb, h1 | ⟨C1, C2, e, h1, h2, h3⟩⟩ := fm_some l C i
      · refine ⟨b, hb, .inr ⟨[], C, ?_, ?_, by simp, ?_⟩⟩
        · rw [h1.1]; rfl
        · rw [h1.1]; exact h
        · rw [h1.1]; exact h1.2
      · refine ⟨b, hb, .inr ⟨i :: C1, C2, by rw [e]; rfl, by omega, ?_, h3⟩⟩
        intro x hx
        rcases List.mem_cons.1 hx with e | e
        · rw [e]; exact h1
        · exact h2 x e
    · rw [if_neg h]
      obtain ⟨b, hb, h1 | ⟨C1, C2, e, h1, h2, h3⟩⟩ := fm_some l C a
      · refine ⟨b, hb, .inl ⟨h1.1, ?_⟩⟩
        intro x hx
        rcases List.mem_cons.1 hx with e | e
        · rw [e]; omega
        · exact h1.2 x e
      · refine ⟨b, hb, .inr ⟨i :: C1, C2, by rw [e]; rfl, h1, ?_, h3⟩⟩
        intro x hx
        rcases List.mem_cons.1 hx with e | e
        · rw [e]; omega
        · exact h2 x e
theorem fm_cut (l : List QT) : ∀ (C : List Nat), C ≠ [] → ∃ b C1 C2, fm l none C = some b ∧ C = C1 ++ b :: C2 ∧ (∀ x ∈ C1, (itm l b).2 < (itm l x).2) ∧ ∀ x ∈ C2, (itm l b).2 ≤ (itm l x).2
  | [], h => absurd rfl h
  | i :: C, _ => by
    rw [fm]
    obtain ⟨b, hb, h1 | ⟨C1, C2, e, h1, h2, h3⟩⟩ := fm_some l C i
    · exact ⟨b, [], C, hb, by rw [h1.1]; rfl, by simp, by rw [h1.1]; exact h1.2⟩
    · refine ⟨b, i :: C1, C2, hb, by rw [e]; rfl, ?_, h3⟩
      intro x hx
      rcases List.mem_cons.1 hx with e | e
      · rw [e]; exact h1
      · exact h2 x e
/-- the least, again and again -/
def sel (l : List QT) : Nat → List Nat → List Nat
  | 0, _ => []
  | r + 1, C => match fm l none C with
    | none => []
    | some a => a :: sel l r (C.filter fun x => !(x == a))
theorem nodup_cut (C1 C2 : List Nat) (b : Nat) (h : (C1 ++ b :: C2).Nodup) : (C1 ++ b :: C2).filter (fun x => !(x == b)) = C1 ++ C2 := by
  have h2 := List.nodup_append.1 h
  obtain ⟨_, hc, hd⟩ := h2
  rw [List.nodup_cons] at hc
  rw [List.filter_append, List.filter_cons, if_neg (by simp)]
  congr 1
  · rw [List.filter_eq_self]
    intro x hx
    have := hd x hx b (by simp)
    simp [this]
  · rw [List.filter_eq_self]
    intro x hx
    have : x ≠ b := fun e => hc.1 (e ▸ hx)
    simp [this]
theorem sel_ok (l : List QT) : ∀ (r : Nat) (C : List Nat), C.Nodup → C.length ≤ r → Srt ((sel l r C).map (itm l)) ∧ (∀ k, keyf k ((sel l r C).map (itm l)) = keyf k (C.map (itm l))) ∧ (∀ x, x ∈ sel l r C ↔ x ∈ C) ∧ (sel l r C).Nodup ∧ (sel l r C).length = C.length
  | 0, C, hn, hl => by
    have : C = [] := List.eq_nil_of_length_eq_zero (by omega)
    subst this
    exact ⟨List.Pairwise.nil, fun k => rfl, fun x => Iff.rfl, List.Pairwise.nil, rfl⟩
  | r + 1, C, hn, hl => by
    cases hC : C with
    | nil => exact ⟨List.Pairwise.nil, fun k => rfl, fun x => Iff.rfl, List.Pairwise.nil, rfl⟩
    | cons c0 C0 =>
      rw [← hC]
      obtain ⟨b, C1, C2, hb, he, h1, h2⟩ := fm_cut l C (by rw [hC]; simp)
      have hs : sel l (r + 1) C = b :: sel l r (C1 ++ C2) := by
        rw [sel, hb]
        dsimp only
        rw [he, nodup_cut C1 C2 b (he ▸ hn)]
      have hn2 : (C1 ++ C2).Nodup := by
        have := hn.filter (fun x => !(x == b))
        rw [he, nodup_cut C1 C2 b (he ▸ hn)] at this
        exact this
      have hb2 : b ∉ C1 ++ C2 := by
        intro hm
        have := nodup_cut C1 C2 b (he ▸ hn)
        rw [← this] at hm
        simpa using (List.mem_filter.1 hm).2
      have hlen : (C1 ++ C2).length + 1 = C.length := by rw [he]; simp; omega
      obtain ⟨i1, i2, i3, i4, i5⟩ := sel_ok l r (C1 ++ C2) hn2 (by omega)
      rw [hs]
      refine ⟨?_, ?_, ?_, ?_, ?_⟩
      · rw [List.map_cons]
        refine List.pairwise_cons.2 ⟨?_, i1⟩
        intro y hy
        obtain ⟨x, hx, rfl⟩ := List.mem_map.1 hy
        rcases List.mem_append.1 ((i3 x).1 hx) with e | e
        · have := h1 x e; omega
        · exact h2 x e
      · intro k
        rw [List.map_cons, keyf_cons, i2, he, List.map_append, List.map_append, List.map_cons, keyf_app, keyf_app, keyf_cons k (itm l b) (List.map (itm l) C2), keyf_one]
        by_cases hk : (itm l b).2 = k
        · rw [keyf_nil k (C1.map (itm l)) (fun y hy => by
            obtain ⟨x, hx, rfl⟩ := List.mem_map.1 hy
            have := h1 x hx; omega)]
          simp
        · rw [if_neg hk]; simp
      · intro x
        rw [List.mem_cons, i3, he, List.mem_append, List.mem_append, List.mem_cons]
        constructor
        · rintro (h | h | h) <;> simp [h]
        · rintro (h | h | h) <;> simp [h]
      · exact List.nodup_cons.2 ⟨fun hm => hb2 ((i3 b).1 hm), i4⟩
      · rw [List.length_cons, i5, hlen]
def cands (q : Nat → Bool) (n : Nat) : List Nat := (List.range n).reverse.filter q
theorem cands_succ (q : Nat → Bool) (n : Nat) : cands q (n + 1) = if q n = true then n :: cands q n else cands q n := by
  unfold cands
  rw [List.range_succ, List.reverse_append, List.reverse_singleton, List.singleton_append, List.filter_cons]
theorem cands_nodup (q : Nat → Bool) (n : Nat) : (cands q n).Nodup := by
  unfold cands
  refine List.Pairwise.filter _ ?_
  have h := List.nodup_range (n := n)
  refine List.pairwise_reverse.2 ?_
  exact h.imp fun e => Ne.symm e
theorem cands_mem (q : Nat → Bool) (n x : Nat) : x ∈ cands q n ↔ x < n ∧ q x = true := by
  unfold cands; rw [List.mem_filter, List.mem_reverse, List.mem_range]
theorem cands_len (q : Nat → Bool) (n : Nat) : (cands q n).length ≤ n := by
  unfold cands
  have := List.length_filter_le q (List.range n).reverse
  simpa using this
theorem cands_filter (q r : Nat → Bool) (n : Nat) (h : ∀ x, x < n → r x = true → q x = true) : (cands q n).filter r = cands r n := by
  unfold cands
  rw [List.filter_filter]
  refine List.filter_congr ?_
  intro x hx
  have hx' : x < n := by simpa using hx
  cases hr : r x with
  | false => simp
  | true => simp [h x hx' hr]
theorem cands_map (l : List QT) (p : QT → Bool) : (cands (fun i => p (itm l i)) l.length).map (itm l) = l.reverse.filter p := by
  have h : (List.range l.length).map (itm l) = l := by
    refine List.ext_getElem (by simp) fun i h1 h2 => ?_
    simp only [List.getElem_map, List.getElem_range]
    unfold itm
    exact gD_get l _ i h2
  unfold cands
  have e : ((List.range l.length).reverse.filter (fun i => p (itm l i))).map (itm l) = ((List.range l.length).reverse.map (itm l)).filter p := by
    rw [List.filter_map]; rfl
  rw [e, List.map_reverse, h]
theorem sel_isort (l : List QT) (p : QT → Bool) (r : Nat) (hr : l.length ≤ r) : (sel l r (cands (fun i => p (itm l i)) l.length)).map (itm l) = (isort l.reverse).filter p := by
  obtain ⟨h1, h2, _⟩ := sel_ok l r (cands (fun i => p (itm l i)) l.length) (cands_nodup _ _) (Nat.le_trans (cands_len _ _) hr)
  refine srt_uniq _ _ h1 ((isort_srt l.reverse).filter _) fun k => ?_
  rw [h2, cands_map]
  have e : ∀ s : List QT, keyf k (s.filter p) = (keyf k s).filter p := by
    intro s
    unfold keyf
    rw [List.filter_filter, List.filter_filter]
    refine List.filter_congr fun x _ => ?_
    exact Bool.and_comm _ _
  rw [e, e, isort_key]
def atI : Option Nat → Int
  | none => -1
  | some a => (a : Int)
def qB (l : List QT) (picked : List Bool) (but : Int) (i : Nat) : Bool := !(picked.getD i false) && !((itm l i).1 == but)
theorem best_loop (l : List QT) (picked : List Bool) (but : Int) (hp : picked.length = l.length) (hl : l.length ≤ 1000) : ∀ (i : Nat) (at0 : Option Nat) (n : Nat), i < n → i ≤ l.length → (∀ a, at0 = some a → a < l.length) →
    law22_bestR.l3 BIG l picked but n (atI at0) ((i : Int) - 1) = some (atI (fm l at0 (cands (qB l picked but) i)), picked)
  | i, at0, 0, h, _, _ => absurd h (by omega)
  | 0, at0, n + 1, h, hi, ha => by
    rw [law22_bestR.l3_at BIG (n + 1) n rfl]
    unfold law22_bestR.b3
    rw [if_neg (by simp)]
    have : fm l at0 (cands (qB l picked but) 0) = at0 := by
      unfold cands
      cases at0 <;> rfl
    rw [this]
  | i + 1, at0, n + 1, h, hi, ha => by
    rw [law22_bestR.l3_at BIG (n + 1) n rfl]
    unfold law22_bestR.b3
    have ei : ((i + 1 : Nat) : Int) - 1 = (i : Int) := by omega
    have ew : Go.IntKind.wrap .i64 ((i : Int) - 1) = (i : Int) - 1 := wrap_small _ (by omega) (by omega)
    rw [ei, if_pos (by simp), getD_at picked false i (by omega)]
    dsimp only
    have go4 : ∀ at1 : Option Nat, (∀ a, at1 = some a → a < l.length) → law22_bestR.l4 BIG l picked but (law22_bestR.l3 BIG l picked but n) BIG (atI at1) (i : Int) = some (atI (fm l at1 (cands (qB l picked but) i)), picked) := by
      intro at1 h1
      rw [law22_bestR.l4_at BIG BIG _ big_eq]
      unfold law22_bestR.b4
      rw [ew]
      exact best_loop l picked but hp hl i at1 n (by omega) (by omega) h1
    rw [cands_succ]
    cases hpk : picked.getD i false with
    | true =>
      rw [if_pos rfl, go4 at0 ha, if_neg (by unfold qB; rw [hpk]; simp)]
    | false =>
      rw [if_neg (by simp), getD_at l (0, 0) i (by omega)]
      dsimp only
      by_cases hb : (l.getD i (0, 0)).1 = but
      · have hb1 : ((l.getD i (0, 0)).1 == but) = true := by rw [hb]; exact beq_self_eq_true but
        rw [if_pos hb1, go4 at0 ha, if_neg (by unfold qB itm; rw [hb1]; simp)]
      · have hb1 : ((l.getD i (0, 0)).1 == but) = false := beq_eq_false_iff_ne.2 hb
        rw [if_neg (by rw [hb1]; simp), if_pos (by unfold qB itm; rw [hpk, hb1]; rfl)]
        rw [law22_bestR.l6_at BIG BIG _ big_eq]
        unfold law22_bestR.b6
        cases at0 with
        | none =>
          rw [if_pos (by rfl), fm]
          exact go4 (some i) (fun a e => by cases e; omega)
        | some a =>
          have ha' := ha a rfl
          rw [if_neg (by show ¬ (decide ((a : Int) < 0) = true); simp), getD_at l (0, 0) i (by omega)]
          dsimp only
          rw [show atI (some a) = (a : Int) from rfl, getD_at l (0, 0) a ha']
          dsimp only
          rw [fm]
          by_cases hlt : (itm l i).2 < (itm l a).2
          · rw [if_pos hlt, if_pos (by exact decide_eq_true hlt)]
            exact go4 (some i) (fun a e => by cases e; omega)
          · rw [if_neg hlt, if_neg (by intro e; exact hlt (of_decide_eq_true e))]
            exact go4 (some a) (fun b e => by cases e; exact ha')
theorem law22_bestR.pure (l : List QT) (picked : List Bool) (but : Int) (hp : picked.length = l.length) (hl : l.length ≤ 1000) :
    law22_bestR.f BIG l picked but = some (atI (fm l none (cands (qB l picked but) l.length)), picked) := by
  unfold law22_bestR.f law22_bestR.b
  rw [wrap_small _ (by omega) (by omega)]
  exact best_loop l picked but hp hl l.length none BIG (by rw [BIG_eq]; omega) (Nat.le_refl _) (by intro a e; cases e)
theorem getD_set (p : List Bool) (a i : Nat) (ha : a < p.length) : (p.set a true).getD i false = (p.getD i false || i == a) := by
  show ((p.set a true)[i]?).getD false = ((p[i]?).getD false || i == a)
  rw [List.getElem?_set]
  by_cases h : a = i
  · subst h; simp [ha]
  · rw [if_neg h]
    have : (i == a) = false := by simp [Ne.symm h]
    rw [this]; simp
theorem order_loop (l : List QT) (but : Int) (hl : l.length ≤ 1000) : ∀ (r k : Nat) (picked : List Bool) (out : List Int) (n : Nat), k + r = l.length → picked.length = l.length → (cands (qB l picked but) l.length).length ≤ r → r < n → out.length ≤ k →
    law22_order.l4 BIG l but n (k : Int) picked out = some (out ++ (sel l r (cands (qB l picked but) l.length)).map (fun i : Nat => (i : Int)))
  | r, k, picked, out, 0, _, _, _, h, _ => absurd h (by omega)
  | 0, k, picked, out, n + 1, hk, hp, hc, h, ho => by
    rw [law22_order.l4_at BIG (n + 1) n rfl]
    unfold law22_order.b4
    rw [if_neg (by simp; omega)]
    simp [sel]
  | r + 1, k, picked, out, n + 1, hk, hp, hc, h, ho => by
    rw [law22_order.l4_at BIG (n + 1) n rfl]
    unfold law22_order.b4
    rw [if_pos (by simp; omega), law22_bestR.pure l picked but hp hl]
    simp only [veil_eq]
    rw [wrap_small _ (by omega) (by omega)]
    have ek : (k : Int) + 1 = ((k + 1 : Nat) : Int) := by simp
    rw [sel]
    cases hC : cands (qB l picked but) l.length with
    | nil =>
      have e0 : fm l none ([] : List Nat) = none := rfl
      rw [e0, if_neg (by simp [atI]), ek]
      have ih := order_loop l but hl r (k + 1) picked out n (by omega) hp (by rw [hC]; simp) (by omega) (by omega)
      rw [ih, hC]
      congr 2
      cases r <;> rfl
    | cons c0 C0 =>
      rw [← hC]
      obtain ⟨b, C1, C2, hb, he, h1, h2⟩ := fm_cut l (cands (qB l picked but) l.length) (by rw [hC]; simp)
      rw [hb]
      have hbm : b ∈ cands (qB l picked but) l.length := by rw [he]; simp
      have hbl := ((cands_mem _ _ _).1 hbm).1
      rw [show atI (some b) = (b : Int) from rfl, if_pos (by simp), getD_at picked false b (by omega)]
      dsimp only
      rw [if_pos (by unfold lim; simp; omega), ek, Int.toNat_natCast]
      have hq : (cands (qB l picked but) l.length).filter (fun x => !(x == b)) = cands (qB l (picked.set b true) but) l.length := by
        rw [← cands_filter (qB l picked but) (qB l (picked.set b true) but) l.length]
        · refine List.filter_congr fun x hx => ?_
          have hx' := ((cands_mem _ _ _).1 hx).2
          unfold qB at hx' ⊢
          rw [getD_set picked b x (by omega)]
          simp only [Bool.and_eq_true, Bool.not_eq_true'] at hx'
          rw [hx'.1, hx'.2]
          simp
        · intro x hx hr
          unfold qB at hr ⊢
          rw [getD_set picked b x (by omega)] at hr
          simp only [Bool.and_eq_true, Bool.not_eq_true', Bool.or_eq_false_iff] at hr
          rw [hr.1.1, hr.2]
          rfl
      have hlen : (cands (qB l (picked.set b true) but) l.length).length ≤ r := by
        rw [← hq, he, nodup_cut C1 C2 b (he ▸ cands_nodup _ _)]
        have : (C1 ++ b :: C2).length ≤ r + 1 := by rw [← he]; exact hc
        simp at this ⊢
        omega
      have ih := order_loop l but hl r (k + 1) (picked.set b true) (out ++ [(b : Int)]) n (by omega) (by simpa using hp) hlen (by omega) (by simp; omega)
      rw [ih]
      rw [hq]
      simp
def ordN (l : List QT) (but : Int) : List Nat := sel l l.length (cands (fun i => !((itm l i).1 == but)) l.length)
theorem law22_order.pure (l : List QT) (but : Int) (hl : l.length ≤ 1000) : law22_order.f BIG l but = some ((ordN l but).map fun i : Nat => (i : Int)) := by
  unfold law22_order.f law22_order.b
  rw [if_pos (by omega)]
  have hz : List.replicate (Int.toNat ((l.length : Nat) : Int)) (zeroI Go.Den.Ty.bool) = List.replicate l.length false := by rw [Int.toNat_natCast]; rfl
  rw [hz]
  have hq : qB l (List.replicate l.length false) but = fun i => !((itm l i).1 == but) := by
    funext i
    unfold qB
    have : (List.replicate l.length false).getD i false = false := by
      show ((List.replicate l.length false)[i]?).getD false = false
      rw [List.getElem?_replicate]
      split <;> rfl
    rw [this]; rfl
  have e := order_loop l but hl l.length 0 (List.replicate l.length false) [] BIG (by omega) (by simp) (cands_len _ _) (by rw [BIG_eq]; omega) (by simp)
  rw [hq] at e
  refine Eq.trans e ?_
  simp [ordN]
theorem ordN_items (l : List QT) (but : Int) : (ordN l but).map (itm l) = (isort l.reverse).filter (fun x => !(x.1 == but)) := sel_isort l (fun x => !(x.1 == but)) l.length (Nat.le_refl _)
theorem law22_without.loop (l : List QT) (id : Int) : ∀ (suf pre acc : List QT) (n : Nat), pre ++ suf = l → acc.length ≤ pre.length → l.length ≤ 1000 → suf.length < n →
    law22_without.l3 BIG l id n ((pre.length : Nat) : Int) acc = some (acc ++ qDrop suf id)
  | suf, pre, acc, 0, _, _, _, h => absurd h (by omega)
  | [], pre, acc, n + 1, he, ha, hl, h => by
    rw [law22_without.l3_at BIG (n + 1) n rfl]
    unfold law22_without.b3
    rw [if_neg (by rw [← he]; simp)]
    simp [qDrop]
  | x :: suf, pre, acc, n + 1, he, ha, hl, h => by
    simp at h
    have hpl : pre.length + (suf.length + 1) ≤ 1000 := by rw [← he] at hl; simp at hl; omega
    have hi : idx l ((pre.length : Nat) : Int) = some x := by rw [← he]; exact idx_mid pre x suf
    rw [law22_without.l3_at BIG (n + 1) n rfl]
    unfold law22_without.b3
    rw [if_pos (by rw [← he]; simp; omega), hi]
    dsimp only
    have e2 : (pre ++ [x]).length = pre.length + 1 := by simp
    by_cases hx : x.1 = id
    · rw [if_neg (by simp [hx]), lenw _ (by omega)]
      have ih := law22_without.loop l id suf (pre ++ [x]) acc n (by rw [← he]; simp) (by simp; omega) hl (by omega)
      rw [e2] at ih
      rw [ih]
      simp [qDrop, pDrop, hx]
    · rw [if_pos (by simp [hx]), if_pos (by unfold lim; simp; omega), lenw _ (by omega)]
      have ih := law22_without.loop l id suf (pre ++ [x]) (acc ++ [x]) n (by rw [← he]; simp) (by simp; omega) hl (by omega)
      rw [e2] at ih
      refine Eq.trans ih ?_
      simp [qDrop, pDrop, hx]
theorem law22_without.pure (l : List QT) (id : Int) (hl : l.length ≤ 1000) : law22_without.f BIG l id = some (qDrop l id) := by
  unfold law22_without.f law22_without.b
  exact law22_without.loop l id l [] [] BIG rfl (Nat.le_refl _) hl (by rw [BIG_eq]; omega)
noncomputable def law22_QueuePlays_E : Env := ⟨th, gam [(15, s_law22_awake), (16, s_queue_New), (17, s_queue_Queue_Put), (18, s_law22_without), (19, s_queue_Queue_Drop), (20, s_law22_order), (21, s_queue_Queue_Take), (22, s_queue_Queue_All)], fun i => if i = 6 then ⟨[0, 3, 4, 5], [(4, 47, (.pair (.int .i64) (.int .i64))), (1192, 47, (.pair (.int .i64) (.int .i64)))], []⟩ else if i = 26 then ⟨[0, 3, 4, 5, 6, 7, 8, 9, 10, 11], [], []⟩ else if i = 33 then ⟨[0, 3, 4, 5, 6, 10, 12, 13], [(12, 47, (.pair (.int .i64) (.int .i64)))], []⟩ else if i = 46 then ⟨[0, 3, 4, 5, 15, 16, 17], [], []⟩ else if i = 50 then ⟨[0, 3, 4, 5, 15, 16, 17, 18, 19], [], []⟩ else if i = 7 then ⟨[0, 3, 4, 5], [], [777777]⟩ else if i = 41 then ⟨[0, 3, 4, 5], [], [777777]⟩ else if i = 20 then ⟨[0, 3, 4, 5, 6, 7, 8, 9], [], [777777]⟩ else if i = 22 then ⟨[0, 3, 4, 5, 6, 7, 8, 9], [], [777777]⟩ else if i = 34 then ⟨[0, 3, 4, 5, 6, 10, 12, 13], [], [777777]⟩ else if i = 38 then ⟨[0, 3, 4, 5, 6, 10, 12, 13, 14], [], [777777]⟩ else if i = 47 then ⟨[0, 3, 4, 5, 15, 16, 17], [], [777777]⟩ else if i = 51 then ⟨[0, 3, 4, 5, 15, 16, 17, 18, 19], [], [777777]⟩ else ⟨[], [], []⟩⟩
noncomputable def law22_QueuePlays.k (rs : List AV) (os : List Den.Obj) : Option Bool :=
  match rs, os with
  | [.d .bool r0], [] => some r0
  | _, _ => none
noncomputable def law22_QueuePlays.s51 (l : List (Int × Int × Int × Int × Int)) (x28 : Int) (x29 : Int) (x30 : Int) (x31 : Int) (x32 : (List (Int × Int))) (x33 : (List (Int × Int))) (x34 : (List (Int × Int))) (x35 : (List Bool)) : St := ⟨[.d (.sl (.pair (.int .i64) (.pair (.int .i64) (.pair (.int .i64) (.pair (.int .i64) (.int .i64)))))) (l), .dead, .dead, .ptr 64 0, .row 66, .d (.int .i64) x28, .dead, .dead, .dead, .dead, .dead, .dead, .dead, .dead, .dead, .row 67, .row 68, .d (.int .i64) x29, .d (.int .i64) x30, .d (.int .i64) x31, .dead, .dead, .dead, .dead, .dead, .dead, .dead, .dead, .dead, .dead, .dead, .dead, .dead, .dead, .dead, .dead, .dead, .dead, .dead, .dead, .dead, .dead, .dead, .dead, .dead, .dead, .dead, .dead, .dead, .dead, .dead, .dead, .dead, .dead, .dead, .dead, .dead, .dead, .dead, .dead, .dead, .dead, .dead, .dead, .dead, .dead, .dead, .dead, .dead, .dead, .dead, .dead, .dead, .dead, .dead, .dead, .dead, .dead, .dead, .dead, .dead, .dead, .dead, .dead, .dead, .dead, .dead, .dead, .dead, .dead, .dead, .dead, .dead, .dead, .dead, .dead, .dead, .dead, .dead, .dead, .dead, .dead, .dead, .dead, .dead, .dead, .dead, .dead, .dead, .dead, .dead, .dead, .dead, .dead, .dead, .dead, .dead, .dead, .dead, .dead, .dead, .dead, .dead, .dead, .dead, .dead, .dead, .dead, .dead, .dead, .dead, .dead, .dead, .dead, .dead, .dead, .dead, .dead, .dead, .dead, .dead, .dead, .dead, .dead, .dead, .dead, .dead, .dead, .dead, .dead, .dead, .dead, .dead, .dead, .dead, .dead, .dead, .dead, .dead, .dead, .dead, .dead, .dead, .dead, .dead, .dead, .dead, .dead, .dead, .dead, .dead, .dead, .dead, .dead, .dead, .dead, .dead, .dead, .dead, .dead, .dead, .dead, .dead, .dead, .dead, .dead, .dead, .dead, .dead, .dead, .dead, .dead, .dead, .dead, .dead, .dead, .dead, .dead, .dead, .dead, .dead, .dead, .dead, .dead, .dead, .dead, .dead, .dead, .dead, .dead, .dead, .dead, .dead, .dead, .dead, .dead, .dead, .dead, .dead, .dead, .dead, .dead, .dead, .dead, .dead], ofL [(64, .box [.row 65]), (65, .row 47 (.pair (.int .i64) (.int .i64)) x32 false), (66, .row 47 (.pair (.int .i64) (.int .i64)) x33 false), (67, .row 47 (.pair (.int .i64) (.int .i64)) x34 false), (68, .row 4 .bool x35 false)], 0⟩
noncomputable def law22_QueuePlays.b51 (l : List (Int × Int × Int × Int × Int)) (A6 : Int → (List (Int × Int)) → (List (Int × Int)) → Option Bool) (A46 : Int → Int → (List (Int × Int)) → (List (Int × Int)) → (List (Int × Int)) → (List Bool) → Option Bool) (A50 : Int → Int → Int → Int → (List (Int × Int)) → (List (Int × Int)) → (List (Int × Int)) → (List Bool) → Option Bool) (A51 : Int → Int → Int → Int → (List (Int × Int)) → (List (Int × Int)) → (List (Int × Int)) → (List Bool) → Option Bool) (x28 : Int) (x29 : Int) (x30 : Int) (x31 : Int) (x32 : (List (Int × Int))) (x33 : (List (Int × Int))) (x34 : (List (Int × Int))) (x35 : (List Bool)) : Option Bool :=
  A50 x28 x29 x30 (Go.IntKind.wrap .i64 (x31 - (1 : Int))) x32 x33 x34 x35
noncomputable def law22_QueuePlays.l51 (fuel : Nat) (l : List (Int × Int × Int × Int × Int)) (A6 : Int → (List (Int × Int)) → (List (Int × Int)) → Option Bool) (A46 : Int → Int → (List (Int × Int)) → (List (Int × Int)) → (List (Int × Int)) → (List Bool) → Option Bool) (A50 : Int → Int → Int → Int → (List (Int × Int)) → (List (Int × Int)) → (List (Int × Int)) → (List Bool) → Option Bool) : Nat → Int → Int → Int → Int → (List (Int × Int)) → (List (Int × Int)) → (List (Int × Int)) → (List Bool) → Option Bool
  | 0, _, _, _, _, _, _, _, _ => none
  | k + 1, x28, x29, x30, x31, x32, x33, x34, x35 => law22_QueuePlays.b51 l A6 A46 A50 (law22_QueuePlays.l51 fuel l A6 A46 A50 k) x28 x29 x30 x31 x32 x33 x34 x35
noncomputable def law22_QueuePlays.s47 (l : List (Int × Int × Int × Int × Int)) (x50 : Int) (x51 : Int) (x52 : (List (Int × Int))) (x53 : (List (Int × Int))) (x54 : (List (Int × Int))) (x55 : (List Bool)) : St := ⟨[.d (.sl (.pair (.int .i64) (.pair (.int .i64) (.pair (.int .i64) (.pair (.int .i64) (.int .i64)))))) (l), .dead, .dead, .ptr 64 0, .row 66, .d (.int .i64) x50, .dead, .dead, .dead, .dead, .dead, .dead, .dead, .dead, .dead, .row 67, .row 68, .d (.int .i64) x51, .dead, .dead, .dead, .dead, .dead, .dead, .dead, .dead, .dead, .dead, .dead, .dead, .dead, .dead, .dead, .dead, .dead, .dead, .dead, .dead, .dead, .dead, .dead, .dead, .dead, .dead, .dead, .dead, .dead, .dead, .dead, .dead, .dead, .dead, .dead, .dead, .dead, .dead, .dead, .dead, .dead, .dead, .dead, .dead, .dead, .dead, .dead, .dead, .dead, .dead, .dead, .dead, .dead, .dead, .dead, .dead, .dead, .dead, .dead, .dead, .dead, .dead, .dead, .dead, .dead, .dead, .dead, .dead, .dead, .dead, .dead, .dead, .dead, .dead, .dead, .dead, .dead, .dead, .dead, .dead, .dead, .dead, .dead, .dead, .dead, .dead, .dead, .dead, .dead, .dead, .dead, .dead, .dead, .dead, .dead, .dead, .dead, .dead, .dead, .dead, .dead, .dead, .dead, .dead, .dead, .dead, .dead, .dead, .dead, .dead, .dead, .dead, .dead, .dead, .dead, .dead, .dead, .dead, .dead, .dead, .dead, .dead, .dead, .dead, .dead, .dead, .dead, .dead, .dead, .dead, .dead, .dead, .dead, .dead, .dead, .dead, .dead, .dead, .dead, .dead, .dead, .dead, .dead, .dead, .dead, .dead, .dead, .dead, .dead, .dead, .dead, .dead, .dead, .dead, .dead, .dead, .dead, .dead, .dead, .dead, .dead, .dead, .dead, .dead, .dead, .dead, .dead, .dead, .dead, .dead, .dead, .dead, .dead, .dead, .dead, .dead, .dead, .dead, .dead, .dead, .dead, .dead, .dead, .dead, .dead, .dead, .dead, .dead, .dead, .dead, .dead, .dead, .dead, .dead, .dead, .dead, .dead, .dead, .dead, .dead, .dead, .dead, .dead, .dead, .dead, .dead, .dead], ofL [(64, .box [.row 65]), (65, .row 47 (.pair (.int .i64) (.int .i64)) x52 false), (66, .row 47 (.pair (.int .i64) (.int .i64)) x53 false), (67, .row 47 (.pair (.int .i64) (.int .i64)) x54 false), (68, .row 4 .bool x55 false)], 0⟩
noncomputable def law22_QueuePlays.b47 (l : List (Int × Int × Int × Int × Int)) (A6 : Int → (List (Int × Int)) → (List (Int × Int)) → Option Bool) (A46 : Int → Int → (List (Int × Int)) → (List (Int × Int)) → (List (Int × Int)) → (List Bool) → Option Bool) (A47 : Int → Int → (List (Int × Int)) → (List (Int × Int)) → (List (Int × Int)) → (List Bool) → Option Bool) (x50 : Int) (x51 : Int) (x52 : (List (Int × Int))) (x53 : (List (Int × Int))) (x54 : (List (Int × Int))) (x55 : (List Bool)) : Option Bool :=
  A46 x50 (Go.IntKind.wrap .i64 (x51 + (1 : Int))) x52 x53 x54 x55
noncomputable def law22_QueuePlays.l47 (fuel : Nat) (l : List (Int × Int × Int × Int × Int)) (A6 : Int → (List (Int × Int)) → (List (Int × Int)) → Option Bool) (A46 : Int → Int → (List (Int × Int)) → (List (Int × Int)) → (List (Int × Int)) → (List Bool) → Option Bool) : Nat → Int → Int → (List (Int × Int)) → (List (Int × Int)) → (List (Int × Int)) → (List Bool) → Option Bool
  | 0, _, _, _, _, _, _ => none
  | k + 1, x50, x51, x52, x53, x54, x55 => law22_QueuePlays.b47 l A6 A46 (law22_QueuePlays.l47 fuel l A6 A46 k) x50 x51 x52 x53 x54 x55
noncomputable def law22_QueuePlays.s50 (l : List (Int × Int × Int × Int × Int)) (x18 : Int) (x19 : Int) (x20 : Int) (x21 : Int) (x22 : (List (Int × Int))) (x23 : (List (Int × Int))) (x24 : (List (Int × Int))) (x25 : (List Bool)) : St := ⟨[.d (.sl (.pair (.int .i64) (.pair (.int .i64) (.pair (.int .i64) (.pair (.int .i64) (.int .i64)))))) (l), .dead, .dead, .ptr 64 0, .row 66, .d (.int .i64) x18, .dead, .dead, .dead, .dead, .dead, .dead, .dead, .dead, .dead, .row 67, .row 68, .d (.int .i64) x19, .d (.int .i64) x20, .d (.int .i64) x21, .dead, .dead, .dead, .dead, .dead, .dead, .dead, .dead, .dead, .dead, .dead, .dead, .dead, .dead, .dead, .dead, .dead, .dead, .dead, .dead, .dead, .dead, .dead, .dead, .dead, .dead, .dead, .dead, .dead, .dead, .dead, .dead, .dead, .dead, .dead, .dead, .dead, .dead, .dead, .dead, .dead, .dead, .dead, .dead, .dead, .dead, .dead, .dead, .dead, .dead, .dead, .dead, .dead, .dead, .dead, .dead, .dead, .dead, .dead, .dead, .dead, .dead, .dead, .dead, .dead, .dead, .dead, .dead, .dead, .dead, .dead, .dead, .dead, .dead, .dead, .dead, .dead, .dead, .dead, .dead, .dead, .dead, .dead, .dead, .dead, .dead, .dead, .dead, .dead, .dead, .dead, .dead, .dead, .dead, .dead, .dead, .dead, .dead, .dead, .dead, .dead, .dead, .dead, .dead, .dead, .dead, .dead, .dead, .dead, .dead, .dead, .dead, .dead, .dead, .dead, .dead, .dead, .dead, .dead, .dead, .dead, .dead, .dead, .dead, .dead, .dead, .dead, .dead, .dead, .dead, .dead, .dead, .dead, .dead, .dead, .dead, .dead, .dead, .dead, .dead, .dead, .dead, .dead, .dead, .dead, .dead, .dead, .dead, .dead, .dead, .dead, .dead, .dead, .dead, .dead, .dead, .dead, .dead, .dead, .dead, .dead, .dead, .dead, .dead, .dead, .dead, .dead, .dead, .dead, .dead, .dead, .dead, .dead, .dead, .dead, .dead, .dead, .dead, .dead, .dead, .dead, .dead, .dead, .dead, .dead, .dead, .dead, .dead, .dead, .dead, .dead, .dead, .dead, .dead, .dead, .dead, .dead, .dead, .dead, .dead, .dead, .dead, .dead, .dead, .dead], ofL [(64, .box [.row 65]), (65, .row 47 (.pair (.int .i64) (.int .i64)) x22 false), (66, .row 47 (.pair (.int .i64) (.int .i64)) x23 false), (67, .row 47 (.pair (.int .i64) (.int .i64)) x24 false), (68, .row 4 .bool x25 false)], 0⟩
noncomputable def law22_QueuePlays.b50 (l : List (Int × Int × Int × Int × Int)) (A6 : Int → (List (Int × Int)) → (List (Int × Int)) → Option Bool) (A46 : Int → Int → (List (Int × Int)) → (List (Int × Int)) → (List (Int × Int)) → (List Bool) → Option Bool) (A50 : Int → Int → Int → Int → (List (Int × Int)) → (List (Int × Int)) → (List (Int × Int)) → (List Bool) → Option Bool) (E51 : Int → Int → Int → Int → (List (Int × Int)) → (List (Int × Int)) → (List (Int × Int)) → (List Bool) → Option Bool) (E47 : Int → Int → (List (Int × Int)) → (List (Int × Int)) → (List (Int × Int)) → (List Bool) → Option Bool) (x18 : Int) (x19 : Int) (x20 : Int) (x21 : Int) (x22 : (List (Int × Int))) (x23 : (List (Int × Int))) (x24 : (List (Int × Int))) (x25 : (List Bool)) : Option Bool :=
  (if (decide (x21 ≥ (0 : Int))) then (match (idx x25 x21) with | none => none | some y26 => (match (idx x25 x21) with | none => none | some y27 => (if (!y27) then (if (decide (x20 < (0 : Int))) then E51 x18 x19 x21 x21 x22 x23 x24 x25 else (match (idx x23 x21) with | none => none | some y36 => (match (idx x23 x21) with | none => none | some y37 => (match (idx x23 x20) with | none => none | some y38 => (match (idx x23 x20) with | none => none | some y39 => (if (decide (y37.2 < y39.2)) then E51 x18 x19 x21 x21 x22 x23 x24 x25 else E51 x18 x19 x20 x21 x22 x23 x24 x25)))))) else E51 x18 x19 x20 x21 x22 x23 x24 x25))) else (match (idx x25 x20) with | none => none | some y40 => (match (idx x25 x20) with | none => none | some y41 => (match (idx x24 x19) with | none => none | some y42 => (match (idx x24 x19) with | none => none | some y43 => (match (idx x23 x20) with | none => none | some y44 => (match (idx x23 x20) with | none => none | some y45 => (if (y43.1 != y45.1) then some (false) else (match (idx x24 x19) with | none => none | some y46 => (match (idx x24 x19) with | none => none | some y47 => (match (idx x23 x20) with | none => none | some y48 => (match (idx x23 x20) with | none => none | some y49 => (if (y47.2 != y49.2) then some (false) else E47 x18 x19 x22 x23 x24 (List.set x25 (Int.toNat x20) true))))))))))))))
noncomputable def law22_QueuePlays.l50 (fuel : Nat) (l : List (Int × Int × Int × Int × Int)) (A6 : Int → (List (Int × Int)) → (List (Int × Int)) → Option Bool) (A46 : Int → Int → (List (Int × Int)) → (List (Int × Int)) → (List (Int × Int)) → (List Bool) → Option Bool) : Nat → Int → Int → Int → Int → (List (Int × Int)) → (List (Int × Int)) → (List (Int × Int)) → (List Bool) → Option Bool
  | 0, _, _, _, _, _, _, _, _ => none
  | k + 1, x18, x19, x20, x21, x22, x23, x24, x25 => law22_QueuePlays.b50 l A6 A46 (law22_QueuePlays.l50 fuel l A6 A46 k) (law22_QueuePlays.l51 fuel l A6 A46 (law22_QueuePlays.l50 fuel l A6 A46 k) fuel) (law22_QueuePlays.l47 fuel l A6 A46 fuel) x18 x19 x20 x21 x22 x23 x24 x25
noncomputable def law22_QueuePlays.s7 (l : List (Int × Int × Int × Int × Int)) (x56 : Int) (x57 : (List (Int × Int))) (x58 : (List (Int × Int))) : St := ⟨[.d (.sl (.pair (.int .i64) (.pair (.int .i64) (.pair (.int .i64) (.pair (.int .i64) (.int .i64)))))) (l), .dead, .dead, .ptr 64 0, .row 66, .d (.int .i64) x56, .dead, .dead, .dead, .dead, .dead, .dead, .dead, .dead, .dead, .dead, .dead, .dead, .dead, .dead, .dead, .dead, .dead, .dead, .dead, .dead, .dead, .dead, .dead, .dead, .dead, .dead, .dead, .dead, .dead, .dead, .dead, .dead, .dead, .dead, .dead, .dead, .dead, .dead, .dead, .dead, .dead, .dead, .dead, .dead, .dead, .dead, .dead, .dead, .dead, .dead, .dead, .dead, .dead, .dead, .dead, .dead, .dead, .dead, .dead, .dead, .dead, .dead, .dead, .dead, .dead, .dead, .dead, .dead, .dead, .dead, .dead, .dead, .dead, .dead, .dead, .dead, .dead, .dead, .dead, .dead, .dead, .dead, .dead, .dead, .dead, .dead, .dead, .dead, .dead, .dead, .dead, .dead, .dead, .dead, .dead, .dead, .dead, .dead, .dead, .dead, .dead, .dead, .dead, .dead, .dead, .dead, .dead, .dead, .dead, .dead, .dead, .dead, .dead, .dead, .dead, .dead, .dead, .dead, .dead, .dead, .dead, .dead, .dead, .dead, .dead, .dead, .dead, .dead, .dead, .dead, .dead, .dead, .dead, .dead, .dead, .dead, .dead, .dead, .dead, .dead, .dead, .dead, .dead, .dead, .dead, .dead, .dead, .dead, .dead, .dead, .dead, .dead, .dead, .dead, .dead, .dead, .dead, .dead, .dead, .dead, .dead, .dead, .dead, .dead, .dead, .dead, .dead, .dead, .dead, .dead, .dead, .dead, .dead, .dead, .dead, .dead, .dead, .dead, .dead, .dead, .dead, .dead, .dead, .dead, .dead, .dead, .dead, .dead, .dead, .dead, .dead, .dead, .dead, .dead, .dead, .dead, .dead, .dead, .dead, .dead, .dead, .dead, .dead, .dead, .dead, .dead, .dead, .dead, .dead, .dead, .dead, .dead, .dead, .dead, .dead, .dead, .dead, .dead, .dead], ofL [(64, .box [.row 65]), (65, .row 47 (.pair (.int .i64) (.int .i64)) x57 false), (66, .row 47 (.pair (.int .i64) (.int .i64)) x58 false)], 0⟩
noncomputable def law22_QueuePlays.b7 (l : List (Int × Int × Int × Int × Int)) (A6 : Int → (List (Int × Int)) → (List (Int × Int)) → Option Bool) (A7 : Int → (List (Int × Int)) → (List (Int × Int)) → Option Bool) (x56 : Int) (x57 : (List (Int × Int))) (x58 : (List (Int × Int))) : Option Bool :=
  A6 (Go.IntKind.wrap .i64 (x56 + (1 : Int))) x57 x58
noncomputable def law22_QueuePlays.l7 (fuel : Nat) (l : List (Int × Int × Int × Int × Int)) (A6 : Int → (List (Int × Int)) → (List (Int × Int)) → Option Bool) : Nat → Int → (List (Int × Int)) → (List (Int × Int)) → Option Bool
  | 0, _, _, _ => none
  | k + 1, x56, x57, x58 => law22_QueuePlays.b7 l A6 (law22_QueuePlays.l7 fuel l A6 k) x56 x57 x58
noncomputable def law22_QueuePlays.s46 (l : List (Int × Int × Int × Int × Int)) (x12 : Int) (x13 : Int) (x14 : (List (Int × Int))) (x15 : (List (Int × Int))) (x16 : (List (Int × Int))) (x17 : (List Bool)) : St := ⟨[.d (.sl (.pair (.int .i64) (.pair (.int .i64) (.pair (.int .i64) (.pair (.int .i64) (.int .i64)))))) (l), .dead, .dead, .ptr 64 0, .row 66, .d (.int .i64) x12, .dead, .dead, .dead, .dead, .dead, .dead, .dead, .dead, .dead, .row 67, .row 68, .d (.int .i64) x13, .dead, .dead, .dead, .dead, .dead, .dead, .dead, .dead, .dead, .dead, .dead, .dead, .dead, .dead, .dead, .dead, .dead, .dead, .dead, .dead, .dead, .dead, .dead, .dead, .dead, .dead, .dead, .dead, .dead, .dead, .dead, .dead, .dead, .dead, .dead, .dead, .dead, .dead, .dead, .dead, .dead, .dead, .dead, .dead, .dead, .dead, .dead, .dead, .dead, .dead, .dead, .dead, .dead, .dead, .dead, .dead, .dead, .dead, .dead, .dead, .dead, .dead, .dead, .dead, .dead, .dead, .dead, .dead, .dead, .dead, .dead, .dead, .dead, .dead, .dead, .dead, .dead, .dead, .dead, .dead, .dead, .dead, .dead, .dead, .dead, .dead, .dead, .dead, .dead, .dead, .dead, .dead, .dead, .dead, .dead, .dead, .dead, .dead, .dead, .dead, .dead, .dead, .dead, .dead, .dead, .dead, .dead, .dead, .dead, .dead, .dead, .dead, .dead, .dead, .dead, .dead, .dead, .dead, .dead, .dead, .dead, .dead, .dead, .dead, .dead, .dead, .dead, .dead, .dead, .dead, .dead, .dead, .dead, .dead, .dead, .dead, .dead, .dead, .dead, .dead, .dead, .dead, .dead, .dead, .dead, .dead, .dead, .dead, .dead, .dead, .dead, .dead, .dead, .dead, .dead, .dead, .dead, .dead, .dead, .dead, .dead, .dead, .dead, .dead, .dead, .dead, .dead, .dead, .dead, .dead, .dead, .dead, .dead, .dead, .dead, .dead, .dead, .dead, .dead, .dead, .dead, .dead, .dead, .dead, .dead, .dead, .dead, .dead, .dead, .dead, .dead, .dead, .dead, .dead, .dead, .dead, .dead, .dead, .dead, .dead, .dead, .dead, .dead, .dead, .dead, .dead, .dead], ofL [(64, .box [.row 65]), (65, .row 47 (.pair (.int .i64) (.int .i64)) x14 false), (66, .row 47 (.pair (.int .i64) (.int .i64)) x15 false), (67, .row 47 (.pair (.int .i64) (.int .i64)) x16 false), (68, .row 4 .bool x17 false)], 0⟩
noncomputable def law22_QueuePlays.b46 (l : List (Int × Int × Int × Int × Int)) (A6 : Int → (List (Int × Int)) → (List (Int × Int)) → Option Bool) (A46 : Int → Int → (List (Int × Int)) → (List (Int × Int)) → (List (Int × Int)) → (List Bool) → Option Bool) (E50 : Int → Int → Int → Int → (List (Int × Int)) → (List (Int × Int)) → (List (Int × Int)) → (List Bool) → Option Bool) (E7 : Int → (List (Int × Int)) → (List (Int × Int)) → Option Bool) (x12 : Int) (x13 : Int) (x14 : (List (Int × Int))) (x15 : (List (Int × Int))) (x16 : (List (Int × Int))) (x17 : (List Bool)) : Option Bool :=
  (if (decide (x13 < ((((List.length x15)) : Nat) : Int))) then E50 x12 x13 (-(1 : Int)) (Go.IntKind.wrap .i64 (((((List.length x15)) : Nat) : Int) - (1 : Int))) x14 x15 x16 x17 else E7 x12 x14 x15)
noncomputable def law22_QueuePlays.l46 (fuel : Nat) (l : List (Int × Int × Int × Int × Int)) (A6 : Int → (List (Int × Int)) → (List (Int × Int)) → Option Bool) : Nat → Int → Int → (List (Int × Int)) → (List (Int × Int)) → (List (Int × Int)) → (List Bool) → Option Bool
  | 0, _, _, _, _, _, _ => none
  | k + 1, x12, x13, x14, x15, x16, x17 => law22_QueuePlays.b46 l A6 (law22_QueuePlays.l46 fuel l A6 k) (law22_QueuePlays.l50 fuel l A6 (law22_QueuePlays.l46 fuel l A6 k) fuel) (law22_QueuePlays.l7 fuel l A6 fuel) x12 x13 x14 x15 x16 x17
noncomputable def law22_QueuePlays.s41 (l : List (Int × Int × Int × Int × Int)) (x8 : Int) (x9 : (List (Int × Int))) (x10 : (List (Int × Int))) : St := ⟨[.d (.sl (.pair (.int .i64) (.pair (.int .i64) (.pair (.int .i64) (.pair (.int .i64) (.int .i64)))))) (l), .dead, .dead, .ptr 64 0, .row 66, .d (.int .i64) x8, .dead, .dead, .dead, .dead, .dead, .dead, .dead, .dead, .dead, .dead, .dead, .dead, .dead, .dead, .dead, .dead, .dead, .dead, .dead, .dead, .dead, .dead, .dead, .dead, .dead, .dead, .dead, .dead, .dead, .dead, .dead, .dead, .dead, .dead, .dead, .dead, .dead, .dead, .dead, .dead, .dead, .dead, .dead, .dead, .dead, .dead, .dead, .dead, .dead, .dead, .dead, .dead, .dead, .dead, .dead, .dead, .dead, .dead, .dead, .dead, .dead, .dead, .dead, .dead, .dead, .dead, .dead, .dead, .dead, .dead, .dead, .dead, .dead, .dead, .dead, .dead, .dead, .dead, .dead, .dead, .dead, .dead, .dead, .dead, .dead, .dead, .dead, .dead, .dead, .dead, .dead, .dead, .dead, .dead, .dead, .dead, .dead, .dead, .dead, .dead, .dead, .dead, .dead, .dead, .dead, .dead, .dead, .dead, .dead, .dead, .dead, .dead, .dead, .dead, .dead, .dead, .dead, .dead, .dead, .dead, .dead, .dead, .dead, .dead, .dead, .dead, .dead, .dead, .dead, .dead, .dead, .dead, .dead, .dead, .dead, .dead, .dead, .dead, .dead, .dead, .dead, .dead, .dead, .dead, .dead, .dead, .dead, .dead, .dead, .dead, .dead, .dead, .dead, .dead, .dead, .dead, .dead, .dead, .dead, .dead, .dead, .dead, .dead, .dead, .dead, .dead, .dead, .dead, .dead, .dead, .dead, .dead, .dead, .dead, .dead, .dead, .dead, .dead, .dead, .dead, .dead, .dead, .dead, .dead, .dead, .dead, .dead, .dead, .dead, .dead, .dead, .dead, .dead, .dead, .dead, .dead, .dead, .dead, .dead, .dead, .dead, .dead, .dead, .dead, .dead, .dead, .dead, .dead, .dead, .dead, .dead, .dead, .dead, .dead, .dead, .dead, .dead, .dead, .dead], ofL [(64, .box [.row 65]), (65, .row 47 (.pair (.int .i64) (.int .i64)) x9 false), (66, .row 47 (.pair (.int .i64) (.int .i64)) x10 false)], 0⟩
noncomputable def law22_QueuePlays.b41 (l : List (Int × Int × Int × Int × Int)) (A6 : Int → (List (Int × Int)) → (List (Int × Int)) → Option Bool) (A41 : Int → (List (Int × Int)) → (List (Int × Int)) → Option Bool) (E46 : Int → Int → (List (Int × Int)) → (List (Int × Int)) → (List (Int × Int)) → (List Bool) → Option Bool) (x8 : Int) (x9 : (List (Int × Int))) (x10 : (List (Int × Int))) : Option Bool :=
  (match (veil (queue_Queue_All.f BIG x9)) with | none => none | some y11 => (if (((((List.length y11.2)) : Nat) : Int) != ((((List.length x10)) : Nat) : Int)) then some (false) else (if (((0 : Int) ≤ ((((List.length x10)) : Nat) : Int)) ∧ ((((((List.length x10)) : Nat) : Int) ≤ ((((List.length x10)) : Nat) : Int)) ∧ (((((((List.length x10)) : Nat) : Int) * ((((1 : Nat)) : Nat) : Int)) ≤ (1099511627776 : Int)) ∧ (((((List.length x10)) : Nat) : Int) ≤ (1099511627776 : Int))))) then E46 x8 (0 : Int) y11.1 x10 y11.2 (List.replicate (Int.toNat ((((List.length x10)) : Nat) : Int)) (zeroI Go.Den.Ty.bool)) else none)))
noncomputable def law22_QueuePlays.l41 (fuel : Nat) (l : List (Int × Int × Int × Int × Int)) (A6 : Int → (List (Int × Int)) → (List (Int × Int)) → Option Bool) : Nat → Int → (List (Int × Int)) → (List (Int × Int)) → Option Bool
  | 0, _, _, _ => none
  | k + 1, x8, x9, x10 => law22_QueuePlays.b41 l A6 (law22_QueuePlays.l41 fuel l A6 k) (law22_QueuePlays.l46 fuel l A6 fuel) x8 x9 x10
noncomputable def law22_QueuePlays.s34 (l : List (Int × Int × Int × Int × Int)) (x138 : Int) (x139 : Int) (x140 : (List (Int × Int))) (x141 : (List (Int × Int))) (x142 : Int) (x143 : Int) (x144 : Int) (x145 : Int) (x146 : Int) (x147 : (List Bool)) (x148 : (List (Int × Int))) : St := ⟨[.d (.sl (.pair (.int .i64) (.pair (.int .i64) (.pair (.int .i64) (.pair (.int .i64) (.int .i64)))))) (l), .dead, .dead, .ptr 64 0, .row 66, .d (.int .i64) x138, .ptr 67 0, .dead, .dead, .dead, .row 68, .dead, .row 69, .d (.int .i64) x139, .dead, .dead, .dead, .dead, .dead, .dead, .dead, .dead, .dead, .dead, .dead, .dead, .dead, .dead, .dead, .dead, .dead, .dead, .dead, .dead, .dead, .dead, .dead, .dead, .dead, .dead, .dead, .dead, .dead, .dead, .dead, .dead, .dead, .dead, .dead, .dead, .dead, .dead, .dead, .dead, .dead, .dead, .dead, .dead, .dead, .dead, .dead, .dead, .dead, .dead, .dead, .dead, .dead, .dead, .dead, .dead, .dead, .dead, .dead, .dead, .dead, .dead, .dead, .dead, .dead, .dead, .dead, .dead, .dead, .dead, .dead, .dead, .dead, .dead, .dead, .dead, .dead, .dead, .dead, .dead, .dead, .dead, .dead, .dead, .dead, .dead, .dead, .dead, .dead, .dead, .dead, .dead, .dead, .dead, .dead, .dead, .dead, .dead, .dead, .dead, .dead, .dead, .dead, .dead, .dead, .dead, .dead, .dead, .dead, .dead, .dead, .dead, .dead, .dead, .dead, .dead, .dead, .dead, .dead, .dead, .dead, .dead, .dead, .dead, .dead, .dead, .dead, .dead, .dead, .dead, .dead, .dead, .dead, .dead, .dead, .dead, .dead, .dead, .dead, .dead, .dead, .dead, .dead, .dead, .dead, .dead, .dead, .dead, .dead, .dead, .dead, .dead, .dead, .dead, .dead, .dead, .dead, .dead, .dead, .dead, .dead, .dead, .dead, .dead, .dead, .dead, .dead, .dead, .dead, .dead, .dead, .dead, .dead, .dead, .dead, .dead, .dead, .dead, .dead, .dead, .dead, .dead, .dead, .dead, .dead, .dead, .dead, .dead, .dead, .dead, .dead, .dead, .dead, .dead, .dead, .dead, .dead, .dead, .dead, .dead, .dead, .dead, .dead, .dead, .dead, .dead, .dead, .dead, .dead, .dead, .dead], ofL [(64, .box [.row 65]), (65, .row 47 (.pair (.int .i64) (.int .i64)) x140 false), (66, .row 47 (.pair (.int .i64) (.int .i64)) x141 true), (67, .box [.d (.int .i64) x142, .d (.int .i64) x143, .d (.int .i64) x144, .d (.int .i64) x145, .d (.int .i64) x146]), (68, .row 4 .bool x147 false), (69, .row 47 (.pair (.int .i64) (.int .i64)) x148 false)], 0⟩
noncomputable def law22_QueuePlays.b34 (l : List (Int × Int × Int × Int × Int)) (A6 : Int → (List (Int × Int)) → (List (Int × Int)) → Option Bool) (A33 : Int → Int → (List (Int × Int)) → (List (Int × Int)) → Int → Int → Int → Int → Int → (List Bool) → (List (Int × Int)) → Option Bool) (A34 : Int → Int → (List (Int × Int)) → (List (Int × Int)) → Int → Int → Int → Int → Int → (List Bool) → (List (Int × Int)) → Option Bool) (x138 : Int) (x139 : Int) (x140 : (List (Int × Int))) (x141 : (List (Int × Int))) (x142 : Int) (x143 : Int) (x144 : Int) (x145 : Int) (x146 : Int) (x147 : (List Bool)) (x148 : (List (Int × Int))) : Option Bool :=
  A33 x138 (Go.IntKind.wrap .i64 (x139 + (1 : Int))) x140 x141 x142 x143 x144 x145 x146 x147 x148
noncomputable def law22_QueuePlays.l34 (fuel : Nat) (l : List (Int × Int × Int × Int × Int)) (A6 : Int → (List (Int × Int)) → (List (Int × Int)) → Option Bool) (A33 : Int → Int → (List (Int × Int)) → (List (Int × Int)) → Int → Int → Int → Int → Int → (List Bool) → (List (Int × Int)) → Option Bool) : Nat → Int → Int → (List (Int × Int)) → (List (Int × Int)) → Int → Int → Int → Int → Int → (List Bool) → (List (Int × Int)) → Option Bool
  | 0, _, _, _, _, _, _, _, _, _, _, _ => none
  | k + 1, x138, x139, x140, x141, x142, x143, x144, x145, x146, x147, x148 => law22_QueuePlays.b34 l A6 A33 (law22_QueuePlays.l34 fuel l A6 A33 k) x138 x139 x140 x141 x142 x143 x144 x145 x146 x147 x148
noncomputable def law22_QueuePlays.s38 (l : List (Int × Int × Int × Int × Int)) (x123 : Int) (x124 : Int) (x125 : (List (Int × Int))) (x126 : (List (Int × Int))) (x127 : Int) (x128 : Int) (x129 : Int) (x130 : Int) (x131 : Int) (x132 : (List Bool)) (x133 : (List (Int × Int))) (x134 : Int) (x135 : Int) : St := ⟨[.d (.sl (.pair (.int .i64) (.pair (.int .i64) (.pair (.int .i64) (.pair (.int .i64) (.int .i64)))))) (l), .dead, .dead, .ptr 64 0, .row 66, .d (.int .i64) x123, .ptr 67 0, .dead, .dead, .dead, .row 68, .dead, .row 69, .d (.int .i64) x124, .ptr 70 0, .dead, .dead, .dead, .dead, .dead, .dead, .dead, .dead, .dead, .dead, .dead, .dead, .dead, .dead, .dead, .dead, .dead, .dead, .dead, .dead, .dead, .dead, .dead, .dead, .dead, .dead, .dead, .dead, .dead, .dead, .dead, .dead, .dead, .dead, .dead, .dead, .dead, .dead, .dead, .dead, .dead, .dead, .dead, .dead, .dead, .dead, .dead, .dead, .dead, .dead, .dead, .dead, .dead, .dead, .dead, .dead, .dead, .dead, .dead, .dead, .dead, .dead, .dead, .dead, .dead, .dead, .dead, .dead, .dead, .dead, .dead, .dead, .dead, .dead, .dead, .dead, .dead, .dead, .dead, .dead, .dead, .dead, .dead, .dead, .dead, .dead, .dead, .dead, .dead, .dead, .dead, .dead, .dead, .dead, .dead, .dead, .dead, .dead, .dead, .dead, .dead, .dead, .dead, .dead, .dead, .dead, .dead, .dead, .dead, .dead, .dead, .dead, .dead, .dead, .dead, .dead, .dead, .dead, .dead, .dead, .dead, .dead, .dead, .dead, .dead, .dead, .dead, .dead, .dead, .dead, .dead, .dead, .dead, .dead, .dead, .dead, .dead, .dead, .dead, .dead, .dead, .dead, .dead, .dead, .dead, .dead, .dead, .dead, .dead, .dead, .dead, .dead, .dead, .dead, .dead, .dead, .dead, .dead, .dead, .dead, .dead, .dead, .dead, .dead, .dead, .dead, .dead, .dead, .dead, .dead, .dead, .dead, .dead, .dead, .dead, .dead, .dead, .dead, .dead, .dead, .dead, .dead, .dead, .dead, .dead, .dead, .dead, .dead, .dead, .dead, .dead, .dead, .dead, .dead, .dead, .dead, .dead, .dead, .dead, .dead, .dead, .dead, .dead, .dead, .dead, .dead, .dead, .dead, .dead, .dead], ofL [(64, .box [.row 65]), (65, .row 47 (.pair (.int .i64) (.int .i64)) x125 false), (66, .row 47 (.pair (.int .i64) (.int .i64)) x126 true), (67, .box [.d (.int .i64) x127, .d (.int .i64) x128, .d (.int .i64) x129, .d (.int .i64) x130, .d (.int .i64) x131]), (68, .row 4 .bool x132 false), (69, .row 47 (.pair (.int .i64) (.int .i64)) x133 false), (70, .box [.d (.int .i64) x134, .d (.int .i64) x135])], 0⟩
noncomputable def law22_QueuePlays.b38 (l : List (Int × Int × Int × Int × Int)) (A6 : Int → (List (Int × Int)) → (List (Int × Int)) → Option Bool) (A33 : Int → Int → (List (Int × Int)) → (List (Int × Int)) → Int → Int → Int → Int → Int → (List Bool) → (List (Int × Int)) → Option Bool) (A38 : Int → Int → (List (Int × Int)) → (List (Int × Int)) → Int → Int → Int → Int → Int → (List Bool) → (List (Int × Int)) → Int → Int → Option Bool) (E34 : Int → Int → (List (Int × Int)) → (List (Int × Int)) → Int → Int → Int → Int → Int → (List Bool) → (List (Int × Int)) → Option Bool) (x123 : Int) (x124 : Int) (x125 : (List (Int × Int))) (x126 : (List (Int × Int))) (x127 : Int) (x128 : Int) (x129 : Int) (x130 : Int) (x131 : Int) (x132 : (List Bool)) (x133 : (List (Int × Int))) (x134 : Int) (x135 : Int) : Option Bool :=
  (match (idx x132 x124) with | none => none | some y136 => (match (idx x132 x124) with | none => none | some y137 => (if (!y137) then (if ((((List.length x133) + (List.length ((x134, x135) :: ([] : List (Int × Int))))) * (16 : Nat)) ≤ lim) then E34 x123 x124 x125 x126 x127 x128 x129 x130 x131 x132 (x133 ++ ((x134, x135) :: ([] : List (Int × Int)))) else none) else (if (decide (x135 < x130)) then (if ((((List.length x133) + (List.length ((x134, x135) :: ([] : List (Int × Int))))) * (16 : Nat)) ≤ lim) then E34 x123 x124 x125 x126 x127 x128 x129 x130 x131 x132 (x133 ++ ((x134, x135) :: ([] : List (Int × Int)))) else none) else E34 x123 x124 x125 x126 x127 x128 x129 x130 x131 x132 x133))))
noncomputable def law22_QueuePlays.l38 (fuel : Nat) (l : List (Int × Int × Int × Int × Int)) (A6 : Int → (List (Int × Int)) → (List (Int × Int)) → Option Bool) (A33 : Int → Int → (List (Int × Int)) → (List (Int × Int)) → Int → Int → Int → Int → Int → (List Bool) → (List (Int × Int)) → Option Bool) : Nat → Int → Int → (List (Int × Int)) → (List (Int × Int)) → Int → Int → Int → Int → Int → (List Bool) → (List (Int × Int)) → Int → Int → Option Bool
  | 0, _, _, _, _, _, _, _, _, _, _, _, _, _ => none
  | k + 1, x123, x124, x125, x126, x127, x128, x129, x130, x131, x132, x133, x134, x135 => law22_QueuePlays.b38 l A6 A33 (law22_QueuePlays.l38 fuel l A6 A33 k) (law22_QueuePlays.l34 fuel l A6 A33 fuel) x123 x124 x125 x126 x127 x128 x129 x130 x131 x132 x133 x134 x135
noncomputable def law22_QueuePlays.s33 (l : List (Int × Int × Int × Int × Int)) (x108 : Int) (x109 : Int) (x110 : (List (Int × Int))) (x111 : (List (Int × Int))) (x112 : Int) (x113 : Int) (x114 : Int) (x115 : Int) (x116 : Int) (x117 : (List Bool)) (x118 : (List (Int × Int))) : St := ⟨[.d (.sl (.pair (.int .i64) (.pair (.int .i64) (.pair (.int .i64) (.pair (.int .i64) (.int .i64)))))) (l), .dead, .dead, .ptr 64 0, .row 66, .d (.int .i64) x108, .ptr 67 0, .dead, .dead, .dead, .row 68, .dead, .row 69, .d (.int .i64) x109, .dead, .dead, .dead, .dead, .dead, .dead, .dead, .dead, .dead, .dead, .dead, .dead, .dead, .dead, .dead, .dead, .dead, .dead, .dead, .dead, .dead, .dead, .dead, .dead, .dead, .dead, .dead, .dead, .dead, .dead, .dead, .dead, .dead, .dead, .dead, .dead, .dead, .dead, .dead, .dead, .dead, .dead, .dead, .dead, .dead, .dead, .dead, .dead, .dead, .dead, .dead, .dead, .dead, .dead, .dead, .dead, .dead, .dead, .dead, .dead, .dead, .dead, .dead, .dead, .dead, .dead, .dead, .dead, .dead, .dead, .dead, .dead, .dead, .dead, .dead, .dead, .dead, .dead, .dead, .dead, .dead, .dead, .dead, .dead, .dead, .dead, .dead, .dead, .dead, .dead, .dead, .dead, .dead, .dead, .dead, .dead, .dead, .dead, .dead, .dead, .dead, .dead, .dead, .dead, .dead, .dead, .dead, .dead, .dead, .dead, .dead, .dead, .dead, .dead, .dead, .dead, .dead, .dead, .dead, .dead, .dead, .dead, .dead, .dead, .dead, .dead, .dead, .dead, .dead, .dead, .dead, .dead, .dead, .dead, .dead, .dead, .dead, .dead, .dead, .dead, .dead, .dead, .dead, .dead, .dead, .dead, .dead, .dead, .dead, .dead, .dead, .dead, .dead, .dead, .dead, .dead, .dead, .dead, .dead, .dead, .dead, .dead, .dead, .dead, .dead, .dead, .dead, .dead, .dead, .dead, .dead, .dead, .dead, .dead, .dead, .dead, .dead, .dead, .dead, .dead, .dead, .dead, .dead, .dead, .dead, .dead, .dead, .dead, .dead, .dead, .dead, .dead, .dead, .dead, .dead, .dead, .dead, .dead, .dead, .dead, .dead, .dead, .dead, .dead, .dead, .dead, .dead, .dead, .dead, .dead, .dead], ofL [(64, .box [.row 65]), (65, .row 47 (.pair (.int .i64) (.int .i64)) x110 false), (66, .row 47 (.pair (.int .i64) (.int .i64)) x111 true), (67, .box [.d (.int .i64) x112, .d (.int .i64) x113, .d (.int .i64) x114, .d (.int .i64) x115, .d (.int .i64) x116]), (68, .row 4 .bool x117 false), (69, .row 47 (.pair (.int .i64) (.int .i64)) x118 false)], 0⟩
noncomputable def law22_QueuePlays.b33 (l : List (Int × Int × Int × Int × Int)) (A6 : Int → (List (Int × Int)) → (List (Int × Int)) → Option Bool) (A33 : Int → Int → (List (Int × Int)) → (List (Int × Int)) → Int → Int → Int → Int → Int → (List Bool) → (List (Int × Int)) → Option Bool) (E38 : Int → Int → (List (Int × Int)) → (List (Int × Int)) → Int → Int → Int → Int → Int → (List Bool) → (List (Int × Int)) → Int → Int → Option Bool) (E41 : Int → (List (Int × Int)) → (List (Int × Int)) → Option Bool) (x108 : Int) (x109 : Int) (x110 : (List (Int × Int))) (x111 : (List (Int × Int))) (x112 : Int) (x113 : Int) (x114 : Int) (x115 : Int) (x116 : Int) (x117 : (List Bool)) (x118 : (List (Int × Int))) : Option Bool :=
  (if (decide (x109 < ((((List.length x111)) : Nat) : Int))) then (match (idx x111 x109) with | none => none | some y119 => (match (idx x111 x109) with | none => none | some y120 => (match (idx x117 x109) with | none => none | some y121 => (match (idx x117 x109) with | none => none | some y122 => (if y122 then E38 x108 x109 x110 x111 x112 x113 x114 x115 x116 x117 x118 y120.1 (Go.IntKind.wrap .i64 (y120.2 + (1 : Int))) else E38 x108 x109 x110 x111 x112 x113 x114 x115 x116 x117 x118 y120.1 y120.2))))) else E41 x108 x110 x118)
noncomputable def law22_QueuePlays.l33 (fuel : Nat) (l : List (Int × Int × Int × Int × Int)) (A6 : Int → (List (Int × Int)) → (List (Int × Int)) → Option Bool) : Nat → Int → Int → (List (Int × Int)) → (List (Int × Int)) → Int → Int → Int → Int → Int → (List Bool) → (List (Int × Int)) → Option Bool
  | 0, _, _, _, _, _, _, _, _, _, _, _ => none
  | k + 1, x108, x109, x110, x111, x112, x113, x114, x115, x116, x117, x118 => law22_QueuePlays.b33 l A6 (law22_QueuePlays.l33 fuel l A6 k) (law22_QueuePlays.l38 fuel l A6 (law22_QueuePlays.l33 fuel l A6 k) fuel) (law22_QueuePlays.l41 fuel l A6 fuel) x108 x109 x110 x111 x112 x113 x114 x115 x116 x117 x118
noncomputable def law22_QueuePlays.s26 (l : List (Int × Int × Int × Int × Int)) (x85 : Int) (x86 : Int) (x87 : Int) (x88 : (List (Int × Int))) (x89 : (List (Int × Int))) (x90 : Int) (x91 : Int) (x92 : Int) (x93 : Int) (x94 : Int) (x95 : (List Int)) (x96 : (List Int)) (x97 : (List Bool)) : St := ⟨[.d (.sl (.pair (.int .i64) (.pair (.int .i64) (.pair (.int .i64) (.pair (.int .i64) (.int .i64)))))) (l), .dead, .dead, .ptr 64 0, .row 66, .d (.int .i64) x85, .ptr 67 0, .row 68, .row 69, .d (.int .i64) x86, .row 70, .d (.int .i64) x87, .dead, .dead, .dead, .dead, .dead, .dead, .dead, .dead, .dead, .dead, .dead, .dead, .dead, .dead, .dead, .dead, .dead, .dead, .dead, .dead, .dead, .dead, .dead, .dead, .dead, .dead, .dead, .dead, .dead, .dead, .dead, .dead, .dead, .dead, .dead, .dead, .dead, .dead, .dead, .dead, .dead, .dead, .dead, .dead, .dead, .dead, .dead, .dead, .dead, .dead, .dead, .dead, .dead, .dead, .dead, .dead, .dead, .dead, .dead, .dead, .dead, .dead, .dead, .dead, .dead, .dead, .dead, .dead, .dead, .dead, .dead, .dead, .dead, .dead, .dead, .dead, .dead, .dead, .dead, .dead, .dead, .dead, .dead, .dead, .dead, .dead, .dead, .dead, .dead, .dead, .dead, .dead, .dead, .dead, .dead, .dead, .dead, .dead, .dead, .dead, .dead, .dead, .dead, .dead, .dead, .dead, .dead, .dead, .dead, .dead, .dead, .dead, .dead, .dead, .dead, .dead, .dead, .dead, .dead, .dead, .dead, .dead, .dead, .dead, .dead, .dead, .dead, .dead, .dead, .dead, .dead, .dead, .dead, .dead, .dead, .dead, .dead, .dead, .dead, .dead, .dead, .dead, .dead, .dead, .dead, .dead, .dead, .dead, .dead, .dead, .dead, .dead, .dead, .dead, .dead, .dead, .dead, .dead, .dead, .dead, .dead, .dead, .dead, .dead, .dead, .dead, .dead, .dead, .dead, .dead, .dead, .dead, .dead, .dead, .dead, .dead, .dead, .dead, .dead, .dead, .dead, .dead, .dead, .dead, .dead, .dead, .dead, .dead, .dead, .dead, .dead, .dead, .dead, .dead, .dead, .dead, .dead, .dead, .dead, .dead, .dead, .dead, .dead, .dead, .dead, .dead, .dead, .dead, .dead, .dead, .dead, .dead, .dead], ofL [(64, .box [.row 65]), (65, .row 47 (.pair (.int .i64) (.int .i64)) x88 false), (66, .row 47 (.pair (.int .i64) (.int .i64)) x89 true), (67, .box [.d (.int .i64) x90, .d (.int .i64) x91, .d (.int .i64) x92, .d (.int .i64) x93, .d (.int .i64) x94]), (68, .row 3 (.int .i64) x95 false), (69, .row 3 (.int .i64) x96 false), (70, .row 4 .bool x97 false)], 0⟩
noncomputable def law22_QueuePlays.b26 (l : List (Int × Int × Int × Int × Int)) (A6 : Int → (List (Int × Int)) → (List (Int × Int)) → Option Bool) (A26 : Int → Int → Int → (List (Int × Int)) → (List (Int × Int)) → Int → Int → Int → Int → Int → (List Int) → (List Int) → (List Bool) → Option Bool) (E33 : Int → Int → (List (Int × Int)) → (List (Int × Int)) → Int → Int → Int → Int → Int → (List Bool) → (List (Int × Int)) → Option Bool) (x85 : Int) (x86 : Int) (x87 : Int) (x88 : (List (Int × Int))) (x89 : (List (Int × Int))) (x90 : Int) (x91 : Int) (x92 : Int) (x93 : Int) (x94 : Int) (x95 : (List Int)) (x96 : (List Int)) (x97 : (List Bool)) : Option Bool :=
  (if (decide (x87 < x86)) then (match (idx x96 x87) with | none => none | some y98 => (match (idx x96 x87) with | none => none | some y99 => (match (idx x95 x87) with | none => none | some y100 => (match (idx x95 x87) with | none => none | some y101 => (match (idx x89 y101) with | none => none | some y102 => (match (idx x89 y101) with | none => none | some y103 => (if (y99 != y103.1) then some (false) else (match (idx x95 x87) with | none => none | some y104 => (match (idx x95 x87) with | none => none | some y105 => (match (idx x97 y105) with | none => none | some y106 => (match (idx x97 y105) with | none => none | some y107 => A26 x85 x86 (Go.IntKind.wrap .i64 (x87 + (1 : Int))) x88 x89 x90 x91 x92 x93 x94 x95 x96 (List.set x97 (Int.toNat y105) true)))))))))))) else E33 x85 (0 : Int) x88 x89 x90 x91 x92 x93 x94 x97 ([] : List (Int × Int)))
noncomputable def law22_QueuePlays.l26 (fuel : Nat) (l : List (Int × Int × Int × Int × Int)) (A6 : Int → (List (Int × Int)) → (List (Int × Int)) → Option Bool) : Nat → Int → Int → Int → (List (Int × Int)) → (List (Int × Int)) → Int → Int → Int → Int → Int → (List Int) → (List Int) → (List Bool) → Option Bool
  | 0, _, _, _, _, _, _, _, _, _, _, _, _, _ => none
  | k + 1, x85, x86, x87, x88, x89, x90, x91, x92, x93, x94, x95, x96, x97 => law22_QueuePlays.b26 l A6 (law22_QueuePlays.l26 fuel l A6 k) (law22_QueuePlays.l33 fuel l A6 fuel) x85 x86 x87 x88 x89 x90 x91 x92 x93 x94 x95 x96 x97
noncomputable def law22_QueuePlays.s22 (l : List (Int × Int × Int × Int × Int)) (x74 : Int) (x75 : Int) (x76 : (List (Int × Int))) (x77 : (List (Int × Int))) (x78 : Int) (x79 : Int) (x80 : Int) (x81 : Int) (x82 : Int) (x83 : (List Int)) (x84 : (List Int)) : St := ⟨[.d (.sl (.pair (.int .i64) (.pair (.int .i64) (.pair (.int .i64) (.pair (.int .i64) (.int .i64)))))) (l), .dead, .dead, .ptr 64 0, .row 66, .d (.int .i64) x74, .ptr 67 0, .row 68, .row 69, .d (.int .i64) x75, .dead, .dead, .dead, .dead, .dead, .dead, .dead, .dead, .dead, .dead, .dead, .dead, .dead, .dead, .dead, .dead, .dead, .dead, .dead, .dead, .dead, .dead, .dead, .dead, .dead, .dead, .dead, .dead, .dead, .dead, .dead, .dead, .dead, .dead, .dead, .dead, .dead, .dead, .dead, .dead, .dead, .dead, .dead, .dead, .dead, .dead, .dead, .dead, .dead, .dead, .dead, .dead, .dead, .dead, .dead, .dead, .dead, .dead, .dead, .dead, .dead, .dead, .dead, .dead, .dead, .dead, .dead, .dead, .dead, .dead, .dead, .dead, .dead, .dead, .dead, .dead, .dead, .dead, .dead, .dead, .dead, .dead, .dead, .dead, .dead, .dead, .dead, .dead, .dead, .dead, .dead, .dead, .dead, .dead, .dead, .dead, .dead, .dead, .dead, .dead, .dead, .dead, .dead, .dead, .dead, .dead, .dead, .dead, .dead, .dead, .dead, .dead, .dead, .dead, .dead, .dead, .dead, .dead, .dead, .dead, .dead, .dead, .dead, .dead, .dead, .dead, .dead, .dead, .dead, .dead, .dead, .dead, .dead, .dead, .dead, .dead, .dead, .dead, .dead, .dead, .dead, .dead, .dead, .dead, .dead, .dead, .dead, .dead, .dead, .dead, .dead, .dead, .dead, .dead, .dead, .dead, .dead, .dead, .dead, .dead, .dead, .dead, .dead, .dead, .dead, .dead, .dead, .dead, .dead, .dead, .dead, .dead, .dead, .dead, .dead, .dead, .dead, .dead, .dead, .dead, .dead, .dead, .dead, .dead, .dead, .dead, .dead, .dead, .dead, .dead, .dead, .dead, .dead, .dead, .dead, .dead, .dead, .dead, .dead, .dead, .dead, .dead, .dead, .dead, .dead, .dead, .dead, .dead, .dead, .dead, .dead, .dead, .dead, .dead, .dead], ofL [(64, .box [.row 65]), (65, .row 47 (.pair (.int .i64) (.int .i64)) x76 false), (66, .row 47 (.pair (.int .i64) (.int .i64)) x77 true), (67, .box [.d (.int .i64) x78, .d (.int .i64) x79, .d (.int .i64) x80, .d (.int .i64) x81, .d (.int .i64) x82]), (68, .row 3 (.int .i64) x83 false), (69, .row 3 (.int .i64) x84 false)], 0⟩
noncomputable def law22_QueuePlays.b22 (l : List (Int × Int × Int × Int × Int)) (A6 : Int → (List (Int × Int)) → (List (Int × Int)) → Option Bool) (A22 : Int → Int → (List (Int × Int)) → (List (Int × Int)) → Int → Int → Int → Int → Int → (List Int) → (List Int) → Option Bool) (E26 : Int → Int → Int → (List (Int × Int)) → (List (Int × Int)) → Int → Int → Int → Int → Int → (List Int) → (List Int) → (List Bool) → Option Bool) (x74 : Int) (x75 : Int) (x76 : (List (Int × Int))) (x77 : (List (Int × Int))) (x78 : Int) (x79 : Int) (x80 : Int) (x81 : Int) (x82 : Int) (x83 : (List Int)) (x84 : (List Int)) : Option Bool :=
  (if (((((List.length x84)) : Nat) : Int) != x75) then some (false) else (if (((0 : Int) ≤ ((((List.length x77)) : Nat) : Int)) ∧ ((((((List.length x77)) : Nat) : Int) ≤ ((((List.length x77)) : Nat) : Int)) ∧ (((((((List.length x77)) : Nat) : Int) * ((((1 : Nat)) : Nat) : Int)) ≤ (1099511627776 : Int)) ∧ (((((List.length x77)) : Nat) : Int) ≤ (1099511627776 : Int))))) then E26 x74 x75 (0 : Int) x76 x77 x78 x79 x80 x81 x82 x83 x84 (List.replicate (Int.toNat ((((List.length x77)) : Nat) : Int)) (zeroI Go.Den.Ty.bool)) else none))
noncomputable def law22_QueuePlays.l22 (fuel : Nat) (l : List (Int × Int × Int × Int × Int)) (A6 : Int → (List (Int × Int)) → (List (Int × Int)) → Option Bool) : Nat → Int → Int → (List (Int × Int)) → (List (Int × Int)) → Int → Int → Int → Int → Int → (List Int) → (List Int) → Option Bool
  | 0, _, _, _, _, _, _, _, _, _, _, _ => none
  | k + 1, x74, x75, x76, x77, x78, x79, x80, x81, x82, x83, x84 => law22_QueuePlays.b22 l A6 (law22_QueuePlays.l22 fuel l A6 k) (law22_QueuePlays.l26 fuel l A6 fuel) x74 x75 x76 x77 x78 x79 x80 x81 x82 x83 x84
noncomputable def law22_QueuePlays.s20 (l : List (Int × Int × Int × Int × Int)) (x63 : Int) (x64 : Int) (x65 : (List (Int × Int))) (x66 : (List (Int × Int))) (x67 : Int) (x68 : Int) (x69 : Int) (x70 : Int) (x71 : Int) (x72 : (List Int)) (x73 : (List Int)) : St := ⟨[.d (.sl (.pair (.int .i64) (.pair (.int .i64) (.pair (.int .i64) (.pair (.int .i64) (.int .i64)))))) (l), .dead, .dead, .ptr 64 0, .row 66, .d (.int .i64) x63, .ptr 67 0, .row 68, .row 69, .d (.int .i64) x64, .dead, .dead, .dead, .dead, .dead, .dead, .dead, .dead, .dead, .dead, .dead, .dead, .dead, .dead, .dead, .dead, .dead, .dead, .dead, .dead, .dead, .dead, .dead, .dead, .dead, .dead, .dead, .dead, .dead, .dead, .dead, .dead, .dead, .dead, .dead, .dead, .dead, .dead, .dead, .dead, .dead, .dead, .dead, .dead, .dead, .dead, .dead, .dead, .dead, .dead, .dead, .dead, .dead, .dead, .dead, .dead, .dead, .dead, .dead, .dead, .dead, .dead, .dead, .dead, .dead, .dead, .dead, .dead, .dead, .dead, .dead, .dead, .dead, .dead, .dead, .dead, .dead, .dead, .dead, .dead, .dead, .dead, .dead, .dead, .dead, .dead, .dead, .dead, .dead, .dead, .dead, .dead, .dead, .dead, .dead, .dead, .dead, .dead, .dead, .dead, .dead, .dead, .dead, .dead, .dead, .dead, .dead, .dead, .dead, .dead, .dead, .dead, .dead, .dead, .dead, .dead, .dead, .dead, .dead, .dead, .dead, .dead, .dead, .dead, .dead, .dead, .dead, .dead, .dead, .dead, .dead, .dead, .dead, .dead, .dead, .dead, .dead, .dead, .dead, .dead, .dead, .dead, .dead, .dead, .dead, .dead, .dead, .dead, .dead, .dead, .dead, .dead, .dead, .dead, .dead, .dead, .dead, .dead, .dead, .dead, .dead, .dead, .dead, .dead, .dead, .dead, .dead, .dead, .dead, .dead, .dead, .dead, .dead, .dead, .dead, .dead, .dead, .dead, .dead, .dead, .dead, .dead, .dead, .dead, .dead, .dead, .dead, .dead, .dead, .dead, .dead, .dead, .dead, .dead, .dead, .dead, .dead, .dead, .dead, .dead, .dead, .dead, .dead, .dead, .dead, .dead, .dead, .dead, .dead, .dead, .dead, .dead, .dead, .dead, .dead], ofL [(64, .box [.row 65]), (65, .row 47 (.pair (.int .i64) (.int .i64)) x65 false), (66, .row 47 (.pair (.int .i64) (.int .i64)) x66 true), (67, .box [.d (.int .i64) x67, .d (.int .i64) x68, .d (.int .i64) x69, .d (.int .i64) x70, .d (.int .i64) x71]), (68, .row 3 (.int .i64) x72 false), (69, .row 3 (.int .i64) x73 false)], 0⟩
noncomputable def law22_QueuePlays.b20 (l : List (Int × Int × Int × Int × Int)) (A6 : Int → (List (Int × Int)) → (List (Int × Int)) → Option Bool) (A20 : Int → Int → (List (Int × Int)) → (List (Int × Int)) → Int → Int → Int → Int → Int → (List Int) → (List Int) → Option Bool) (E22 : Int → Int → (List (Int × Int)) → (List (Int × Int)) → Int → Int → Int → Int → Int → (List Int) → (List Int) → Option Bool) (x63 : Int) (x64 : Int) (x65 : (List (Int × Int))) (x66 : (List (Int × Int))) (x67 : Int) (x68 : Int) (x69 : Int) (x70 : Int) (x71 : Int) (x72 : (List Int)) (x73 : (List Int)) : Option Bool :=
  (if (decide (x64 < (0 : Int))) then E22 x63 (0 : Int) x65 x66 x67 x68 x69 x70 x71 x72 x73 else E22 x63 x64 x65 x66 x67 x68 x69 x70 x71 x72 x73)
noncomputable def law22_QueuePlays.l20 (fuel : Nat) (l : List (Int × Int × Int × Int × Int)) (A6 : Int → (List (Int × Int)) → (List (Int × Int)) → Option Bool) : Nat → Int → Int → (List (Int × Int)) → (List (Int × Int)) → Int → Int → Int → Int → Int → (List Int) → (List Int) → Option Bool
  | 0, _, _, _, _, _, _, _, _, _, _, _ => none
  | k + 1, x63, x64, x65, x66, x67, x68, x69, x70, x71, x72, x73 => law22_QueuePlays.b20 l A6 (law22_QueuePlays.l20 fuel l A6 k) (law22_QueuePlays.l22 fuel l A6 fuel) x63 x64 x65 x66 x67 x68 x69 x70 x71 x72 x73
noncomputable def law22_QueuePlays.s6 (l : List (Int × Int × Int × Int × Int)) (x2 : Int) (x3 : (List (Int × Int))) (x4 : (List (Int × Int))) : St := ⟨[.d (.sl (.pair (.int .i64) (.pair (.int .i64) (.pair (.int .i64) (.pair (.int .i64) (.int .i64)))))) (l), .dead, .dead, .ptr 64 0, .row 66, .d (.int .i64) x2, .dead, .dead, .dead, .dead, .dead, .dead, .dead, .dead, .dead, .dead, .dead, .dead, .dead, .dead, .dead, .dead, .dead, .dead, .dead, .dead, .dead, .dead, .dead, .dead, .dead, .dead, .dead, .dead, .dead, .dead, .dead, .dead, .dead, .dead, .dead, .dead, .dead, .dead, .dead, .dead, .dead, .dead, .dead, .dead, .dead, .dead, .dead, .dead, .dead, .dead, .dead, .dead, .dead, .dead, .dead, .dead, .dead, .dead, .dead, .dead, .dead, .dead, .dead, .dead, .dead, .dead, .dead, .dead, .dead, .dead, .dead, .dead, .dead, .dead, .dead, .dead, .dead, .dead, .dead, .dead, .dead, .dead, .dead, .dead, .dead, .dead, .dead, .dead, .dead, .dead, .dead, .dead, .dead, .dead, .dead, .dead, .dead, .dead, .dead, .dead, .dead, .dead, .dead, .dead, .dead, .dead, .dead, .dead, .dead, .dead, .dead, .dead, .dead, .dead, .dead, .dead, .dead, .dead, .dead, .dead, .dead, .dead, .dead, .dead, .dead, .dead, .dead, .dead, .dead, .dead, .dead, .dead, .dead, .dead, .dead, .dead, .dead, .dead, .dead, .dead, .dead, .dead, .dead, .dead, .dead, .dead, .dead, .dead, .dead, .dead, .dead, .dead, .dead, .dead, .dead, .dead, .dead, .dead, .dead, .dead, .dead, .dead, .dead, .dead, .dead, .dead, .dead, .dead, .dead, .dead, .dead, .dead, .dead, .dead, .dead, .dead, .dead, .dead, .dead, .dead, .dead, .dead, .dead, .dead, .dead, .dead, .dead, .dead, .dead, .dead, .dead, .dead, .dead, .dead, .dead, .dead, .dead, .dead, .dead, .dead, .dead, .dead, .dead, .dead, .dead, .dead, .dead, .dead, .dead, .dead, .dead, .dead, .dead, .dead, .dead, .dead, .dead, .dead, .dead], ofL [(64, .box [.row 65]), (65, .row 47 (.pair (.int .i64) (.int .i64)) x3 false), (66, .row 47 (.pair (.int .i64) (.int .i64)) x4 false)], 0⟩
noncomputable def law22_QueuePlays.b6 (l : List (Int × Int × Int × Int × Int)) (A6 : Int → (List (Int × Int)) → (List (Int × Int)) → Option Bool) (E41 : Int → (List (Int × Int)) → (List (Int × Int)) → Option Bool) (E20 : Int → Int → (List (Int × Int)) → (List (Int × Int)) → Int → Int → Int → Int → Int → (List Int) → (List Int) → Option Bool) (x2 : Int) (x3 : (List (Int × Int))) (x4 : (List (Int × Int))) : Option Bool :=
  (if (decide (x2 < ((((List.length l)) : Nat) : Int))) then (match (idx l x2) with | none => none | some y5 => (if (y5.1 == (0 : Int)) then (match (veil (queue_Queue_Put.f BIG x3 y5.2.1)) with | none => none | some y6 => (match (veil (law22_without.f BIG x4 y5.2.1)) with | none => none | some y7 => (if ((((List.length y7) + (List.length ((y5.2.1, 0) :: ([] : List (Int × Int))))) * (16 : Nat)) ≤ lim) then E41 x2 y6 (y7 ++ ((y5.2.1, 0) :: ([] : List (Int × Int)))) else none))) else (if (y5.1 == (1 : Int)) then (match (veil (queue_Queue_Drop.f BIG x3 y5.2.1)) with | none => none | some y59 => (match (veil (law22_without.f BIG x4 y5.2.1)) with | none => none | some y60 => E41 x2 y59 y60)) else (match (veil (law22_order.f BIG x4 y5.2.2.2.2)) with | none => none | some y61 => (match (veil (queue_Queue_Take.f BIG x3 y5.2.2.1 y5.2.2.2.1 (y5.2.2.2.2 :: ([] : List Int)))) with | none => none | some y62 => (if (decide (y5.2.2.1 < ((((List.length y61)) : Nat) : Int))) then E20 x2 y5.2.2.1 y62.1 x4 y5.1 y5.2.1 y5.2.2.1 y5.2.2.2.1 y5.2.2.2.2 y61 y62.2 else E20 x2 ((((List.length y61)) : Nat) : Int) y62.1 x4 y5.1 y5.2.1 y5.2.2.1 y5.2.2.2.1 y5.2.2.2.2 y61 y62.2)))))) else (match (veil (law22_awake.f BIG ())) with | none => none | some y149 => some (y149)))
noncomputable def law22_QueuePlays.l6 (fuel : Nat) (l : List (Int × Int × Int × Int × Int)) : Nat → Int → (List (Int × Int)) → (List (Int × Int)) → Option Bool
  | 0, _, _, _ => none
  | k + 1, x2, x3, x4 => law22_QueuePlays.b6 l (law22_QueuePlays.l6 fuel l k) (law22_QueuePlays.l41 fuel l (law22_QueuePlays.l6 fuel l k) fuel) (law22_QueuePlays.l20 fuel l (law22_QueuePlays.l6 fuel l k) fuel) x2 x3 x4
noncomputable def law22_QueuePlays.b (l : List (Int × Int × Int × Int × Int)) (E6 : Int → (List (Int × Int)) → (List (Int × Int)) → Option Bool) : Option Bool :=
  (if (decide (((((List.length l)) : Nat) : Int) > (40 : Int))) then (match (veil (law22_awake.f BIG ())) with | none => none | some y0 => some (y0)) else (match (veil (queue_New.f BIG ())) with | none => none | some y1 => E6 (0 : Int) ([] : List (Int × Int)) ([] : List (Int × Int))))
noncomputable def law22_QueuePlays.f (fuel : Nat) (l : List (Int × Int × Int × Int × Int)) : Option Bool := law22_QueuePlays.b l (law22_QueuePlays.l6 fuel l fuel)
theorem law22_QueuePlays.l51_eq (fuel : Nat) (l : List (Int × Int × Int × Int × Int)) (k6 k46 k50 : Nat) : ∀ (k : Nat) (x28 : Int) (x29 : Int) (x30 : Int) (x31 : Int) (x32 : (List (Int × Int))) (x33 : (List (Int × Int))) (x34 : (List (Int × Int))) (x35 : (List Bool)), lp law22_QueuePlays_E fuel Try.f4 [.raw] 0 law22_QueuePlays.k 51 [k6, k46, k50] k (law22_QueuePlays.s51 l x28 x29 x30 x31 x32 x33 x34 x35) = law22_QueuePlays.l51 fuel l (fun x2 x3 x4 => lp law22_QueuePlays_E fuel Try.f4 [.raw] 0 law22_QueuePlays.k 6 [] k6 (law22_QueuePlays.s6 l x2 x3 x4)) (fun x12 x13 x14 x15 x16 x17 => lp law22_QueuePlays_E fuel Try.f4 [.raw] 0 law22_QueuePlays.k 46 [k6] k46 (law22_QueuePlays.s46 l x12 x13 x14 x15 x16 x17)) (fun x18 x19 x20 x21 x22 x23 x24 x25 => lp law22_QueuePlays_E fuel Try.f4 [.raw] 0 law22_QueuePlays.k 50 [k6, k46] k50 (law22_QueuePlays.s50 l x18 x19 x20 x21 x22 x23 x24 x25)) k x28 x29 x30 x31 x32 x33 x34 x35 := by
  intro k
  induction k with
  | zero => intro x28 x29 x30 x31 x32 x33 x34 x35; rfl
  | succ k ih =>
    intro x28 x29 x30 x31 x32 x33 x34 x35
    have h : lp law22_QueuePlays_E fuel Try.f4 [.raw] 0 law22_QueuePlays.k 51 [k6, k46, k50] (k + 1) (law22_QueuePlays.s51 l x28 x29 x30 x31 x32 x33 x34 x35) = law22_QueuePlays.b51 l (fun x2 x3 x4 => lp law22_QueuePlays_E fuel Try.f4 [.raw] 0 law22_QueuePlays.k 6 [] k6 (law22_QueuePlays.s6 l x2 x3 x4)) (fun x12 x13 x14 x15 x16 x17 => lp law22_QueuePlays_E fuel Try.f4 [.raw] 0 law22_QueuePlays.k 46 [k6] k46 (law22_QueuePlays.s46 l x12 x13 x14 x15 x16 x17)) (fun x18 x19 x20 x21 x22 x23 x24 x25 => lp law22_QueuePlays_E fuel Try.f4 [.raw] 0 law22_QueuePlays.k 50 [k6, k46] k50 (law22_QueuePlays.s50 l x18 x19 x20 x21 x22 x23 x24 x25)) (fun x28 x29 x30 x31 x32 x33 x34 x35 => lp law22_QueuePlays_E fuel Try.f4 [.raw] 0 law22_QueuePlays.k 51 [k6, k46, k50] k (law22_QueuePlays.s51 l x28 x29 x30 x31 x32 x33 x34 x35)) x28 x29 x30 x31 x32 x33 x34 x35 := by kernel_rfl
    rw [h]
    have e51 : (fun x28 x29 x30 x31 x32 x33 x34 x35 => lp law22_QueuePlays_E fuel Try.f4 [.raw] 0 law22_QueuePlays.k 51 [k6, k46, k50] k (law22_QueuePlays.s51 l x28 x29 x30 x31 x32 x33 x34 x35)) = law22_QueuePlays.l51 fuel l (fun x2 x3 x4 => lp law22_QueuePlays_E fuel Try.f4 [.raw] 0 law22_QueuePlays.k 6 [] k6 (law22_QueuePlays.s6 l x2 x3 x4)) (fun x12 x13 x14 x15 x16 x17 => lp law22_QueuePlays_E fuel Try.f4 [.raw] 0 law22_QueuePlays.k 46 [k6] k46 (law22_QueuePlays.s46 l x12 x13 x14 x15 x16 x17)) (fun x18 x19 x20 x21 x22 x23 x24 x25 => lp law22_QueuePlays_E fuel Try.f4 [.raw] 0 law22_QueuePlays.k 50 [k6, k46] k50 (law22_QueuePlays.s50 l x18 x19 x20 x21 x22 x23 x24 x25)) k := (funext fun x28 => (funext fun x29 => (funext fun x30 => (funext fun x31 => (funext fun x32 => (funext fun x33 => (funext fun x34 => (funext fun x35 => ih x28 x29 x30 x31 x32 x33 x34 x35))))))))
    rw [e51]
    rfl
theorem law22_QueuePlays.l47_eq (fuel : Nat) (l : List (Int × Int × Int × Int × Int)) (k6 k46 : Nat) : ∀ (k : Nat) (x50 : Int) (x51 : Int) (x52 : (List (Int × Int))) (x53 : (List (Int × Int))) (x54 : (List (Int × Int))) (x55 : (List Bool)), lp law22_QueuePlays_E fuel Try.f4 [.raw] 0 law22_QueuePlays.k 47 [k6, k46] k (law22_QueuePlays.s47 l x50 x51 x52 x53 x54 x55) = law22_QueuePlays.l47 fuel l (fun x2 x3 x4 => lp law22_QueuePlays_E fuel Try.f4 [.raw] 0 law22_QueuePlays.k 6 [] k6 (law22_QueuePlays.s6 l x2 x3 x4)) (fun x12 x13 x14 x15 x16 x17 => lp law22_QueuePlays_E fuel Try.f4 [.raw] 0 law22_QueuePlays.k 46 [k6] k46 (law22_QueuePlays.s46 l x12 x13 x14 x15 x16 x17)) k x50 x51 x52 x53 x54 x55 := by
  intro k
  induction k with
  | zero => intro x50 x51 x52 x53 x54 x55; rfl
  | succ k ih =>
    intro x50 x51 x52 x53 x54 x55
    have h : lp law22_QueuePlays_E fuel Try.f4 [.raw] 0 law22_QueuePlays.k 47 [k6, k46] (k + 1) (law22_QueuePlays.s47 l x50 x51 x52 x53 x54 x55) = law22_QueuePlays.b47 l (fun x2 x3 x4 => lp law22_QueuePlays_E fuel Try.f4 [.raw] 0 law22_QueuePlays.k 6 [] k6 (law22_QueuePlays.s6 l x2 x3 x4)) (fun x12 x13 x14 x15 x16 x17 => lp law22_QueuePlays_E fuel Try.f4 [.raw] 0 law22_QueuePlays.k 46 [k6] k46 (law22_QueuePlays.s46 l x12 x13 x14 x15 x16 x17)) (fun x50 x51 x52 x53 x54 x55 => lp law22_QueuePlays_E fuel Try.f4 [.raw] 0 law22_QueuePlays.k 47 [k6, k46] k (law22_QueuePlays.s47 l x50 x51 x52 x53 x54 x55)) x50 x51 x52 x53 x54 x55 := by kernel_rfl
    rw [h]
    have e47 : (fun x50 x51 x52 x53 x54 x55 => lp law22_QueuePlays_E fuel Try.f4 [.raw] 0 law22_QueuePlays.k 47 [k6, k46] k (law22_QueuePlays.s47 l x50 x51 x52 x53 x54 x55)) = law22_QueuePlays.l47 fuel l (fun x2 x3 x4 => lp law22_QueuePlays_E fuel Try.f4 [.raw] 0 law22_QueuePlays.k 6 [] k6 (law22_QueuePlays.s6 l x2 x3 x4)) (fun x12 x13 x14 x15 x16 x17 => lp law22_QueuePlays_E fuel Try.f4 [.raw] 0 law22_QueuePlays.k 46 [k6] k46 (law22_QueuePlays.s46 l x12 x13 x14 x15 x16 x17)) k := (funext fun x50 => (funext fun x51 => (funext fun x52 => (funext fun x53 => (funext fun x54 => (funext fun x55 => ih x50 x51 x52 x53 x54 x55))))))
    rw [e47]
    rfl
theorem law22_QueuePlays.l50_eq (fuel : Nat) (l : List (Int × Int × Int × Int × Int)) (k6 k46 : Nat) : ∀ (k : Nat) (x18 : Int) (x19 : Int) (x20 : Int) (x21 : Int) (x22 : (List (Int × Int))) (x23 : (List (Int × Int))) (x24 : (List (Int × Int))) (x25 : (List Bool)), lp law22_QueuePlays_E fuel Try.f4 [.raw] 0 law22_QueuePlays.k 50 [k6, k46] k (law22_QueuePlays.s50 l x18 x19 x20 x21 x22 x23 x24 x25) = law22_QueuePlays.l50 fuel l (fun x2 x3 x4 => lp law22_QueuePlays_E fuel Try.f4 [.raw] 0 law22_QueuePlays.k 6 [] k6 (law22_QueuePlays.s6 l x2 x3 x4)) (fun x12 x13 x14 x15 x16 x17 => lp law22_QueuePlays_E fuel Try.f4 [.raw] 0 law22_QueuePlays.k 46 [k6] k46 (law22_QueuePlays.s46 l x12 x13 x14 x15 x16 x17)) k x18 x19 x20 x21 x22 x23 x24 x25 := by
  intro k
  induction k with
  | zero => intro x18 x19 x20 x21 x22 x23 x24 x25; rfl
  | succ k ih =>
    intro x18 x19 x20 x21 x22 x23 x24 x25
    have h : lp law22_QueuePlays_E fuel Try.f4 [.raw] 0 law22_QueuePlays.k 50 [k6, k46] (k + 1) (law22_QueuePlays.s50 l x18 x19 x20 x21 x22 x23 x24 x25) = law22_QueuePlays.b50 l (fun x2 x3 x4 => lp law22_QueuePlays_E fuel Try.f4 [.raw] 0 law22_QueuePlays.k 6 [] k6 (law22_QueuePlays.s6 l x2 x3 x4)) (fun x12 x13 x14 x15 x16 x17 => lp law22_QueuePlays_E fuel Try.f4 [.raw] 0 law22_QueuePlays.k 46 [k6] k46 (law22_QueuePlays.s46 l x12 x13 x14 x15 x16 x17)) (fun x18 x19 x20 x21 x22 x23 x24 x25 => lp law22_QueuePlays_E fuel Try.f4 [.raw] 0 law22_QueuePlays.k 50 [k6, k46] k (law22_QueuePlays.s50 l x18 x19 x20 x21 x22 x23 x24 x25)) (fun x28 x29 x30 x31 x32 x33 x34 x35 => lp law22_QueuePlays_E fuel Try.f4 [.raw] 0 law22_QueuePlays.k 51 [k6, k46, k] fuel (law22_QueuePlays.s51 l x28 x29 x30 x31 x32 x33 x34 x35)) (fun x50 x51 x52 x53 x54 x55 => lp law22_QueuePlays_E fuel Try.f4 [.raw] 0 law22_QueuePlays.k 47 [k6, k46] fuel (law22_QueuePlays.s47 l x50 x51 x52 x53 x54 x55)) x18 x19 x20 x21 x22 x23 x24 x25 := by kernel_rfl
    rw [h]
    have e50 : (fun x18 x19 x20 x21 x22 x23 x24 x25 => lp law22_QueuePlays_E fuel Try.f4 [.raw] 0 law22_QueuePlays.k 50 [k6, k46] k (law22_QueuePlays.s50 l x18 x19 x20 x21 x22 x23 x24 x25)) = law22_QueuePlays.l50 fuel l (fun x2 x3 x4 => lp law22_QueuePlays_E fuel Try.f4 [.raw] 0 law22_QueuePlays.k 6 [] k6 (law22_QueuePlays.s6 l x2 x3 x4)) (fun x12 x13 x14 x15 x16 x17 => lp law22_QueuePlays_E fuel Try.f4 [.raw] 0 law22_QueuePlays.k 46 [k6] k46 (law22_QueuePlays.s46 l x12 x13 x14 x15 x16 x17)) k := (funext fun x18 => (funext fun x19 => (funext fun x20 => (funext fun x21 => (funext fun x22 => (funext fun x23 => (funext fun x24 => (funext fun x25 => ih x18 x19 x20 x21 x22 x23 x24 x25))))))))
    rw [e50]
    have e51 : (fun x28 x29 x30 x31 x32 x33 x34 x35 => lp law22_QueuePlays_E fuel Try.f4 [.raw] 0 law22_QueuePlays.k 51 [k6, k46, k] fuel (law22_QueuePlays.s51 l x28 x29 x30 x31 x32 x33 x34 x35)) = law22_QueuePlays.l51 fuel l (fun x2 x3 x4 => lp law22_QueuePlays_E fuel Try.f4 [.raw] 0 law22_QueuePlays.k 6 [] k6 (law22_QueuePlays.s6 l x2 x3 x4)) (fun x12 x13 x14 x15 x16 x17 => lp law22_QueuePlays_E fuel Try.f4 [.raw] 0 law22_QueuePlays.k 46 [k6] k46 (law22_QueuePlays.s46 l x12 x13 x14 x15 x16 x17)) (fun x18 x19 x20 x21 x22 x23 x24 x25 => lp law22_QueuePlays_E fuel Try.f4 [.raw] 0 law22_QueuePlays.k 50 [k6, k46] k (law22_QueuePlays.s50 l x18 x19 x20 x21 x22 x23 x24 x25)) fuel := (funext fun x28 => (funext fun x29 => (funext fun x30 => (funext fun x31 => (funext fun x32 => (funext fun x33 => (funext fun x34 => (funext fun x35 => law22_QueuePlays.l51_eq fuel l k6 k46 k fuel x28 x29 x30 x31 x32 x33 x34 x35))))))))
    rw [e51]
    rw [e50]
    have e47 : (fun x50 x51 x52 x53 x54 x55 => lp law22_QueuePlays_E fuel Try.f4 [.raw] 0 law22_QueuePlays.k 47 [k6, k46] fuel (law22_QueuePlays.s47 l x50 x51 x52 x53 x54 x55)) = law22_QueuePlays.l47 fuel l (fun x2 x3 x4 => lp law22_QueuePlays_E fuel Try.f4 [.raw] 0 law22_QueuePlays.k 6 [] k6 (law22_QueuePlays.s6 l x2 x3 x4)) (fun x12 x13 x14 x15 x16 x17 => lp law22_QueuePlays_E fuel Try.f4 [.raw] 0 law22_QueuePlays.k 46 [k6] k46 (law22_QueuePlays.s46 l x12 x13 x14 x15 x16 x17)) fuel := (funext fun x50 => (funext fun x51 => (funext fun x52 => (funext fun x53 => (funext fun x54 => (funext fun x55 => law22_QueuePlays.l47_eq fuel l k6 k46 fuel x50 x51 x52 x53 x54 x55))))))
    rw [e47]
    rfl
theorem law22_QueuePlays.l7_eq (fuel : Nat) (l : List (Int × Int × Int × Int × Int)) (k6 : Nat) : ∀ (k : Nat) (x56 : Int) (x57 : (List (Int × Int))) (x58 : (List (Int × Int))), lp law22_QueuePlays_E fuel Try.f4 [.raw] 0 law22_QueuePlays.k 7 [k6] k (law22_QueuePlays.s7 l x56 x57 x58) = law22_QueuePlays.l7 fuel l (fun x2 x3 x4 => lp law22_QueuePlays_E fuel Try.f4 [.raw] 0 law22_QueuePlays.k 6 [] k6 (law22_QueuePlays.s6 l x2 x3 x4)) k x56 x57 x58 := by
  intro k
  induction k with
  | zero => intro x56 x57 x58; rfl
  | succ k ih =>
    intro x56 x57 x58
    have h : lp law22_QueuePlays_E fuel Try.f4 [.raw] 0 law22_QueuePlays.k 7 [k6] (k + 1) (law22_QueuePlays.s7 l x56 x57 x58) = law22_QueuePlays.b7 l (fun x2 x3 x4 => lp law22_QueuePlays_E fuel Try.f4 [.raw] 0 law22_QueuePlays.k 6 [] k6 (law22_QueuePlays.s6 l x2 x3 x4)) (fun x56 x57 x58 => lp law22_QueuePlays_E fuel Try.f4 [.raw] 0 law22_QueuePlays.k 7 [k6] k (law22_QueuePlays.s7 l x56 x57 x58)) x56 x57 x58 := by kernel_rfl
    rw [h]
    have e7 : (fun x56 x57 x58 => lp law22_QueuePlays_E fuel Try.f4 [.raw] 0 law22_QueuePlays.k 7 [k6] k (law22_QueuePlays.s7 l x56 x57 x58)) = law22_QueuePlays.l7 fuel l (fun x2 x3 x4 => lp law22_QueuePlays_E fuel Try.f4 [.raw] 0 law22_QueuePlays.k 6 [] k6 (law22_QueuePlays.s6 l x2 x3 x4)) k := (funext fun x56 => (funext fun x57 => (funext fun x58 => ih x56 x57 x58)))
    rw [e7]
    rfl
theorem law22_QueuePlays.l46_eq (fuel : Nat) (l : List (Int × Int × Int × Int × Int)) (k6 : Nat) : ∀ (k : Nat) (x12 : Int) (x13 : Int) (x14 : (List (Int × Int))) (x15 : (List (Int × Int))) (x16 : (List (Int × Int))) (x17 : (List Bool)), lp law22_QueuePlays_E fuel Try.f4 [.raw] 0 law22_QueuePlays.k 46 [k6] k (law22_QueuePlays.s46 l x12 x13 x14 x15 x16 x17) = law22_QueuePlays.l46 fuel l (fun x2 x3 x4 => lp law22_QueuePlays_E fuel Try.f4 [.raw] 0 law22_QueuePlays.k 6 [] k6 (law22_QueuePlays.s6 l x2 x3 x4)) k x12 x13 x14 x15 x16 x17 := by
  intro k
  induction k with
  | zero => intro x12 x13 x14 x15 x16 x17; rfl
  | succ k ih =>
    intro x12 x13 x14 x15 x16 x17
    have h : lp law22_QueuePlays_E fuel Try.f4 [.raw] 0 law22_QueuePlays.k 46 [k6] (k + 1) (law22_QueuePlays.s46 l x12 x13 x14 x15 x16 x17) = law22_QueuePlays.b46 l (fun x2 x3 x4 => lp law22_QueuePlays_E fuel Try.f4 [.raw] 0 law22_QueuePlays.k 6 [] k6 (law22_QueuePlays.s6 l x2 x3 x4)) (fun x12 x13 x14 x15 x16 x17 => lp law22_QueuePlays_E fuel Try.f4 [.raw] 0 law22_QueuePlays.k 46 [k6] k (law22_QueuePlays.s46 l x12 x13 x14 x15 x16 x17)) (fun x18 x19 x20 x21 x22 x23 x24 x25 => lp law22_QueuePlays_E fuel Try.f4 [.raw] 0 law22_QueuePlays.k 50 [k6, k] fuel (law22_QueuePlays.s50 l x18 x19 x20 x21 x22 x23 x24 x25)) (fun x56 x57 x58 => lp law22_QueuePlays_E fuel Try.f4 [.raw] 0 law22_QueuePlays.k 7 [k6] fuel (law22_QueuePlays.s7 l x56 x57 x58)) x12 x13 x14 x15 x16 x17 := by kernel_rfl
    rw [h]
    have e46 : (fun x12 x13 x14 x15 x16 x17 => lp law22_QueuePlays_E fuel Try.f4 [.raw] 0 law22_QueuePlays.k 46 [k6] k (law22_QueuePlays.s46 l x12 x13 x14 x15 x16 x17)) = law22_QueuePlays.l46 fuel l (fun x2 x3 x4 => lp law22_QueuePlays_E fuel Try.f4 [.raw] 0 law22_QueuePlays.k 6 [] k6 (law22_QueuePlays.s6 l x2 x3 x4)) k := (funext fun x12 => (funext fun x13 => (funext fun x14 => (funext fun x15 => (funext fun x16 => (funext fun x17 => ih x12 x13 x14 x15 x16 x17))))))
    rw [e46]
    have e50 : (fun x18 x19 x20 x21 x22 x23 x24 x25 => lp law22_QueuePlays_E fuel Try.f4 [.raw] 0 law22_QueuePlays.k 50 [k6, k] fuel (law22_QueuePlays.s50 l x18 x19 x20 x21 x22 x23 x24 x25)) = law22_QueuePlays.l50 fuel l (fun x2 x3 x4 => lp law22_QueuePlays_E fuel Try.f4 [.raw] 0 law22_QueuePlays.k 6 [] k6 (law22_QueuePlays.s6 l x2 x3 x4)) (fun x12 x13 x14 x15 x16 x17 => lp law22_QueuePlays_E fuel Try.f4 [.raw] 0 law22_QueuePlays.k 46 [k6] k (law22_QueuePlays.s46 l x12 x13 x14 x15 x16 x17)) fuel := (funext fun x18 => (funext fun x19 => (funext fun x20 => (funext fun x21 => (funext fun x22 => (funext fun x23 => (funext fun x24 => (funext fun x25 => law22_QueuePlays.l50_eq fuel l k6 k fuel x18 x19 x20 x21 x22 x23 x24 x25))))))))
    rw [e50]
    rw [e46]
    have e7 : (fun x56 x57 x58 => lp law22_QueuePlays_E fuel Try.f4 [.raw] 0 law22_QueuePlays.k 7 [k6] fuel (law22_QueuePlays.s7 l x56 x57 x58)) = law22_QueuePlays.l7 fuel l (fun x2 x3 x4 => lp law22_QueuePlays_E fuel Try.f4 [.raw] 0 law22_QueuePlays.k 6 [] k6 (law22_QueuePlays.s6 l x2 x3 x4)) fuel := (funext fun x56 => (funext fun x57 => (funext fun x58 => law22_QueuePlays.l7_eq fuel l k6 fuel x56 x57 x58)))
    rw [e7]
    rfl
theorem law22_QueuePlays.l41_eq (fuel : Nat) (l : List (Int × Int × Int × Int × Int)) (k6 : Nat) : ∀ (k : Nat) (x8 : Int) (x9 : (List (Int × Int))) (x10 : (List (Int × Int))), lp law22_QueuePlays_E fuel Try.f4 [.raw] 0 law22_QueuePlays.k 41 [k6] k (law22_QueuePlays.s41 l x8 x9 x10) = law22_QueuePlays.l41 fuel l (fun x2 x3 x4 => lp law22_QueuePlays_E fuel Try.f4 [.raw] 0 law22_QueuePlays.k 6 [] k6 (law22_QueuePlays.s6 l x2 x3 x4)) k x8 x9 x10 := by
  intro k
  induction k with
  | zero => intro x8 x9 x10; rfl
  | succ k ih =>
    intro x8 x9 x10
    have h : lp law22_QueuePlays_E fuel Try.f4 [.raw] 0 law22_QueuePlays.k 41 [k6] (k + 1) (law22_QueuePlays.s41 l x8 x9 x10) = law22_QueuePlays.b41 l (fun x2 x3 x4 => lp law22_QueuePlays_E fuel Try.f4 [.raw] 0 law22_QueuePlays.k 6 [] k6 (law22_QueuePlays.s6 l x2 x3 x4)) (fun x8 x9 x10 => lp law22_QueuePlays_E fuel Try.f4 [.raw] 0 law22_QueuePlays.k 41 [k6] k (law22_QueuePlays.s41 l x8 x9 x10)) (fun x12 x13 x14 x15 x16 x17 => lp law22_QueuePlays_E fuel Try.f4 [.raw] 0 law22_QueuePlays.k 46 [k6] fuel (law22_QueuePlays.s46 l x12 x13 x14 x15 x16 x17)) x8 x9 x10 := by kernel_rfl
    rw [h]
    have e41 : (fun x8 x9 x10 => lp law22_QueuePlays_E fuel Try.f4 [.raw] 0 law22_QueuePlays.k 41 [k6] k (law22_QueuePlays.s41 l x8 x9 x10)) = law22_QueuePlays.l41 fuel l (fun x2 x3 x4 => lp law22_QueuePlays_E fuel Try.f4 [.raw] 0 law22_QueuePlays.k 6 [] k6 (law22_QueuePlays.s6 l x2 x3 x4)) k := (funext fun x8 => (funext fun x9 => (funext fun x10 => ih x8 x9 x10)))
    rw [e41]
    have e46 : (fun x12 x13 x14 x15 x16 x17 => lp law22_QueuePlays_E fuel Try.f4 [.raw] 0 law22_QueuePlays.k 46 [k6] fuel (law22_QueuePlays.s46 l x12 x13 x14 x15 x16 x17)) = law22_QueuePlays.l46 fuel l (fun x2 x3 x4 => lp law22_QueuePlays_E fuel Try.f4 [.raw] 0 law22_QueuePlays.k 6 [] k6 (law22_QueuePlays.s6 l x2 x3 x4)) fuel := (funext fun x12 => (funext fun x13 => (funext fun x14 => (funext fun x15 => (funext fun x16 => (funext fun x17 => law22_QueuePlays.l46_eq fuel l k6 fuel x12 x13 x14 x15 x16 x17))))))
    rw [e46]
    rfl
theorem law22_QueuePlays.l34_eq (fuel : Nat) (l : List (Int × Int × Int × Int × Int)) (k6 k33 : Nat) : ∀ (k : Nat) (x138 : Int) (x139 : Int) (x140 : (List (Int × Int))) (x141 : (List (Int × Int))) (x142 : Int) (x143 : Int) (x144 : Int) (x145 : Int) (x146 : Int) (x147 : (List Bool)) (x148 : (List (Int × Int))), lp law22_QueuePlays_E fuel Try.f4 [.raw] 0 law22_QueuePlays.k 34 [k6, k33] k (law22_QueuePlays.s34 l x138 x139 x140 x141 x142 x143 x144 x145 x146 x147 x148) = law22_QueuePlays.l34 fuel l (fun x2 x3 x4 => lp law22_QueuePlays_E fuel Try.f4 [.raw] 0 law22_QueuePlays.k 6 [] k6 (law22_QueuePlays.s6 l x2 x3 x4)) (fun x108 x109 x110 x111 x112 x113 x114 x115 x116 x117 x118 => lp law22_QueuePlays_E fuel Try.f4 [.raw] 0 law22_QueuePlays.k 33 [k6] k33 (law22_QueuePlays.s33 l x108 x109 x110 x111 x112 x113 x114 x115 x116 x117 x118)) k x138 x139 x140 x141 x142 x143 x144 x145 x146 x147 x148 := by
  intro k
  induction k with
  | zero => intro x138 x139 x140 x141 x142 x143 x144 x145 x146 x147 x148; rfl
  | succ k ih =>
    intro x138 x139 x140 x141 x142 x143 x144 x145 x146 x147 x148
    have h : lp law22_QueuePlays_E fuel Try.f4 [.raw] 0 law22_QueuePlays.k 34 [k6, k33] (k + 1) (law22_QueuePlays.s34 l x138 x139 x140 x141 x142 x143 x144 x145 x146 x147 x148) = law22_QueuePlays.b34 l (fun x2 x3 x4 => lp law22_QueuePlays_E fuel Try.f4 [.raw] 0 law22_QueuePlays.k 6 [] k6 (law22_QueuePlays.s6 l x2 x3 x4)) (fun x108 x109 x110 x111 x112 x113 x114 x115 x116 x117 x118 => lp law22_QueuePlays_E fuel Try.f4 [.raw] 0 law22_QueuePlays.k 33 [k6] k33 (law22_QueuePlays.s33 l x108 x109 x110 x111 x112 x113 x114 x115 x116 x117 x118)) (fun x138 x139 x140 x141 x142 x143 x144 x145 x146 x147 x148 => lp law22_QueuePlays_E fuel Try.f4 [.raw] 0 law22_QueuePlays.k 34 [k6, k33] k (law22_QueuePlays.s34 l x138 x139 x140 x141 x142 x143 x144 x145 x146 x147 x148)) x138 x139 x140 x141 x142 x143 x144 x145 x146 x147 x148 := by kernel_rfl
    rw [h]
    have e34 : (fun x138 x139 x140 x141 x142 x143 x144 x145 x146 x147 x148 => lp law22_QueuePlays_E fuel Try.f4 [.raw] 0 law22_QueuePlays.k 34 [k6, k33] k (law22_QueuePlays.s34 l x138 x139 x140 x141 x142 x143 x144 x145 x146 x147 x148)) = law22_QueuePlays.l34 fuel l (fun x2 x3 x4 => lp law22_QueuePlays_E fuel Try.f4 [.raw] 0 law22_QueuePlays.k 6 [] k6 (law22_QueuePlays.s6 l x2 x3 x4)) (fun x108 x109 x110 x111 x112 x113 x114 x115 x116 x117 x118 => lp law22_QueuePlays_E fuel Try.f4 [.raw] 0 law22_QueuePlays.k 33 [k6] k33 (law22_QueuePlays.s33 l x108 x109 x110 x111 x112 x113 x114 x115 x116 x117 x118)) k := (funext fun x138 => (funext fun x139 => (funext fun x140 => (funext fun x141 => (funext fun x142 => (funext fun x143 => (funext fun x144 => (funext fun x145 => (funext fun x146 => (funext fun x147 => (funext fun x148 => ih x138 x139 x140 x141 x142 x143 x144 x145 x146 x147 x148)))))))))))
    rw [e34]
    rfl
theorem law22_QueuePlays.l38_eq (fuel : Nat) (l : List (Int × Int × Int × Int × Int)) (k6 k33 : Nat) : ∀ (k : Nat) (x123 : Int) (x124 : Int) (x125 : (List (Int × Int))) (x126 : (List (Int × Int))) (x127 : Int) (x128 : Int) (x129 : Int) (x130 : Int) (x131 : Int) (x132 : (List Bool)) (x133 : (List (Int × Int))) (x134 : Int) (x135 : Int), lp law22_QueuePlays_E fuel Try.f4 [.raw] 0 law22_QueuePlays.k 38 [k6, k33] k (law22_QueuePlays.s38 l x123 x124 x125 x126 x127 x128 x129 x130 x131 x132 x133 x134 x135) = law22_QueuePlays.l38 fuel l (fun x2 x3 x4 => lp law22_QueuePlays_E fuel Try.f4 [.raw] 0 law22_QueuePlays.k 6 [] k6 (law22_QueuePlays.s6 l x2 x3 x4)) (fun x108 x109 x110 x111 x112 x113 x114 x115 x116 x117 x118 => lp law22_QueuePlays_E fuel Try.f4 [.raw] 0 law22_QueuePlays.k 33 [k6] k33 (law22_QueuePlays.s33 l x108 x109 x110 x111 x112 x113 x114 x115 x116 x117 x118)) k x123 x124 x125 x126 x127 x128 x129 x130 x131 x132 x133 x134 x135 := by
  intro k
  induction k with
  | zero => intro x123 x124 x125 x126 x127 x128 x129 x130 x131 x132 x133 x134 x135; rfl
  | succ k ih =>
    intro x123 x124 x125 x126 x127 x128 x129 x130 x131 x132 x133 x134 x135
    have h : lp law22_QueuePlays_E fuel Try.f4 [.raw] 0 law22_QueuePlays.k 38 [k6, k33] (k + 1) (law22_QueuePlays.s38 l x123 x124 x125 x126 x127 x128 x129 x130 x131 x132 x133 x134 x135) = law22_QueuePlays.b38 l (fun x2 x3 x4 => lp law22_QueuePlays_E fuel Try.f4 [.raw] 0 law22_QueuePlays.k 6 [] k6 (law22_QueuePlays.s6 l x2 x3 x4)) (fun x108 x109 x110 x111 x112 x113 x114 x115 x116 x117 x118 => lp law22_QueuePlays_E fuel Try.f4 [.raw] 0 law22_QueuePlays.k 33 [k6] k33 (law22_QueuePlays.s33 l x108 x109 x110 x111 x112 x113 x114 x115 x116 x117 x118)) (fun x123 x124 x125 x126 x127 x128 x129 x130 x131 x132 x133 x134 x135 => lp law22_QueuePlays_E fuel Try.f4 [.raw] 0 law22_QueuePlays.k 38 [k6, k33] k (law22_QueuePlays.s38 l x123 x124 x125 x126 x127 x128 x129 x130 x131 x132 x133 x134 x135)) (fun x138 x139 x140 x141 x142 x143 x144 x145 x146 x147 x148 => lp law22_QueuePlays_E fuel Try.f4 [.raw] 0 law22_QueuePlays.k 34 [k6, k33] fuel (law22_QueuePlays.s34 l x138 x139 x140 x141 x142 x143 x144 x145 x146 x147 x148)) x123 x124 x125 x126 x127 x128 x129 x130 x131 x132 x133 x134 x135 := by kernel_rfl
    rw [h]
    have e38 : (fun x123 x124 x125 x126 x127 x128 x129 x130 x131 x132 x133 x134 x135 => lp law22_QueuePlays_E fuel Try.f4 [.raw] 0 law22_QueuePlays.k 38 [k6, k33] k (law22_QueuePlays.s38 l x123 x124 x125 x126 x127 x128 x129 x130 x131 x132 x133 x134 x135)) = law22_QueuePlays.l38 fuel l (fun x2 x3 x4 => lp law22_QueuePlays_E fuel Try.f4 [.raw] 0 law22_QueuePlays.k 6 [] k6 (law22_QueuePlays.s6 l x2 x3 x4)) (fun x108 x109 x110 x111 x112 x113 x114 x115 x116 x117 x118 => lp law22_QueuePlays_E fuel Try.f4 [.raw] 0 law22_QueuePlays.k 33 [k6] k33 (law22_QueuePlays.s33 l x108 x109 x110 x111 x112 x113 x114 x115 x116 x117 x118)) k := (funext fun x123 => (funext fun x124 => (funext fun x125 => (funext fun x126 => (funext fun x127 => (funext fun x128 => (funext fun x129 => (funext fun x130 => (funext fun x131 => (funext fun x132 => (funext fun x133 => (funext fun x134 => (funext fun x135 => ih x123 x124 x125 x126 x127 x128 x129 x130 x131 x132 x133 x134 x135)))))))))))))
    rw [e38]
    have e34 : (fun x138 x139 x140 x141 x142 x143 x144 x145 x146 x147 x148 => lp law22_QueuePlays_E fuel Try.f4 [.raw] 0 law22_QueuePlays.k 34 [k6, k33] fuel (law22_QueuePlays.s34 l x138 x139 x140 x141 x142 x143 x144 x145 x146 x147 x148)) = law22_QueuePlays.l34 fuel l (fun x2 x3 x4 => lp law22_QueuePlays_E fuel Try.f4 [.raw] 0 law22_QueuePlays.k 6 [] k6 (law22_QueuePlays.s6 l x2 x3 x4)) (fun x108 x109 x110 x111 x112 x113 x114 x115 x116 x117 x118 => lp law22_QueuePlays_E fuel Try.f4 [.raw] 0 law22_QueuePlays.k 33 [k6] k33 (law22_QueuePlays.s33 l x108 x109 x110 x111 x112 x113 x114 x115 x116 x117 x118)) fuel := (funext fun x138 => (funext fun x139 => (funext fun x140 => (funext fun x141 => (funext fun x142 => (funext fun x143 => (funext fun x144 => (funext fun x145 => (funext fun x146 => (funext fun x147 => (funext fun x148 => law22_QueuePlays.l34_eq fuel l k6 k33 fuel x138 x139 x140 x141 x142 x143 x144 x145 x146 x147 x148)))))))))))
    rw [e34]
    rfl
theorem law22_QueuePlays.l33_eq (fuel : Nat) (l : List (Int × Int × Int × Int × Int)) (k6 : Nat) : ∀ (k : Nat) (x108 : Int) (x109 : Int) (x110 : (List (Int × Int))) (x111 : (List (Int × Int))) (x112 : Int) (x113 : Int) (x114 : Int) (x115 : Int) (x116 : Int) (x117 : (List Bool)) (x118 : (List (Int × Int))), lp law22_QueuePlays_E fuel Try.f4 [.raw] 0 law22_QueuePlays.k 33 [k6] k (law22_QueuePlays.s33 l x108 x109 x110 x111 x112 x113 x114 x115 x116 x117 x118) = law22_QueuePlays.l33 fuel l (fun x2 x3 x4 => lp law22_QueuePlays_E fuel Try.f4 [.raw] 0 law22_QueuePlays.k 6 [] k6 (law22_QueuePlays.s6 l x2 x3 x4)) k x108 x109 x110 x111 x112 x113 x114 x115 x116 x117 x118 := by
  intro k
  induction k with
  | zero => intro x108 x109 x110 x111 x112 x113 x114 x115 x116 x117 x118; rfl
  | succ k ih =>
    intro x108 x109 x110 x111 x112 x113 x114 x115 x116 x117 x118
    have h : lp law22_QueuePlays_E fuel Try.f4 [.raw] 0 law22_QueuePlays.k 33 [k6] (k + 1) (law22_QueuePlays.s33 l x108 x109 x110 x111 x112 x113 x114 x115 x116 x117 x118) = law22_QueuePlays.b33 l (fun x2 x3 x4 => lp law22_QueuePlays_E fuel Try.f4 [.raw] 0 law22_QueuePlays.k 6 [] k6 (law22_QueuePlays.s6 l x2 x3 x4)) (fun x108 x109 x110 x111 x112 x113 x114 x115 x116 x117 x118 => lp law22_QueuePlays_E fuel Try.f4 [.raw] 0 law22_QueuePlays.k 33 [k6] k (law22_QueuePlays.s33 l x108 x109 x110 x111 x112 x113 x114 x115 x116 x117 x118)) (fun x123 x124 x125 x126 x127 x128 x129 x130 x131 x132 x133 x134 x135 => lp law22_QueuePlays_E fuel Try.f4 [.raw] 0 law22_QueuePlays.k 38 [k6, k] fuel (law22_QueuePlays.s38 l x123 x124 x125 x126 x127 x128 x129 x130 x131 x132 x133 x134 x135)) (fun x8 x9 x10 => lp law22_QueuePlays_E fuel Try.f4 [.raw] 0 law22_QueuePlays.k 41 [k6] fuel (law22_QueuePlays.s41 l x8 x9 x10)) x108 x109 x110 x111 x112 x113 x114 x115 x116 x117 x118 := by kernel_rfl
    rw [h]
    have e33 : (fun x108 x109 x110 x111 x112 x113 x114 x115 x116 x117 x118 => lp law22_QueuePlays_E fuel Try.f4 [.raw] 0 law22_QueuePlays.k 33 [k6] k (law22_QueuePlays.s33 l x108 x109 x110 x111 x112 x113 x114 x115 x116 x117 x118)) = law22_QueuePlays.l33 fuel l (fun x2 x3 x4 => lp law22_QueuePlays_E fuel Try.f4 [.raw] 0 law22_QueuePlays.k 6 [] k6 (law22_QueuePlays.s6 l x2 x3 x4)) k := (funext fun x108 => (funext fun x109 => (funext fun x110 => (funext fun x111 => (funext fun x112 => (funext fun x113 => (funext fun x114 => (funext fun x115 => (funext fun x116 => (funext fun x117 => (funext fun x118 => ih x108 x109 x110 x111 x112 x113 x114 x115 x116 x117 x118)))))))))))
    rw [e33]
    have e38 : (fun x123 x124 x125 x126 x127 x128 x129 x130 x131 x132 x133 x134 x135 => lp law22_QueuePlays_E fuel Try.f4 [.raw] 0 law22_QueuePlays.k 38 [k6, k] fuel (law22_QueuePlays.s38 l x123 x124 x125 x126 x127 x128 x129 x130 x131 x132 x133 x134 x135)) = law22_QueuePlays.l38 fuel l (fun x2 x3 x4 => lp law22_QueuePlays_E fuel Try.f4 [.raw] 0 law22_QueuePlays.k 6 [] k6 (law22_QueuePlays.s6 l x2 x3 x4)) (fun x108 x109 x110 x111 x112 x113 x114 x115 x116 x117 x118 => lp law22_QueuePlays_E fuel Try.f4 [.raw] 0 law22_QueuePlays.k 33 [k6] k (law22_QueuePlays.s33 l x108 x109 x110 x111 x112 x113 x114 x115 x116 x117 x118)) fuel := (funext fun x123 => (funext fun x124 => (funext fun x125 => (funext fun x126 => (funext fun x127 => (funext fun x128 => (funext fun x129 => (funext fun x130 => (funext fun x131 => (funext fun x132 => (funext fun x133 => (funext fun x134 => (funext fun x135 => law22_QueuePlays.l38_eq fuel l k6 k fuel x123 x124 x125 x126 x127 x128 x129 x130 x131 x132 x133 x134 x135)))))))))))))
    rw [e38]
    rw [e33]
    have e41 : (fun x8 x9 x10 => lp law22_QueuePlays_E fuel Try.f4 [.raw] 0 law22_QueuePlays.k 41 [k6] fuel (law22_QueuePlays.s41 l x8 x9 x10)) = law22_QueuePlays.l41 fuel l (fun x2 x3 x4 => lp law22_QueuePlays_E fuel Try.f4 [.raw] 0 law22_QueuePlays.k 6 [] k6 (law22_QueuePlays.s6 l x2 x3 x4)) fuel := (funext fun x8 => (funext fun x9 => (funext fun x10 => law22_QueuePlays.l41_eq fuel l k6 fuel x8 x9 x10)))
    rw [e41]
    rfl
theorem law22_QueuePlays.l26_eq (fuel : Nat) (l : List (Int × Int × Int × Int × Int)) (k6 : Nat) : ∀ (k : Nat) (x85 : Int) (x86 : Int) (x87 : Int) (x88 : (List (Int × Int))) (x89 : (List (Int × Int))) (x90 : Int) (x91 : Int) (x92 : Int) (x93 : Int) (x94 : Int) (x95 : (List Int)) (x96 : (List Int)) (x97 : (List Bool)), lp law22_QueuePlays_E fuel Try.f4 [.raw] 0 law22_QueuePlays.k 26 [k6] k (law22_QueuePlays.s26 l x85 x86 x87 x88 x89 x90 x91 x92 x93 x94 x95 x96 x97) = law22_QueuePlays.l26 fuel l (fun x2 x3 x4 => lp law22_QueuePlays_E fuel Try.f4 [.raw] 0 law22_QueuePlays.k 6 [] k6 (law22_QueuePlays.s6 l x2 x3 x4)) k x85 x86 x87 x88 x89 x90 x91 x92 x93 x94 x95 x96 x97 := by
  intro k
  induction k with
  | zero => intro x85 x86 x87 x88 x89 x90 x91 x92 x93 x94 x95 x96 x97; rfl
  | succ k ih =>
    intro x85 x86 x87 x88 x89 x90 x91 x92 x93 x94 x95 x96 x97
    have h : lp law22_QueuePlays_E fuel Try.f4 [.raw] 0 law22_QueuePlays.k 26 [k6] (k + 1) (law22_QueuePlays.s26 l x85 x86 x87 x88 x89 x90 x91 x92 x93 x94 x95 x96 x97) = law22_QueuePlays.b26 l (fun x2 x3 x4 => lp law22_QueuePlays_E fuel Try.f4 [.raw] 0 law22_QueuePlays.k 6 [] k6 (law22_QueuePlays.s6 l x2 x3 x4)) (fun x85 x86 x87 x88 x89 x90 x91 x92 x93 x94 x95 x96 x97 => lp law22_QueuePlays_E fuel Try.f4 [.raw] 0 law22_QueuePlays.k 26 [k6] k (law22_QueuePlays.s26 l x85 x86 x87 x88 x89 x90 x91 x92 x93 x94 x95 x96 x97)) (fun x108 x109 x110 x111 x112 x113 x114 x115 x116 x117 x118 => lp law22_QueuePlays_E fuel Try.f4 [.raw] 0 law22_QueuePlays.k 33 [k6] fuel (law22_QueuePlays.s33 l x108 x109 x110 x111 x112 x113 x114 x115 x116 x117 x118)) x85 x86 x87 x88 x89 x90 x91 x92 x93 x94 x95 x96 x97 := by kernel_rfl
    rw [h]
    have e26 : (fun x85 x86 x87 x88 x89 x90 x91 x92 x93 x94 x95 x96 x97 => lp law22_QueuePlays_E fuel Try.f4 [.raw] 0 law22_QueuePlays.k 26 [k6] k (law22_QueuePlays.s26 l x85 x86 x87 x88 x89 x90 x91 x92 x93 x94 x95 x96 x97)) = law22_QueuePlays.l26 fuel l (fun x2 x3 x4 => lp law22_QueuePlays_E fuel Try.f4 [.raw] 0 law22_QueuePlays.k 6 [] k6 (law22_QueuePlays.s6 l x2 x3 x4)) k := (funext fun x85 => (funext fun x86 => (funext fun x87 => (funext fun x88 => (funext fun x89 => (funext fun x90 => (funext fun x91 => (funext fun x92 => (funext fun x93 => (funext fun x94 => (funext fun x95 => (funext fun x96 => (funext fun x97 => ih x85 x86 x87 x88 x89 x90 x91 x92 x93 x94 x95 x96 x97)))))))))))))
    rw [e26]
    have e33 : (fun x108 x109 x110 x111 x112 x113 x114 x115 x116 x117 x118 => lp law22_QueuePlays_E fuel Try.f4 [.raw] 0 law22_QueuePlays.k 33 [k6] fuel (law22_QueuePlays.s33 l x108 x109 x110 x111 x112 x113 x114 x115 x116 x117 x118)) = law22_QueuePlays.l33 fuel l (fun x2 x3 x4 => lp law22_QueuePlays_E fuel Try.f4 [.raw] 0 law22_QueuePlays.k 6 [] k6 (law22_QueuePlays.s6 l x2 x3 x4)) fuel := (funext fun x108 => (funext fun x109 => (funext fun x110 => (funext fun x111 => (funext fun x112 => (funext fun x113 => (funext fun x114 => (funext fun x115 => (funext fun x116 => (funext fun x117 => (funext fun x118 => law22_QueuePlays.l33_eq fuel l k6 fuel x108 x109 x110 x111 x112 x113 x114 x115 x116 x117 x118)))))))))))
    rw [e33]
    rfl
theorem law22_QueuePlays.l22_eq (fuel : Nat) (l : List (Int × Int × Int × Int × Int)) (k6 : Nat) : ∀ (k : Nat) (x74 : Int) (x75 : Int) (x76 : (List (Int × Int))) (x77 : (List (Int × Int))) (x78 : Int) (x79 : Int) (x80 : Int) (x81 : Int) (x82 : Int) (x83 : (List Int)) (x84 : (List Int)), lp law22_QueuePlays_E fuel Try.f4 [.raw] 0 law22_QueuePlays.k 22 [k6] k (law22_QueuePlays.s22 l x74 x75 x76 x77 x78 x79 x80 x81 x82 x83 x84) = law22_QueuePlays.l22 fuel l (fun x2 x3 x4 => lp law22_QueuePlays_E fuel Try.f4 [.raw] 0 law22_QueuePlays.k 6 [] k6 (law22_QueuePlays.s6 l x2 x3 x4)) k x74 x75 x76 x77 x78 x79 x80 x81 x82 x83 x84 := by
  intro k
  induction k with
  | zero => intro x74 x75 x76 x77 x78 x79 x80 x81 x82 x83 x84; rfl
  | succ k ih =>
    intro x74 x75 x76 x77 x78 x79 x80 x81 x82 x83 x84
    have h : lp law22_QueuePlays_E fuel Try.f4 [.raw] 0 law22_QueuePlays.k 22 [k6] (k + 1) (law22_QueuePlays.s22 l x74 x75 x76 x77 x78 x79 x80 x81 x82 x83 x84) = law22_QueuePlays.b22 l (fun x2 x3 x4 => lp law22_QueuePlays_E fuel Try.f4 [.raw] 0 law22_QueuePlays.k 6 [] k6 (law22_QueuePlays.s6 l x2 x3 x4)) (fun x74 x75 x76 x77 x78 x79 x80 x81 x82 x83 x84 => lp law22_QueuePlays_E fuel Try.f4 [.raw] 0 law22_QueuePlays.k 22 [k6] k (law22_QueuePlays.s22 l x74 x75 x76 x77 x78 x79 x80 x81 x82 x83 x84)) (fun x85 x86 x87 x88 x89 x90 x91 x92 x93 x94 x95 x96 x97 => lp law22_QueuePlays_E fuel Try.f4 [.raw] 0 law22_QueuePlays.k 26 [k6] fuel (law22_QueuePlays.s26 l x85 x86 x87 x88 x89 x90 x91 x92 x93 x94 x95 x96 x97)) x74 x75 x76 x77 x78 x79 x80 x81 x82 x83 x84 := by kernel_rfl
    rw [h]
    have e22 : (fun x74 x75 x76 x77 x78 x79 x80 x81 x82 x83 x84 => lp law22_QueuePlays_E fuel Try.f4 [.raw] 0 law22_QueuePlays.k 22 [k6] k (law22_QueuePlays.s22 l x74 x75 x76 x77 x78 x79 x80 x81 x82 x83 x84)) = law22_QueuePlays.l22 fuel l (fun x2 x3 x4 => lp law22_QueuePlays_E fuel Try.f4 [.raw] 0 law22_QueuePlays.k 6 [] k6 (law22_QueuePlays.s6 l x2 x3 x4)) k := (funext fun x74 => (funext fun x75 => (funext fun x76 => (funext fun x77 => (funext fun x78 => (funext fun x79 => (funext fun x80 => (funext fun x81 => (funext fun x82 => (funext fun x83 => (funext fun x84 => ih x74 x75 x76 x77 x78 x79 x80 x81 x82 x83 x84)))))))))))
    rw [e22]
    have e26 : (fun x85 x86 x87 x88 x89 x90 x91 x92 x93 x94 x95 x96 x97 => lp law22_QueuePlays_E fuel Try.f4 [.raw] 0 law22_QueuePlays.k 26 [k6] fuel (law22_QueuePlays.s26 l x85 x86 x87 x88 x89 x90 x91 x92 x93 x94 x95 x96 x97)) = law22_QueuePlays.l26 fuel l (fun x2 x3 x4 => lp law22_QueuePlays_E fuel Try.f4 [.raw] 0 law22_QueuePlays.k 6 [] k6 (law22_QueuePlays.s6 l x2 x3 x4)) fuel := (funext fun x85 => (funext fun x86 => (funext fun x87 => (funext fun x88 => (funext fun x89 => (funext fun x90 => (funext fun x91 => (funext fun x92 => (funext fun x93 => (funext fun x94 => (funext fun x95 => (funext fun x96 => (funext fun x97 => law22_QueuePlays.l26_eq fuel l k6 fuel x85 x86 x87 x88 x89 x90 x91 x92 x93 x94 x95 x96 x97)))))))))))))
    rw [e26]
    rfl
theorem law22_QueuePlays.l20_eq (fuel : Nat) (l : List (Int × Int × Int × Int × Int)) (k6 : Nat) : ∀ (k : Nat) (x63 : Int) (x64 : Int) (x65 : (List (Int × Int))) (x66 : (List (Int × Int))) (x67 : Int) (x68 : Int) (x69 : Int) (x70 : Int) (x71 : Int) (x72 : (List Int)) (x73 : (List Int)), lp law22_QueuePlays_E fuel Try.f4 [.raw] 0 law22_QueuePlays.k 20 [k6] k (law22_QueuePlays.s20 l x63 x64 x65 x66 x67 x68 x69 x70 x71 x72 x73) = law22_QueuePlays.l20 fuel l (fun x2 x3 x4 => lp law22_QueuePlays_E fuel Try.f4 [.raw] 0 law22_QueuePlays.k 6 [] k6 (law22_QueuePlays.s6 l x2 x3 x4)) k x63 x64 x65 x66 x67 x68 x69 x70 x71 x72 x73 := by
  intro k
  induction k with
  | zero => intro x63 x64 x65 x66 x67 x68 x69 x70 x71 x72 x73; rfl
  | succ k ih =>
    intro x63 x64 x65 x66 x67 x68 x69 x70 x71 x72 x73
    have h : lp law22_QueuePlays_E fuel Try.f4 [.raw] 0 law22_QueuePlays.k 20 [k6] (k + 1) (law22_QueuePlays.s20 l x63 x64 x65 x66 x67 x68 x69 x70 x71 x72 x73) = law22_QueuePlays.b20 l (fun x2 x3 x4 => lp law22_QueuePlays_E fuel Try.f4 [.raw] 0 law22_QueuePlays.k 6 [] k6 (law22_QueuePlays.s6 l x2 x3 x4)) (fun x63 x64 x65 x66 x67 x68 x69 x70 x71 x72 x73 => lp law22_QueuePlays_E fuel Try.f4 [.raw] 0 law22_QueuePlays.k 20 [k6] k (law22_QueuePlays.s20 l x63 x64 x65 x66 x67 x68 x69 x70 x71 x72 x73)) (fun x74 x75 x76 x77 x78 x79 x80 x81 x82 x83 x84 => lp law22_QueuePlays_E fuel Try.f4 [.raw] 0 law22_QueuePlays.k 22 [k6] fuel (law22_QueuePlays.s22 l x74 x75 x76 x77 x78 x79 x80 x81 x82 x83 x84)) x63 x64 x65 x66 x67 x68 x69 x70 x71 x72 x73 := by kernel_rfl
    rw [h]
    have e20 : (fun x63 x64 x65 x66 x67 x68 x69 x70 x71 x72 x73 => lp law22_QueuePlays_E fuel Try.f4 [.raw] 0 law22_QueuePlays.k 20 [k6] k (law22_QueuePlays.s20 l x63 x64 x65 x66 x67 x68 x69 x70 x71 x72 x73)) = law22_QueuePlays.l20 fuel l (fun x2 x3 x4 => lp law22_QueuePlays_E fuel Try.f4 [.raw] 0 law22_QueuePlays.k 6 [] k6 (law22_QueuePlays.s6 l x2 x3 x4)) k := (funext fun x63 => (funext fun x64 => (funext fun x65 => (funext fun x66 => (funext fun x67 => (funext fun x68 => (funext fun x69 => (funext fun x70 => (funext fun x71 => (funext fun x72 => (funext fun x73 => ih x63 x64 x65 x66 x67 x68 x69 x70 x71 x72 x73)))))))))))
    rw [e20]
    have e22 : (fun x74 x75 x76 x77 x78 x79 x80 x81 x82 x83 x84 => lp law22_QueuePlays_E fuel Try.f4 [.raw] 0 law22_QueuePlays.k 22 [k6] fuel (law22_QueuePlays.s22 l x74 x75 x76 x77 x78 x79 x80 x81 x82 x83 x84)) = law22_QueuePlays.l22 fuel l (fun x2 x3 x4 => lp law22_QueuePlays_E fuel Try.f4 [.raw] 0 law22_QueuePlays.k 6 [] k6 (law22_QueuePlays.s6 l x2 x3 x4)) fuel := (funext fun x74 => (funext fun x75 => (funext fun x76 => (funext fun x77 => (funext fun x78 => (funext fun x79 => (funext fun x80 => (funext fun x81 => (funext fun x82 => (funext fun x83 => (funext fun x84 => law22_QueuePlays.l22_eq fuel l k6 fuel x74 x75 x76 x77 x78 x79 x80 x81 x82 x83 x84)))))))))))
    rw [e22]
    rfl
theorem law22_QueuePlays.l6_eq (fuel : Nat) (l : List (Int × Int × Int × Int × Int)) : ∀ (k : Nat) (x2 : Int) (x3 : (List (Int × Int))) (x4 : (List (Int × Int))), lp law22_QueuePlays_E fuel Try.f4 [.raw] 0 law22_QueuePlays.k 6 [] k (law22_QueuePlays.s6 l x2 x3 x4) = law22_QueuePlays.l6 fuel l k x2 x3 x4 := by
  intro k
  induction k with
  | zero => intro x2 x3 x4; rfl
  | succ k ih =>
    intro x2 x3 x4
    have h : lp law22_QueuePlays_E fuel Try.f4 [.raw] 0 law22_QueuePlays.k 6 [] (k + 1) (law22_QueuePlays.s6 l x2 x3 x4) = law22_QueuePlays.b6 l (fun x2 x3 x4 => lp law22_QueuePlays_E fuel Try.f4 [.raw] 0 law22_QueuePlays.k 6 [] k (law22_QueuePlays.s6 l x2 x3 x4)) (fun x8 x9 x10 => lp law22_QueuePlays_E fuel Try.f4 [.raw] 0 law22_QueuePlays.k 41 [k] fuel (law22_QueuePlays.s41 l x8 x9 x10)) (fun x63 x64 x65 x66 x67 x68 x69 x70 x71 x72 x73 => lp law22_QueuePlays_E fuel Try.f4 [.raw] 0 law22_QueuePlays.k 20 [k] fuel (law22_QueuePlays.s20 l x63 x64 x65 x66 x67 x68 x69 x70 x71 x72 x73)) x2 x3 x4 := by kernel_rfl
    rw [h]
    have e6 : (fun x2 x3 x4 => lp law22_QueuePlays_E fuel Try.f4 [.raw] 0 law22_QueuePlays.k 6 [] k (law22_QueuePlays.s6 l x2 x3 x4)) = law22_QueuePlays.l6 fuel l k := (funext fun x2 => (funext fun x3 => (funext fun x4 => ih x2 x3 x4)))
    rw [e6]
    have e41 : (fun x8 x9 x10 => lp law22_QueuePlays_E fuel Try.f4 [.raw] 0 law22_QueuePlays.k 41 [k] fuel (law22_QueuePlays.s41 l x8 x9 x10)) = law22_QueuePlays.l41 fuel l (fun x2 x3 x4 => lp law22_QueuePlays_E fuel Try.f4 [.raw] 0 law22_QueuePlays.k 6 [] k (law22_QueuePlays.s6 l x2 x3 x4)) fuel := (funext fun x8 => (funext fun x9 => (funext fun x10 => law22_QueuePlays.l41_eq fuel l k fuel x8 x9 x10)))
    rw [e41]
    rw [e6]
    have e20 : (fun x63 x64 x65 x66 x67 x68 x69 x70 x71 x72 x73 => lp law22_QueuePlays_E fuel Try.f4 [.raw] 0 law22_QueuePlays.k 20 [k] fuel (law22_QueuePlays.s20 l x63 x64 x65 x66 x67 x68 x69 x70 x71 x72 x73)) = law22_QueuePlays.l20 fuel l (fun x2 x3 x4 => lp law22_QueuePlays_E fuel Try.f4 [.raw] 0 law22_QueuePlays.k 6 [] k (law22_QueuePlays.s6 l x2 x3 x4)) fuel := (funext fun x63 => (funext fun x64 => (funext fun x65 => (funext fun x66 => (funext fun x67 => (funext fun x68 => (funext fun x69 => (funext fun x70 => (funext fun x71 => (funext fun x72 => (funext fun x73 => law22_QueuePlays.l20_eq fuel l k fuel x63 x64 x65 x66 x67 x68 x69 x70 x71 x72 x73)))))))))))
    rw [e20]
    rw [e6]
    rfl
theorem law22_QueuePlays.eq (fuel : Nat) (l : List (Int × Int × Int × Int × Int)) : (denF law22_QueuePlays_E loopN fuel Try.f4 [.raw] [.d (.sl (.pair (.int .i64) (.pair (.int .i64) (.pair (.int .i64) (.pair (.int .i64) (.int .i64)))))) l] [] law22_QueuePlays.k) = law22_QueuePlays.f fuel l := by
  have h : (denF law22_QueuePlays_E loopN fuel Try.f4 [.raw] [.d (.sl (.pair (.int .i64) (.pair (.int .i64) (.pair (.int .i64) (.pair (.int .i64) (.int .i64)))))) l] [] law22_QueuePlays.k) = law22_QueuePlays.b l (fun x2 x3 x4 => lp law22_QueuePlays_E fuel Try.f4 [.raw] 0 law22_QueuePlays.k 6 [] fuel (law22_QueuePlays.s6 l x2 x3 x4)) := by kernel_rfl
  rw [h]
  have e6 : (fun x2 x3 x4 => lp law22_QueuePlays_E fuel Try.f4 [.raw] 0 law22_QueuePlays.k 6 [] fuel (law22_QueuePlays.s6 l x2 x3 x4)) = law22_QueuePlays.l6 fuel l fuel := (funext fun x2 => (funext fun x3 => (funext fun x4 => law22_QueuePlays.l6_eq fuel l fuel x2 x3 x4)))
  rw [e6]
  rfl
theorem law22_QueuePlays.l51_at (fuel nN kK : Nat) (hN : nN = kK + 1) (l : List (Int × Int × Int × Int × Int)) (A6 : Int → (List (Int × Int)) → (List (Int × Int)) → Option Bool) (A46 : Int → Int → (List (Int × Int)) → (List (Int × Int)) → (List (Int × Int)) → (List Bool) → Option Bool) (A50 : Int → Int → Int → Int → (List (Int × Int)) → (List (Int × Int)) → (List (Int × Int)) → (List Bool) → Option Bool) (x28 : Int) (x29 : Int) (x30 : Int) (x31 : Int) (x32 : (List (Int × Int))) (x33 : (List (Int × Int))) (x34 : (List (Int × Int))) (x35 : (List Bool)) : law22_QueuePlays.l51 fuel l A6 A46 A50 nN x28 x29 x30 x31 x32 x33 x34 x35 = law22_QueuePlays.b51 l A6 A46 A50 (law22_QueuePlays.l51 fuel l A6 A46 A50 kK) x28 x29 x30 x31 x32 x33 x34 x35 := by
  subst hN
  rfl
theorem law22_QueuePlays.l47_at (fuel nN kK : Nat) (hN : nN = kK + 1) (l : List (Int × Int × Int × Int × Int)) (A6 : Int → (List (Int × Int)) → (List (Int × Int)) → Option Bool) (A46 : Int → Int → (List (Int × Int)) → (List (Int × Int)) → (List (Int × Int)) → (List Bool) → Option Bool) (x50 : Int) (x51 : Int) (x52 : (List (Int × Int))) (x53 : (List (Int × Int))) (x54 : (List (Int × Int))) (x55 : (List Bool)) : law22_QueuePlays.l47 fuel l A6 A46 nN x50 x51 x52 x53 x54 x55 = law22_QueuePlays.b47 l A6 A46 (law22_QueuePlays.l47 fuel l A6 A46 kK) x50 x51 x52 x53 x54 x55 := by
  subst hN
  rfl
theorem law22_QueuePlays.l50_at (fuel nN kK : Nat) (hN : nN = kK + 1) (l : List (Int × Int × Int × Int × Int)) (A6 : Int → (List (Int × Int)) → (List (Int × Int)) → Option Bool) (A46 : Int → Int → (List (Int × Int)) → (List (Int × Int)) → (List (Int × Int)) → (List Bool) → Option Bool) (x18 : Int) (x19 : Int) (x20 : Int) (x21 : Int) (x22 : (List (Int × Int))) (x23 : (List (Int × Int))) (x24 : (List (Int × Int))) (x25 : (List Bool)) : law22_QueuePlays.l50 fuel l A6 A46 nN x18 x19 x20 x21 x22 x23 x24 x25 = law22_QueuePlays.b50 l A6 A46 (law22_QueuePlays.l50 fuel l A6 A46 kK) (law22_QueuePlays.l51 fuel l A6 A46 (law22_QueuePlays.l50 fuel l A6 A46 kK) fuel) (law22_QueuePlays.l47 fuel l A6 A46 fuel) x18 x19 x20 x21 x22 x23 x24 x25 := by
  subst hN
  rfl
theorem law22_QueuePlays.l7_at (fuel nN kK : Nat) (hN : nN = kK + 1) (l : List (Int × Int × Int × Int × Int)) (A6 : Int → (List (Int × Int)) → (List (Int × Int)) → Option Bool) (x56 : Int) (x57 : (List (Int × Int))) (x58 : (List (Int × Int))) : law22_QueuePlays.l7 fuel l A6 nN x56 x57 x58 = law22_QueuePlays.b7 l A6 (law22_QueuePlays.l7 fuel l A6 kK) x56 x57 x58 := by
  subst hN
  rfl
theorem law22_QueuePlays.l46_at (fuel nN kK : Nat) (hN : nN = kK + 1) (l : List (Int × Int × Int × Int × Int)) (A6 : Int → (List (Int × Int)) → (List (Int × Int)) → Option Bool) (x12 : Int) (x13 : Int) (x14 : (List (Int × Int))) (x15 : (List (Int × Int))) (x16 : (List (Int × Int))) (x17 : (List Bool)) : law22_QueuePlays.l46 fuel l A6 nN x12 x13 x14 x15 x16 x17 = law22_QueuePlays.b46 l A6 (law22_QueuePlays.l46 fuel l A6 kK) (law22_QueuePlays.l50 fuel l A6 (law22_QueuePlays.l46 fuel l A6 kK) fuel) (law22_QueuePlays.l7 fuel l A6 fuel) x12 x13 x14 x15 x16 x17 := by
  subst hN
  rfl
theorem law22_QueuePlays.l41_at (fuel nN kK : Nat) (hN : nN = kK + 1) (l : List (Int × Int × Int × Int × Int)) (A6 : Int → (List (Int × Int)) → (List (Int × Int)) → Option Bool) (x8 : Int) (x9 : (List (Int × Int))) (x10 : (List (Int × Int))) : law22_QueuePlays.l41 fuel l A6 nN x8 x9 x10 = law22_QueuePlays.b41 l A6 (law22_QueuePlays.l41 fuel l A6 kK) (law22_QueuePlays.l46 fuel l A6 fuel) x8 x9 x10 := by
  subst hN
  rfl
theorem law22_QueuePlays.l34_at (fuel nN kK : Nat) (hN : nN = kK + 1) (l : List (Int × Int × Int × Int × Int)) (A6 : Int → (List (Int × Int)) → (List (Int × Int)) → Option Bool) (A33 : Int → Int → (List (Int × Int)) → (List (Int × Int)) → Int → Int → Int → Int → Int → (List Bool) → (List (Int × Int)) → Option Bool) (x138 : Int) (x139 : Int) (x140 : (List (Int × Int))) (x141 : (List (Int × Int))) (x142 : Int) (x143 : Int) (x144 : Int) (x145 : Int) (x146 : Int) (x147 : (List Bool)) (x148 : (List (Int × Int))) : law22_QueuePlays.l34 fuel l A6 A33 nN x138 x139 x140 x141 x142 x143 x144 x145 x146 x147 x148 = law22_QueuePlays.b34 l A6 A33 (law22_QueuePlays.l34 fuel l A6 A33 kK) x138 x139 x140 x141 x142 x143 x144 x145 x146 x147 x148 := by
  subst hN
  rfl
theorem law22_QueuePlays.l38_at (fuel nN kK : Nat) (hN : nN = kK + 1) (l : List (Int × Int × Int × Int × Int)) (A6 : Int → (List (Int × Int)) → (List (Int × Int)) → Option Bool) (A33 : Int → Int → (List (Int × Int)) → (List (Int × Int)) → Int → Int → Int → Int → Int → (List Bool) → (List (Int × Int)) → Option Bool) (x123 : Int) (x124 : Int) (x125 : (List (Int × Int))) (x126 : (List (Int × Int))) (x127 : Int) (x128 : Int) (x129 : Int) (x130 : Int) (x131 : Int) (x132 : (List Bool)) (x133 : (List (Int × Int))) (x134 : Int) (x135 : Int) : law22_QueuePlays.l38 fuel l A6 A33 nN x123 x124 x125 x126 x127 x128 x129 x130 x131 x132 x133 x134 x135 = law22_QueuePlays.b38 l A6 A33 (law22_QueuePlays.l38 fuel l A6 A33 kK) (law22_QueuePlays.l34 fuel l A6 A33 fuel) x123 x124 x125 x126 x127 x128 x129 x130 x131 x132 x133 x134 x135 := by
  subst hN
  rfl
theorem law22_QueuePlays.l33_at (fuel nN kK : Nat) (hN : nN = kK + 1) (l : List (Int × Int × Int × Int × Int)) (A6 : Int → (List (Int × Int)) → (List (Int × Int)) → Option Bool) (x108 : Int) (x109 : Int) (x110 : (List (Int × Int))) (x111 : (List (Int × Int))) (x112 : Int) (x113 : Int) (x114 : Int) (x115 : Int) (x116 : Int) (x117 : (List Bool)) (x118 : (List (Int × Int))) : law22_QueuePlays.l33 fuel l A6 nN x108 x109 x110 x111 x112 x113 x114 x115 x116 x117 x118 = law22_QueuePlays.b33 l A6 (law22_QueuePlays.l33 fuel l A6 kK) (law22_QueuePlays.l38 fuel l A6 (law22_QueuePlays.l33 fuel l A6 kK) fuel) (law22_QueuePlays.l41 fuel l A6 fuel) x108 x109 x110 x111 x112 x113 x114 x115 x116 x117 x118 := by
  subst hN
  rfl
theorem law22_QueuePlays.l26_at (fuel nN kK : Nat) (hN : nN = kK + 1) (l : List (Int × Int × Int × Int × Int)) (A6 : Int → (List (Int × Int)) → (List (Int × Int)) → Option Bool) (x85 : Int) (x86 : Int) (x87 : Int) (x88 : (List (Int × Int))) (x89 : (List (Int × Int))) (x90 : Int) (x91 : Int) (x92 : Int) (x93 : Int) (x94 : Int) (x95 : (List Int)) (x96 : (List Int)) (x97 : (List Bool)) : law22_QueuePlays.l26 fuel l A6 nN x85 x86 x87 x88 x89 x90 x91 x92 x93 x94 x95 x96 x97 = law22_QueuePlays.b26 l A6 (law22_QueuePlays.l26 fuel l A6 kK) (law22_QueuePlays.l33 fuel l A6 fuel) x85 x86 x87 x88 x89 x90 x91 x92 x93 x94 x95 x96 x97 := by
  subst hN
  rfl
theorem law22_QueuePlays.l22_at (fuel nN kK : Nat) (hN : nN = kK + 1) (l : List (Int × Int × Int × Int × Int)) (A6 : Int → (List (Int × Int)) → (List (Int × Int)) → Option Bool) (x74 : Int) (x75 : Int) (x76 : (List (Int × Int))) (x77 : (List (Int × Int))) (x78 : Int) (x79 : Int) (x80 : Int) (x81 : Int) (x82 : Int) (x83 : (List Int)) (x84 : (List Int)) : law22_QueuePlays.l22 fuel l A6 nN x74 x75 x76 x77 x78 x79 x80 x81 x82 x83 x84 = law22_QueuePlays.b22 l A6 (law22_QueuePlays.l22 fuel l A6 kK) (law22_QueuePlays.l26 fuel l A6 fuel) x74 x75 x76 x77 x78 x79 x80 x81 x82 x83 x84 := by
  subst hN
  rfl
theorem law22_QueuePlays.l20_at (fuel nN kK : Nat) (hN : nN = kK + 1) (l : List (Int × Int × Int × Int × Int)) (A6 : Int → (List (Int × Int)) → (List (Int × Int)) → Option Bool) (x63 : Int) (x64 : Int) (x65 : (List (Int × Int))) (x66 : (List (Int × Int))) (x67 : Int) (x68 : Int) (x69 : Int) (x70 : Int) (x71 : Int) (x72 : (List Int)) (x73 : (List Int)) : law22_QueuePlays.l20 fuel l A6 nN x63 x64 x65 x66 x67 x68 x69 x70 x71 x72 x73 = law22_QueuePlays.b20 l A6 (law22_QueuePlays.l20 fuel l A6 kK) (law22_QueuePlays.l22 fuel l A6 fuel) x63 x64 x65 x66 x67 x68 x69 x70 x71 x72 x73 := by
  subst hN
  rfl
theorem law22_QueuePlays.l6_at (fuel nN kK : Nat) (hN : nN = kK + 1) (l : List (Int × Int × Int × Int × Int)) (x2 : Int) (x3 : (List (Int × Int))) (x4 : (List (Int × Int))) : law22_QueuePlays.l6 fuel l nN x2 x3 x4 = law22_QueuePlays.b6 l (law22_QueuePlays.l6 fuel l kK) (law22_QueuePlays.l41 fuel l (law22_QueuePlays.l6 fuel l kK) fuel) (law22_QueuePlays.l20 fuel l (law22_QueuePlays.l6 fuel l kK) fuel) x2 x3 x4 := by
  subst hN
  rfl
theorem pow_le13 (k : Nat) (h : k ≤ 13) : 2 ^ k ≤ 8192 := Nat.le_trans (Nat.pow_le_pow_right (by omega) h) (by decide)
theorem pow_b (k : Nat) (h : k ≤ 13) : 0 ≤ ((2 ^ k : Nat) : Int) ∧ ((2 ^ k : Nat) : Int) ≤ 8192 := ⟨Int.natCast_nonneg _, Int.ofNat_le.2 (pow_le13 k h)⟩
theorem wrap_b (z : Int) (h : 0 ≤ z ∧ z ≤ 8192) : Go.IntKind.wrap .i64 z = z := wrap_small z (by omega) (by omega)
theorem pow_int (k : Nat) (h : k ≤ 13) : Go.IntKind.wrap .i64 (1 * (2 ^ (Min.min (Int.toNat (k : Int)) (Go.IntKind.bits .i64)))) = ((2 ^ k : Nat) : Int) := by
  have e : Min.min (Int.toNat (k : Int)) (Go.IntKind.bits .i64) = k := by
    rw [Int.toNat_natCast, show Go.IntKind.bits .i64 = 64 from rfl]; omega
  have := pow_le13 k h
  rw [e, Int.one_mul]
  have e2 : (2 : Int) ^ k = ((2 ^ k : Nat) : Int) := by push_cast; rfl
  rw [e2, wrap_b _ (pow_b k h)]
theorem minI_le (members : Int) : minI members 4096 ≤ 4096 := by unfold minI; split <;> omega
theorem budget_loop (members mult : Int) (hm : 0 ≤ members) : ∀ (j k n : Nat), k + j = 13 → j < n → (k = 0 ∨ ((2 ^ (k - 1) : Nat) : Int) ≤ minI members 4096) →
    ∃ K : Nat, K ≤ 13 ∧ queue_Budget.l5 BIG members mult n (k : Int) = some (Go.IntKind.wrap .i64 (minI mult 64 * (K : Int))) ∧ minI members 4096 < ((2 ^ K : Nat) : Int) ∧ (K = 0 ∨ ((2 ^ (K - 1) : Nat) : Int) ≤ minI members 4096)
  | j, k, 0, _, h, _ => absurd h (by omega)
  | 0, k, n + 1, hk, h, hi => by
    have hk : k = 13 := by omega
    subst hk
    refine ⟨13, Nat.le_refl _, ?_, ?_, hi⟩
    · rw [queue_Budget.l5_at BIG (n + 1) n rfl]
      unfold queue_Budget.b5
      have := minI_le members
      rw [if_neg (by omega), pow_int 13 (by omega), if_neg (by simp; omega)]
    · have := minI_le members
      simp; omega
  | j + 1, k, n + 1, hk, h, hi => by
    rw [queue_Budget.l5_at BIG (n + 1) n rfl]
    unfold queue_Budget.b5
    rw [if_neg (by omega), pow_int k (by omega)]
    by_cases hc : ((2 ^ k : Nat) : Int) ≤ minI members 4096
    · rw [if_pos (by rw [decide_eq_true_eq]; exact hc), wrap_small _ (by omega) (by omega)]
      exact budget_loop members mult hm j (k + 1) n (by omega) (by omega) (.inr hc)
    · rw [if_neg (by rw [decide_eq_true_eq]; exact hc)]
      exact ⟨k, by omega, rfl, by omega, hi⟩
theorem queue_Budget.pure (members mult : Int) (hm : 0 ≤ members) (hu : 1 ≤ mult) :
    ∃ K : Nat, K ≤ 13 ∧ queue_Budget.f BIG members mult = some (minI mult 64 * (K : Int)) ∧ minI members 4096 < ((2 ^ K : Nat) : Int) ∧ (K = 0 ∨ ((2 ^ (K - 1) : Nat) : Int) ≤ minI members 4096) := by
  obtain ⟨K, hK, he, h1, h2⟩ := budget_loop members mult hm 13 0 BIG rfl (by rw [BIG_eq]; omega) (.inl rfl)
  refine ⟨K, hK, ?_, h1, h2⟩
  unfold queue_Budget.f queue_Budget.b
  rw [if_neg (by simp; omega), if_neg (by simp; omega)]
  have hu1 : 0 ≤ minI mult 64 ∧ minI mult 64 ≤ 64 := by unfold minI; split <;> omega
  have hp : minI mult 64 * (K : Int) ≤ 64 * 13 := Int.mul_le_mul hu1.2 (by omega) (by omega) (by omega)
  have hp0 : 0 ≤ minI mult 64 * (K : Int) := Int.mul_nonneg hu1.1 (by omega)
  refine Eq.trans he ?_
  rw [wrap_small _ (by omega) (by omega)]
theorem budget_one (members mult : Int) (K : Nat) (hm : 0 ≤ members) (hu : 1 ≤ mult) (hK : 0 < K) (hK13 : K ≤ 13) (h1 : members < ((2 ^ K : Nat) : Int)) (h2 : ((2 ^ (K - 1) : Nat) : Int) ≤ members) (hmm : members ≤ 4096) (hmu : mult ≤ 64) : queue_Budget.f BIG members mult = some (mult * (K : Int)) := by
  obtain ⟨K', hK', he, h1', h2'⟩ := queue_Budget.pure members mult hm hu
  have e1 : minI members 4096 = members := by unfold minI; rw [if_neg (by omega)]
  have e2 : minI mult 64 = mult := by unfold minI; rw [if_neg (by omega)]
  rw [e1] at h1' h2'
  rw [e2] at he
  have : K' = K := by
    rcases Nat.lt_trichotomy K' K with h | h | h
    · have : 2 ^ K' ≤ 2 ^ (K - 1) := Nat.pow_le_pow_right (by omega) (by omega)
      omega
    · exact h
    · have : 2 ^ K ≤ 2 ^ (K' - 1) := Nat.pow_le_pow_right (by omega) (by omega)
      omega
  rw [he, this]
theorem budget_zero (mult : Int) (hu : 1 ≤ mult) : queue_Budget.f BIG 0 mult = some 0 := by
  obtain ⟨K', hK', he, h1', h2'⟩ := queue_Budget.pure 0 mult (by omega) hu
  have e1 : minI 0 4096 = 0 := rfl
  rw [e1] at h2'
  have : K' = 0 := by
    rcases h2' with h | h
    · exact h
    · have : 0 < 2 ^ (K' - 1) := Nat.pow_pos (by omega)
      omega
  rw [he, this]; simp
theorem law22_awake.pure : law22_awake.f BIG () = some true := by
  unfold law22_awake.f law22_awake.b
  rw [show queue_New.f BIG () = some () from rfl]
  simp only [veil_eq]
  rw [queue_Queue_Put.pure [] 1 (by simp)]
  simp only [veil_eq]
  have e1 : qPut [] 1 = [(1, 0)] := rfl
  rw [e1, queue_Queue_Put.pure [(1, 0)] 2 (by simp)]
  simp only [veil_eq]
  have e2 : qPut [(1, 0)] 2 = [(1, 0), (2, 0)] := rfl
  rw [e2, queue_Queue_Take.pure [(1, 0), (2, 0)] 1 2 [] (by simp) (by simp)]
  simp only [veil_eq]
  have w1 : Go.IntKind.wrap .i64 (0 + 1) = 1 := wrap_small _ (by omega) (by omega)
  have w2 : Go.IntKind.wrap .i64 (1 + 1) = 2 := wrap_small _ (by omega) (by omega)
  have e3 : qTake [(1, 0), (2, 0)] 1 2 [] = ([(1, 0), (2, 1)], [2]) := by
    unfold qTake
    have eo : tOut [] 1 (isort ([(1, 0), (2, 0)] : List QT).reverse) [] = [2] := rfl
    dsimp only
    rw [eo, if_neg (by simp)]
    have b1 : tBump [2] (1, 0) = (1, 0) := rfl
    have b2 : tBump [2] (2, 0) = (2, 1) := by show ((2 : Int), Go.IntKind.wrap .i64 (0 + 1)) = _; rw [w1]
    rw [List.map_cons, List.map_cons, List.map_nil, b1, b2]
    rfl
  rw [e3, queue_Queue_Take.pure [(1, 0), (2, 1)] 2 2 [] (by simp) (by simp)]
  simp only [veil_eq]
  have e4 : qTake [(1, 0), (2, 1)] 2 2 [] = ([(1, 1)], [1, 2]) := by
    unfold qTake
    have eo : tOut [] 2 (isort ([(1, 0), (2, 1)] : List QT).reverse) [] = [1, 2] := rfl
    dsimp only
    rw [eo, if_neg (by simp)]
    have b1 : tBump [1, 2] (1, 0) = (1, 1) := by show ((1 : Int), Go.IntKind.wrap .i64 (0 + 1)) = _; rw [w1]
    have b2 : tBump [1, 2] (2, 1) = (2, 2) := by show ((2 : Int), Go.IntKind.wrap .i64 (1 + 1)) = _; rw [w2]
    rw [List.map_cons, List.map_cons, List.map_nil, b1, b2]
    rfl
  rw [e4]
  have i1 : idx ([2] : List Int) 0 = some 2 := rfl
  have i2 : idx ([1, 2] : List Int) 0 = some 1 := rfl
  have i3 : idx ([1, 2] : List Int) 1 = some 2 := rfl
  dsimp only
  rw [i1, i2, i3]
  dsimp only
  rw [queue_Queue_All.pure [(1, 1)] (by simp), budget_one 7 3 3 (by omega) (by omega) (by omega) (by omega) (by decide) (by decide) (by omega) (by omega), budget_one 8 3 4 (by omega) (by omega) (by omega) (by omega) (by decide) (by decide) (by omega) (by omega), budget_zero 3 (by omega)]
  simp only [veil_eq]
  rfl
theorem hasI_iff (s : List Int) (v : Int) : hasI s v = true ↔ v ∈ s := by
  unfold hasI
  rw [List.any_eq_true]
  constructor
  · rintro ⟨x, hx, e⟩
    have : v = x := by simpa using e
    rw [this]; exact hx
  · intro h
    exact ⟨v, h, by simp⟩
abbrev AQ := Int × Int × Int × Int × Int
abbrev GQ := Int → List QT → List QT → Option Bool
abbrev HQ := Int → Int → List QT → List QT → List QT → List Bool → Option Bool
def qF (free : List Bool) (i : Nat) : Bool := !(free.getD i false)
theorem chk50 (l : List AQ) (G : GQ) (H : HQ) (i : Int) (k : Nat) (x22 s now : List QT) (free : List Bool) (hf : free.length = s.length) (hs : s.length ≤ 1000) (b : Nat) (hb : b < s.length) (hk : k < now.length) (hn : now.getD k (0, 0) = itm s b) : ∀ (j : Nat) (at0 : Option Nat) (n : Nat), j < n → j ≤ s.length → (∀ a, at0 = some a → a < s.length) → fm s at0 (cands (qF free) j) = some b →
    law22_QueuePlays.l50 BIG l G H n i (k : Int) (atI at0) ((j : Int) - 1) x22 s now free = H i (Go.IntKind.wrap .i64 ((k : Int) + 1)) x22 s now (free.set b true)
  | j, at0, 0, h, _, _, _ => absurd h (by omega)
  | 0, at0, n + 1, h, hj, ha, hfm => by
    have e0 : fm s at0 (cands (qF free) 0) = at0 := by
      unfold cands
      cases at0 <;> rfl
    rw [e0] at hfm
    subst hfm
    rw [law22_QueuePlays.l50_at BIG (n + 1) n rfl]
    unfold law22_QueuePlays.b50
    rw [if_neg (by simp), show atI (some b) = (b : Int) from rfl, getD_at free false b (by omega)]
    dsimp only
    rw [getD_at now (0, 0) k hk]
    dsimp only
    rw [getD_at s (0, 0) b hb]
    dsimp only
    have h1 : ((now.getD k (0, 0)).1 != (s.getD b (0, 0)).1) = false := by rw [hn]; unfold itm; simp
    have h2 : ((now.getD k (0, 0)).2 != (s.getD b (0, 0)).2) = false := by rw [hn]; unfold itm; simp
    rw [h1, if_neg (by simp), h2, if_neg (by simp), Int.toNat_natCast, law22_QueuePlays.l47_at BIG BIG _ big_eq]
    rfl
  | j + 1, at0, n + 1, h, hj, ha, hfm => by
    have ej : ((j + 1 : Nat) : Int) - 1 = (j : Int) := by omega
    have ew : Go.IntKind.wrap .i64 ((j : Int) - 1) = (j : Int) - 1 := wrap_small _ (by omega) (by omega)
    rw [law22_QueuePlays.l50_at BIG (n + 1) n rfl]
    unfold law22_QueuePlays.b50
    rw [ej, if_pos (by simp), getD_at free false j (by omega)]
    dsimp only
    have go : ∀ at1 : Option Nat, (∀ a, at1 = some a → a < s.length) → fm s at1 (cands (qF free) j) = some b → law22_QueuePlays.l51 BIG l G H (law22_QueuePlays.l50 BIG l G H n) BIG i (k : Int) (atI at1) (j : Int) x22 s now free = H i (Go.IntKind.wrap .i64 ((k : Int) + 1)) x22 s now (free.set b true) := by
      intro at1 h1 h2
      rw [law22_QueuePlays.l51_at BIG BIG _ big_eq]
      unfold law22_QueuePlays.b51
      rw [ew]
      exact chk50 l G H i k x22 s now free hf hs b hb hk hn j at1 n (by omega) (by omega) h1 h2
    rw [cands_succ] at hfm
    cases hfj : free.getD j false with
    | true =>
      rw [if_neg (by simp)]
      rw [if_neg (by unfold qF; rw [hfj]; simp)] at hfm
      exact go at0 ha hfm
    | false =>
      rw [if_pos (by rfl)]
      rw [if_pos (by unfold qF; rw [hfj]; rfl)] at hfm
      cases at0 with
      | none =>
        rw [if_pos (by rfl)]
        rw [fm] at hfm
        exact go (some j) (fun a e => by cases e; omega) hfm
      | some a =>
        have ha' := ha a rfl
        rw [if_neg (by show ¬ (decide ((a : Int) < 0) = true); simp), getD_at s (0, 0) j (by omega)]
        dsimp only
        rw [show atI (some a) = (a : Int) from rfl, getD_at s (0, 0) a ha']
        dsimp only
        rw [fm] at hfm
        by_cases hlt : (itm s j).2 < (itm s a).2
        · rw [if_pos hlt] at hfm
          rw [if_pos (by exact decide_eq_true hlt)]
          exact go (some j) (fun a e => by cases e; omega) hfm
        · rw [if_neg hlt] at hfm
          rw [if_neg (by intro e; exact hlt (of_decide_eq_true e))]
          exact go (some a) ha hfm
theorem chk46 (l : List AQ) (G : GQ) (i : Int) (s now : List QT) (hs : s.length ≤ 1000) (hnl : now.length = s.length) : ∀ (r k : Nat) (free : List Bool) (n : Nat), k + r = s.length → free.length = s.length → (cands (qF free) s.length).length = r → now.drop k = (sel s r (cands (qF free) s.length)).map (itm s) → r < n →
    law22_QueuePlays.l46 BIG l G n i (k : Int) s s now free = G (Go.IntKind.wrap .i64 (i + 1)) s s
  | r, k, free, 0, _, _, _, _, h => absurd h (by omega)
  | 0, k, free, n + 1, hk, hf, hc, hd, h => by
    rw [law22_QueuePlays.l46_at BIG (n + 1) n rfl]
    unfold law22_QueuePlays.b46
    rw [if_neg (by simp; omega), law22_QueuePlays.l7_at BIG BIG _ big_eq]
    rfl
  | r + 1, k, free, n + 1, hk, hf, hc, hd, h => by
    rw [law22_QueuePlays.l46_at BIG (n + 1) n rfl]
    unfold law22_QueuePlays.b46
    rw [if_pos (by simp; omega), wrap_small _ (by omega) (by omega)]
    obtain ⟨b, C1, C2, hb, he, h1, h2⟩ := fm_cut s (cands (qF free) s.length) (by intro e; rw [e] at hc; simp at hc)
    have hbm : b ∈ cands (qF free) s.length := by rw [he]; simp
    have hbl := ((cands_mem _ _ _).1 hbm).1
    have hq : (cands (qF free) s.length).filter (fun x => !(x == b)) = cands (qF (free.set b true)) s.length := by
      rw [← cands_filter (qF free) (qF (free.set b true)) s.length]
      · refine List.filter_congr fun x hx => ?_
        have hx' := ((cands_mem _ _ _).1 hx).2
        unfold qF at hx' ⊢
        rw [getD_set free b x (by omega)]
        simp only [Bool.not_eq_true'] at hx'
        rw [hx']
        simp
      · intro x hx hr
        unfold qF at hr ⊢
        rw [getD_set free b x (by omega)] at hr
        simp only [Bool.not_eq_true', Bool.or_eq_false_iff] at hr
        rw [hr.1]
        rfl
    rw [sel, hb] at hd
    dsimp only at hd
    rw [hq, List.map_cons] at hd
    have hnk : now.getD k (0, 0) = itm s b := by
      have e := gD_get now (0, 0) k (by omega)
      rw [e]
      have := List.drop_eq_getElem_cons (l := now) (i := k) (by omega)
      rw [this] at hd
      exact (List.cons.inj hd).1
    have hdk : now.drop (k + 1) = (sel s r (cands (qF (free.set b true)) s.length)).map (itm s) := by
      have := List.drop_eq_getElem_cons (l := now) (i := k) (by omega)
      rw [this] at hd
      exact (List.cons.inj hd).2
    have e := chk50 l G (law22_QueuePlays.l46 BIG l G n) i k s s now free hf hs b hbl (by omega) hnk s.length none BIG (by rw [BIG_eq]; omega) (Nat.le_refl _) (by intro a e; cases e) hb
    refine Eq.trans e ?_
    rw [lenw _ (by omega)]
    have hlen : (cands (qF (free.set b true)) s.length).length = r := by
      rw [← hq, he, nodup_cut C1 C2 b (he ▸ cands_nodup _ _)]
      have : (C1 ++ b :: C2).length = r + 1 := by rw [← he]; exact hc
      simp at this ⊢
      omega
    exact chk46 l G i s now hs hnl r (k + 1) (free.set b true) n (by omega) (by simpa using hf) hlen hdk (by omega)
theorem rep_false (n i : Nat) : (List.replicate n false).getD i false = false := by
  show ((List.replicate n false)[i]?).getD false = false
  rw [List.getElem?_replicate]
  split <;> rfl
theorem chk41 (l : List AQ) (G : GQ) (i : Int) (s : List QT) (hs : s.length ≤ 40) : law22_QueuePlays.l41 BIG l G BIG i s s = G (Go.IntKind.wrap .i64 (i + 1)) s s := by
  rw [law22_QueuePlays.l41_at BIG BIG _ big_eq]
  unfold law22_QueuePlays.b41
  rw [queue_Queue_All.pure s hs]
  simp only [veil_eq]
  have hl : (isort s.reverse).length = s.length := by rw [isort_len, List.length_reverse]
  have hz : List.replicate (Int.toNat ((s.length : Nat) : Int)) (zeroI Go.Den.Ty.bool) = List.replicate s.length false := by rw [Int.toNat_natCast]; rfl
  rw [if_neg (by rw [hl]; simp), if_pos (by omega), hz]
  have hq : qF (List.replicate s.length false) = fun i => (fun _ : QT => true) (itm s i) := by
    funext i
    unfold qF
    rw [rep_false]; rfl
  have hc : (cands (qF (List.replicate s.length false)) s.length).length = s.length := by
    rw [hq]
    unfold cands
    rw [List.filter_eq_self.2 (by simp)]
    simp
  refine chk46 l G i s (isort s.reverse) (by omega) hl s.length 0 _ BIG (by omega) (by simp) hc ?_ (by rw [BIG_eq]; omega)
  rw [List.drop_zero, hq, sel_isort s (fun _ => true) s.length (Nat.le_refl _), List.filter_eq_self.2 (by simp)]
theorem hasI_one (but x : Int) : hasI [but] x = (x == but) := by unfold hasI; simp
theorem tOut_take (but n : Int) : ∀ (L : List QT) (out : List Int), (out.length : Int) ≤ n ∨ n ≤ 0 ∧ out = [] → tOut [but] n L out = out ++ ((L.filter (fun x => !(x.1 == but))).map (·.1)).take (n.toNat - out.length)
  | [], out, h => by simp [tOut]
  | x :: L, out, h => by
    rw [tOut]
    by_cases hn : (out.length : Int) ≥ n
    · rw [if_pos hn]
      have : n.toNat - out.length = 0 := by omega
      rw [this]; simp
    · rw [if_neg hn, hasI_one]
      by_cases hx : x.1 = but
      · rw [if_pos (by simp [hx]), tOut_take but n L out h]
        rw [List.filter_cons, if_neg (by simp [hx])]
      · rw [if_neg (by simp [hx]), tOut_take but n L (out ++ [x.1]) (by simp; omega)]
        rw [List.filter_cons, if_pos (by simp [hx]), List.map_cons]
        have : n.toNat - out.length = (n.toNat - (out ++ [x.1]).length) + 1 := by simp; omega
        rw [this, List.take_succ_cons]
        simp
def ND (s : List QT) : Prop := s.Pairwise fun x y => x.1 ≠ y.1
theorem ND_inj : ∀ (s : List QT), ND s → ∀ i j, i < s.length → j < s.length → (itm s i).1 = (itm s j).1 → i = j
  | [], _, i, j, h, _, _ => by simp at h
  | x :: s, hn, 0, 0, _, _, _ => rfl
  | x :: s, hn, 0, j + 1, _, hj, e => by
    have hj' : j < s.length := by simpa using hj
    have := (List.pairwise_cons.1 hn).1 (s.getD j (0, 0)) (by rw [gD_get s _ j hj']; exact List.getElem_mem hj')
    exact absurd e this
  | x :: s, hn, i + 1, 0, hi, _, e => by
    have hi' : i < s.length := by simpa using hi
    have := (List.pairwise_cons.1 hn).1 (s.getD i (0, 0)) (by rw [gD_get s _ i hi']; exact List.getElem_mem hi')
    exact absurd e.symm this
  | x :: s, hn, i + 1, j + 1, hi, hj, e => by
    have := ND_inj s (List.pairwise_cons.1 hn).2 i j (by simpa using hi) (by simpa using hj) e
    omega
end Go.Proofs.Ytkfiohbhihmcnaa
