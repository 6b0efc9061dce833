/- QueuePlays: whatever acts are given, the law returns true, and the input reads as it did. There is no condition. -/
import Derived.Test.YtkfiohbhihmcnaaZQueuePlays2
set_option linter.unusedVariables false
set_option linter.unusedSimpArgs false
set_option maxRecDepth 100000
namespace Go.Proofs.Ytkfiohbhihmcnaa
open Go.Den
theorem tk33 (l : List AQ) (G : GQ) (i : Int) (items s : List QT) (out : List Int) (a1 a2 a3 a4 a5 : Int) (told : List Bool) (ht : told.length = s.length) (hs : s.length ≤ 1000) (hto : ∀ k, k < s.length → told.getD k false = hasI out (itm s k).1) : ∀ (suf pre acc : List QT) (n : Nat), pre ++ suf = s → acc.length ≤ pre.length → suf.length < n →
    law22_QueuePlays.l33 BIG l G n i ((pre.length : Nat) : Int) items s a1 a2 a3 a4 a5 told acc = law22_QueuePlays.l41 BIG l G BIG i items (acc ++ (suf.map (tBump out)).filter (fun v => !(pOut out a4 v)))
  | suf, pre, acc, 0, _, _, h => absurd h (by omega)
  | [], pre, acc, n + 1, he, ha, h => by
    rw [law22_QueuePlays.l33_at BIG (n + 1) n rfl]
    unfold law22_QueuePlays.b33
    rw [if_neg (by rw [← he]; simp)]
    simp
  | x :: suf, pre, acc, n + 1, he, ha, h => by
    simp at h
    have hpl : pre.length + (suf.length + 1) = s.length := by rw [← he]; simp
    have hi : idx s ((pre.length : Nat) : Int) = some x := by rw [← he]; exact idx_mid pre x suf
    have hx : itm s pre.length = x := by
      have e := idx_qa s pre.length (by omega)
      rw [hi] at e
      exact (Option.some.inj e).symm
    have htk := hto pre.length (by omega)
    rw [hx] at htk
    rw [law22_QueuePlays.l33_at BIG (n + 1) n rfl]
    unfold law22_QueuePlays.b33
    rw [if_pos (by simp; omega), hi]
    dsimp only
    rw [getD_at told false pre.length (by omega), htk]
    dsimp only
    have e2 : (pre ++ [x]).length = pre.length + 1 := by simp
    have go34 : ∀ acc2 : List QT, acc2.length ≤ pre.length + 1 → law22_QueuePlays.l34 BIG l G (law22_QueuePlays.l33 BIG l G n) BIG i ((pre.length : Nat) : Int) items s a1 a2 a3 a4 a5 told acc2 = law22_QueuePlays.l41 BIG l G BIG i items (acc2 ++ (suf.map (tBump out)).filter (fun v => !(pOut out a4 v))) := by
      intro acc2 h2
      rw [law22_QueuePlays.l34_at BIG BIG _ big_eq]
      unfold law22_QueuePlays.b34
      rw [lenw _ (by omega)]
      have ih := tk33 l G i items s out a1 a2 a3 a4 a5 told ht hs hto suf (pre ++ [x]) acc2 n (by rw [← he]; simp) (by rw [e2]; exact h2) (by omega)
      rw [e2] at ih
      exact ih
    cases hh : hasI out x.1 with
    | false =>
      rw [if_neg (by simp), law22_QueuePlays.l38_at BIG BIG _ big_eq]
      unfold law22_QueuePlays.b38
      rw [getD_at told false pre.length (by omega), htk, hh]
      dsimp only
      rw [if_pos (by rfl), if_pos (by unfold lim; simp; omega), go34 _ (by simp; omega)]
      have hb : tBump out x = x := by unfold tBump; rw [if_neg (by simp [hh])]
      have hp : pOut out a4 x = false := by unfold pOut; rw [hh]; rfl
      rw [List.map_cons, hb, List.filter_cons, if_pos (by rw [hp]; rfl)]
      simp
    | true =>
      have hb : tBump out x = (x.1, Go.IntKind.wrap .i64 (x.2 + 1)) := by unfold tBump; rw [if_pos hh]
      rw [if_pos rfl, law22_QueuePlays.l38_at BIG BIG _ big_eq]
      unfold law22_QueuePlays.b38
      rw [getD_at told false pre.length (by omega), htk, hh]
      dsimp only
      rw [if_neg (by simp), List.map_cons, hb, List.filter_cons]
      by_cases hlt : Go.IntKind.wrap .i64 (x.2 + 1) < a4
      · rw [if_pos (by simp [hlt]), if_pos (by unfold lim; simp; omega), go34 _ (by simp; omega)]
        have hp : pOut out a4 (x.1, Go.IntKind.wrap .i64 (x.2 + 1)) = false := by unfold pOut; simp; exact fun _ => hlt
        rw [if_pos (by rw [hp]; rfl)]
        simp
      · rw [if_neg (by simp [hlt]), go34 _ (by omega)]
        have hp : pOut out a4 (x.1, Go.IntKind.wrap .i64 (x.2 + 1)) = true := by unfold pOut; rw [hh]; simp; omega
        rw [if_neg (by rw [hp]; simp)]
def tell (told : List Bool) : List Nat → List Bool
  | [] => told
  | b :: T => tell (told.set b true) T
theorem tell_len (told : List Bool) : ∀ T, (tell told T).length = told.length
  | [] => rfl
  | b :: T => by rw [tell, tell_len _ T]; simp
theorem tell_get : ∀ (T : List Nat) (told : List Bool) (i : Nat), (∀ b ∈ T, b < told.length) → (tell told T).getD i false = (told.getD i false || decide (i ∈ T))
  | [], told, i, _ => by simp [tell]
  | b :: T, told, i, h => by
    rw [tell, tell_get T (told.set b true) i (fun x hx => by rw [List.length_set]; exact h x (by simp [hx])), getD_set told b i (h b (by simp))]
    by_cases h1 : i = b
    · simp [h1]
    · have : (i == b) = false := by simp [h1]
      rw [this]
      simp [h1]
theorem tk26 (l : List AQ) (G : GQ) (i : Int) (items s : List QT) (a1 a2 a3 a4 a5 : Int) (O T : List Nat) (hT : ∃ R, O = T ++ R) (hO : ∀ b ∈ O, b < s.length) (hol : O.length ≤ 1000) : ∀ (suf pre : List Nat) (told : List Bool) (n : Nat), pre ++ suf = T → told.length = s.length → suf.length < n →
    law22_QueuePlays.l26 BIG l G n i ((T.length : Nat) : Int) ((pre.length : Nat) : Int) items s a1 a2 a3 a4 a5 (O.map fun b : Nat => (b : Int)) (T.map fun b => (itm s b).1) told = law22_QueuePlays.l33 BIG l G BIG i 0 items s a1 a2 a3 a4 a5 (tell told suf) []
  | suf, pre, told, 0, _, _, h => absurd h (by omega)
  | [], pre, told, n + 1, he, ht, h => by
    rw [law22_QueuePlays.l26_at BIG (n + 1) n rfl]
    unfold law22_QueuePlays.b26
    rw [if_neg (by rw [← he]; simp)]
    rfl
  | b :: suf, pre, told, n + 1, he, ht, h => by
    simp at h
    obtain ⟨R, hR⟩ := hT
    have hbO : b ∈ O := by rw [hR, ← he]; simp
    have hb := hO b hbO
    have hpl : pre.length + (suf.length + 1) = T.length := by rw [← he]; simp
    have hTl : T.length ≤ O.length := by rw [hR]; simp
    have i1 : idx (T.map fun b => (itm s b).1) ((pre.length : Nat) : Int) = some (itm s b).1 := by
      have := idx_mid (pre.map fun b => (itm s b).1) (itm s b).1 (suf.map fun b => (itm s b).1)
      rw [List.length_map] at this
      rw [← he, List.map_append, List.map_cons]
      exact this
    have i2 : idx (O.map fun b : Nat => (b : Int)) ((pre.length : Nat) : Int) = some (b : Int) := by
      have := idx_mid (pre.map fun b : Nat => (b : Int)) (b : Int) ((suf ++ R).map fun b : Nat => (b : Int))
      rw [List.length_map] at this
      rw [hR, ← he, List.append_assoc, List.map_append, List.cons_append, List.map_cons]
      exact this
    have e2 : (pre ++ [b]).length = pre.length + 1 := by simp
    rw [law22_QueuePlays.l26_at BIG (n + 1) n rfl]
    unfold law22_QueuePlays.b26
    rw [if_pos (by simp; omega), i1]
    dsimp only
    rw [i2]
    dsimp only
    rw [getD_at s (0, 0) b hb]
    dsimp only
    rw [if_neg (by unfold itm; simp), getD_at told false b (by omega)]
    dsimp only
    rw [Int.toNat_natCast, lenw _ (by omega)]
    have ih := tk26 l G i items s a1 a2 a3 a4 a5 O T ⟨R, hR⟩ hO hol suf (pre ++ [b]) (told.set b true) n (by rw [← he]; simp) (by simpa using ht) (by omega)
    rw [e2] at ih
    exact ih
theorem ordN_ok (s : List QT) (but : Int) : (∀ b ∈ ordN s but, b < s.length) ∧ (ordN s but).length ≤ s.length := by
  obtain ⟨_, _, h3, _, h5⟩ := sel_ok s s.length (cands (fun i => !((itm s i).1 == but)) s.length) (cands_nodup _ _) (cands_len _ _)
  refine ⟨fun b hb => ((cands_mem _ _ _).1 ((h3 b).1 hb)).1, ?_⟩
  unfold ordN
  rw [h5]
  exact cands_len _ _
theorem tk20 (l : List AQ) (G : GQ) (i : Int) (s : List QT) (hs : s.length ≤ 40) (nd : ND s) (a1 a2 a3 a4 a5 N : Int) (hN : N = if a3 < ((ordN s a5).length : Int) then a3 else ((ordN s a5).length : Int)) :
    law22_QueuePlays.l20 BIG l G BIG i N (qTake s a3 a4 [a5]).1 s a1 a2 a3 a4 a5 ((ordN s a5).map fun b : Nat => (b : Int)) (qTake s a3 a4 [a5]).2 = law22_QueuePlays.l41 BIG l G BIG i (qTake s a3 a4 [a5]).1 (qTake s a3 a4 [a5]).1 := by
  obtain ⟨hO, hOl⟩ := ordN_ok s a5
  have hout : tOut [a5] a3 (isort s.reverse) [] = ((ordN s a5).take a3.toNat).map (fun b => (itm s b).1) := by
    rw [tOut_take a5 a3 _ [] (by simp; omega), ← ordN_items, List.nil_append, List.map_map, List.map_take]
    rfl
  generalize hT : (ordN s a5).take a3.toNat = T at hout
  have hTR : ∃ R, ordN s a5 = T ++ R := ⟨(ordN s a5).drop a3.toNat, by rw [← hT, List.take_append_drop]⟩
  have hTl : T.length = min a3.toNat (ordN s a5).length := by rw [← hT, List.length_take]
  have hTs : ∀ b ∈ T, b < s.length := fun b hb => hO b (by obtain ⟨R, hR⟩ := hTR; rw [hR]; simp [hb])
  -- what the queue keeps
  have hq : (qTake s a3 a4 [a5]).1 = (s.map (tBump (T.map fun b => (itm s b).1))).filter (fun v => !(pOut (T.map fun b => (itm s b).1) a4 v)) ∧ (qTake s a3 a4 [a5]).2 = T.map fun b => (itm s b).1 := by
    unfold qTake
    rw [hout]
    dsimp only
    by_cases he : (T.map fun b => (itm s b).1) = []
    · rw [if_pos he, he]
      refine ⟨?_, rfl⟩
      have hb : s.map (tBump []) = s := by
        refine List.map_id'' (fun x => ?_) s
        unfold tBump
        rw [if_neg (by simp [hasI])]
      dsimp only
      rw [hb, List.filter_eq_self.2]
      intro x hx
      unfold pOut
      simp [hasI]
    · rw [if_neg he]
      exact ⟨rfl, rfl⟩
  rw [hq.1, hq.2]
  generalize hK : (s.map (tBump (T.map fun b => (itm s b).1))).filter (fun v => !(pOut (T.map fun b => (itm s b).1) a4 v)) = keep
  have h22 : law22_QueuePlays.l22 BIG l G BIG i ((T.length : Nat) : Int) keep s a1 a2 a3 a4 a5 ((ordN s a5).map fun b : Nat => (b : Int)) (T.map fun b => (itm s b).1) = law22_QueuePlays.l41 BIG l G BIG i keep keep := by
    rw [law22_QueuePlays.l22_at BIG BIG _ big_eq]
    unfold law22_QueuePlays.b22
    have hz : List.replicate (Int.toNat ((s.length : Nat) : Int)) (zeroI Go.Den.Ty.bool) = List.replicate s.length false := by rw [Int.toNat_natCast]; rfl
    rw [if_neg (by simp), if_pos (by omega), hz]
    have e := tk26 l G i keep s a1 a2 a3 a4 a5 (ordN s a5) T hTR hO (by omega) T [] (List.replicate s.length false) BIG rfl (by simp) (by rw [BIG_eq]; omega)
    refine Eq.trans e ?_
    have e2 := tk33 l G i keep s (T.map fun b => (itm s b).1) a1 a2 a3 a4 a5 (tell (List.replicate s.length false) T) (by rw [tell_len]; simp) (by omega) (fun k hk => by
      rw [tell_get T _ k (fun b hb => by rw [List.length_replicate]; exact hTs b hb), rep_false, Bool.false_or]
      by_cases hkT : k ∈ T
      · rw [decide_eq_true hkT]
        exact ((hasI_iff _ _).2 (List.mem_map.2 ⟨k, hkT, rfl⟩)).symm
      · rw [decide_eq_false hkT]
        cases hh : hasI (T.map fun b => (itm s b).1) (itm s k).1 with
        | false => rfl
        | true =>
          obtain ⟨b, hb, e⟩ := List.mem_map.1 ((hasI_iff _ _).1 hh)
          exact absurd (ND_inj s nd b k (hTs b hb) hk e ▸ hb) hkT) s [] [] BIG rfl (Nat.le_refl _) (by rw [BIG_eq]; omega)
    rw [List.nil_append, hK] at e2
    exact e2
  rw [law22_QueuePlays.l20_at BIG BIG _ big_eq]
  unfold law22_QueuePlays.b20
  by_cases hneg : N < 0
  · rw [if_pos (by simp [hneg])]
    have : ((T.length : Nat) : Int) = 0 := by split at hN <;> omega
    rw [this] at h22
    exact h22
  · rw [if_neg (by simp [hneg])]
    have : ((T.length : Nat) : Int) = N := by split at hN <;> omega
    rw [this] at h22
    exact h22
theorem ND_drop (s : List QT) (id : Int) (h : ND s) : ND (qDrop s id) := h.filter _
theorem ND_put (s : List QT) (id : Int) (h : ND s) : ND (qPut s id) := by
  refine List.pairwise_append.2 ⟨ND_drop s id h, by simp, ?_⟩
  intro x hx y hy
  rw [List.mem_singleton.1 hy]
  have := (List.mem_filter.1 hx).2
  intro e
  simp [pDrop, e] at this
theorem ND_take (s : List QT) (n b : Int) (but : List Int) (h : ND s) : ND (qTake s n b but).1 := by
  unfold qTake
  dsimp only
  split
  · exact h
  · refine List.Pairwise.filter _ ?_
    rw [List.pairwise_map]
    refine h.imp fun {x y} e => ?_
    have t : ∀ z : QT, (tBump (tOut but n (isort s.reverse) []) z).1 = z.1 := fun z => by unfold tBump; split <;> rfl
    rw [t, t]
    exact e
theorem take_len (s : List QT) (n b : Int) (but : List Int) : (qTake s n b but).1.length ≤ s.length := by
  unfold qTake
  dsimp only
  split
  · exact Nat.le_refl _
  · refine Nat.le_trans (List.length_filter_le _ _) ?_
    simp
theorem QueuePlays.loop (l : List AQ) (hl : l.length ≤ 40) : ∀ (suf pre : List AQ) (s : List QT) (n : Nat), pre ++ suf = l → s.length ≤ pre.length → ND s → suf.length < n →
    law22_QueuePlays.l6 BIG l n ((pre.length : Nat) : Int) s s = some true
  | suf, pre, s, 0, _, _, _, h => absurd h (by omega)
  | [], pre, s, n + 1, he, hs, nd, h => by
    rw [law22_QueuePlays.l6_at BIG (n + 1) n rfl]
    unfold law22_QueuePlays.b6
    rw [if_neg (by rw [← he]; simp), law22_awake.pure]
    simp only [veil_eq]
  | v :: suf, pre, s, n + 1, he, hs, nd, h => by
    simp at h
    have hpl : pre.length + (suf.length + 1) ≤ 40 := by rw [← he] at hl; simp at hl; omega
    have hi : idx l ((pre.length : Nat) : Int) = some v := by rw [← he]; exact idx_mid pre v suf
    have e2 : (pre ++ [v]).length = pre.length + 1 := by simp
    have go : ∀ s' : List QT, s'.length ≤ pre.length + 1 → ND s' → law22_QueuePlays.l41 BIG l (law22_QueuePlays.l6 BIG l n) BIG ((pre.length : Nat) : Int) s' s' = some true := by
      intro s' h1 h2
      rw [chk41 l _ _ s' (by omega), lenw _ (by omega)]
      have ih := QueuePlays.loop l hl suf (pre ++ [v]) s' n (by rw [← he]; simp) (by rw [e2]; exact h1) h2 (by omega)
      rw [e2] at ih
      exact ih
    have hdl : ∀ id, (qDrop s id).length ≤ s.length := fun id => List.length_filter_le _ _
    rw [law22_QueuePlays.l6_at BIG (n + 1) n rfl]
    unfold law22_QueuePlays.b6
    rw [if_pos (by rw [← he]; simp; omega), hi]
    dsimp only
    by_cases h0 : v.1 = 0
    · rw [if_pos (by simp [h0]), queue_Queue_Put.pure s _ (by omega), law22_without.pure s _ (by omega)]
      simp only [veil_eq]
      have := hdl v.2.1
      rw [if_pos (by unfold lim; simp; omega)]
      exact go (qPut s v.2.1) (by unfold qPut; simp; omega) (ND_put s _ nd)
    · rw [if_neg (by simp [h0])]
      by_cases h1 : v.1 = 1
      · rw [if_pos (by simp [h1]), queue_Queue_Drop.pure s _ (by omega), law22_without.pure s _ (by omega)]
        simp only [veil_eq]
        have := hdl v.2.1
        exact go (qDrop s v.2.1) (by omega) (ND_drop s _ nd)
      · rw [if_neg (by simp [h1]), law22_order.pure s _ (by omega), queue_Queue_Take.pure s _ _ _ (by omega) (by simp)]
        simp only [veil_eq]
        have hln : (((List.map (fun i : Nat => (i : Int)) (ordN s v.2.2.2.2)).length : Nat) : Int) = ((ordN s v.2.2.2.2).length : Int) := by simp
        rw [hln]
        have hfin := go (qTake s v.2.2.1 v.2.2.2.1 [v.2.2.2.2]).1 (by have := take_len s v.2.2.1 v.2.2.2.1 [v.2.2.2.2]; omega) (ND_take s _ _ _ nd)
        by_cases hlt : v.2.2.1 < ((ordN s v.2.2.2.2).length : Int)
        · rw [if_pos (by simpa using hlt)]
          exact (tk20 l _ _ s (by omega) nd _ _ v.2.2.1 v.2.2.2.1 v.2.2.2.2 _ (by rw [if_pos hlt])).trans hfin
        · rw [if_neg (by simpa using hlt)]
          exact (tk20 l _ _ s (by omega) nd _ _ v.2.2.1 v.2.2.2.1 v.2.2.2.2 _ (by rw [if_neg hlt])).trans hfin
theorem QueuePlays.pure (l : List AQ) : law22_QueuePlays.f BIG l = some true := by
  unfold law22_QueuePlays.f law22_QueuePlays.b
  by_cases hl : l.length > 40
  · rw [if_pos (by simp; omega), law22_awake.pure]
    simp only [veil_eq]
  · rw [if_neg (by simp; omega), show queue_New.f BIG () = some () from rfl]
    simp only [veil_eq]
    exact QueuePlays.loop l (by omega) l [] [] BIG rfl (by simp) List.Pairwise.nil (by rw [BIG_eq]; omega)
theorem queuePlays_envOk : EnvOk Try.prog law22_QueuePlays_E := env_ok (l := [(15, s_law22_awake), (16, s_queue_New), (17, s_queue_Queue_Put), (18, s_law22_without), (19, s_queue_Queue_Drop), (20, s_law22_order), (21, s_queue_Queue_Take), (22, s_queue_Queue_All)]) th_ok any_ok ⟨⟨s_law22_awake_ok, s_law22_awake_det⟩, ⟨s_queue_New_ok, s_queue_New_det⟩, ⟨s_queue_Queue_Put_ok, s_queue_Queue_Put_det⟩, ⟨s_law22_without_ok, s_law22_without_det⟩, ⟨s_queue_Queue_Drop_ok, s_queue_Queue_Drop_det⟩, ⟨s_law22_order_ok, s_law22_order_det⟩, ⟨s_queue_Queue_Take_ok, s_queue_Queue_Take_det⟩, ⟨s_queue_Queue_All_ok, s_queue_Queue_All_det⟩, trivial⟩ _
theorem queuePlays_tells (l : List (Int × Int × Int × Int × Int))  : denF law22_QueuePlays_E loopN BIG Try.f4 [.raw] [.d (.sl (.pair (.int .i64) (.pair (.int .i64) (.pair (.int .i64) (.pair (.int .i64) (.int .i64)))))) l] [] isTrue = some () := by
  rw [denF_any queuePlays_envOk.D ((law22_QueuePlays.eq BIG l).trans (QueuePlays.pure l)) (out := [.d .bool true]) (os := []) (fun rs ros hk => by
    unfold law22_QueuePlays.k at hk
    split at hk
    · first | (cases hk; exact ⟨rfl, rfl⟩) | (have e := Option.some.inj hk; rw [← e]; exact ⟨rfl, rfl⟩)
    · cases hk)]
  rfl
set_option maxRecDepth 100000 in
theorem queuePlays_lifted (os : Os) (started : os.Started) (H : Type) (enc : TypeId × Value → H) :
    ReturnsInHanded {} Try.checked os 4 .any (Rows.queuePlaysSpec.pre6 enc Try.prog Try.f4 Rows.queuePlaysRow.domain false) (Rows.queuePlaysSpec.post enc Try.prog Try.f4 false true false false) := by
  refine returnsInHanded_of_change_sized (C := Try.checked) Try.own started (by kernel_rfl) Try.func4
    (ChangeSpec.witness6 (enc := enc) (C := Try.checked) false ⟨#[], #[.slice none 0 0], []⟩ 8 (by kernel_rfl) (by kernel_rfl) (by kernel_rfl) (by kernel_rfl)) ?_
  intro W base args ds gs before hval hW _ hwt _
  exact law_contract queuePlays_envOk Try.func4 rfl [(.sl (.pair (.int .i64) (.pair (.int .i64) (.pair (.int .i64) (.pair (.int .i64) (.int .i64))))), false)] (tb := 4) (by kernel_rfl) (by kernel_rfl) (by kernel_rfl) rfl
    (fun ds h => by match ds, h with | [_], _ => rfl) Try.laidOut Try.mapsRow Try.slicesSize (fun y hg => ⟨BIG, queuePlays_tells y.1⟩) W base args ds gs before hval hW hwt
theorem queuePlays_holds : Rows.QueuePlaysSaid :=
  OpenClaim.holds_of_wide 4 Try.f4 rfl rfl rfl rfl rfl rfl rfl ⟨rfl, rfl, rfl, rfl, rfl⟩ rfl rfl rfl rfl rfl (by kernel_rfl) Try.func4 (by kernel_rfl)
    (of_decide_eq_true (by kernel_rfl)) (by unfold Func.isWrapper; first | (rw [if_pos (by decide +kernel)]; kernel_rfl) | (rw [if_neg (by decide +kernel)]; exact ⟨rfl, rfl⟩))
    (fun os started H enc _ => queuePlays_lifted os started H enc)
end Go.Proofs.Ytkfiohbhihmcnaa
