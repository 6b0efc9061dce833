/- DissectLines: whatever datagrams are given, the law returns true, and the input reads as it did; the table crc.halves is tied to the text of the program. -/
import Derived.Test.YtneiiplppcjjlaaGreatDoorZDissectLines4
set_option linter.unusedVariables false
set_option linter.unusedSimpArgs false
set_option maxRecDepth 100000
namespace Go.Proofs.YtneiiplppcjjlaaGreatDoor
open Go.Den
noncomputable section
theorem qsg (l : List (List Int)) (h : ∀ b ∈ l, isB b) (hn : l.length ≤ 5) : ∀ (m n i : Nat), i + m = l.length → m < n → (∀ b ∈ l.take i, b.length ≤ 2000) →
  qp.l5 BIG l n (strOf (qbN (l.take i))) (i : Int) = some true := by
 intro m
 induction m with
 | zero =>
  intro n i hi hn' hsm
  obtain ⟨n, rfl⟩ : ∃ n', n = n' + 1 := ⟨n - 1, by omega⟩
  rw [List.take_of_length_le (by omega)] at hsm ⊢
  rw [qp.l5]
  unfold qp.b5
  simp only [veil_eq]
  rw [if_neg (by simp; omega), qrt.pure l (fun b hb => ⟨h b hb, by have := hsm b hb; omega⟩) (by omega)]
  dsimp only
  rw [if_pos (by rw [beq_self_eq_true]), qlQ.pure]
 | succ m ih =>
  intro n i hi hn' hsm
  obtain ⟨n, rfl⟩ : ∃ n', n = n' + 1 := ⟨n - 1, by omega⟩
  have hlt : i < l.length := by omega
  have hb := h _ (List.getElem_mem hlt)
  rw [qp.l5]
  unfold qp.b5
  simp only [veil_eq]
  rw [if_pos (by simp; omega), Qn, List.getElem?_eq_getElem hlt]
  dsimp only
  by_cases hbig : l[i].length > 2000
  ·rw [if_pos (by simp; omega), qlQ.pure]
  rw [if_neg (by simp; omega)]
  have hl : l[i].length ≤ 1000000 := by omega
  rw [qrW.pure _ hb hl, qrG.pure _ hb hl, qsC.pure _ hb hl]
  dsimp only
  rw [if_neg (by simp), if_neg (by simp)]
  obtain ⟨h3, h4⟩ := qgp hb hl
  have hf := qqj l[i]
  have h5 := qmG (l.take i) fun x hx => ⟨h x (List.mem_of_mem_take hx), by have := hsm x hx; omega⟩
  rw [List.length_take, Nat.min_eq_left (by omega)] at h5
  have h7 : (qaf l[i]).1.length * 1100001 ≤ 256 * 1100001 := Nat.mul_le_mul_right _ h3
  rw [show (0 : Int) = ((0 : Nat) : Int) from rfl, qrk l _ _ _ _ h3 h4 (by omega) _ BIG 0 _ (Nat.zero_add _) (by rw [Zx]; omega) (by rw [qfl]; omega), List.drop_zero, qh7]
  have e : qbN (l.take i) ++ (qaf l[i]).1.flatMap qb7 = qbN (l.take (i + 1)) := by
   unfold qbN
   rw [List.take_succ_eq_append_getElem hlt, List.flatMap_append, List.flatMap_cons, List.flatMap_nil, List.append_nil]
  rw [e, qX _ (by omega) (by omega), show ((i : Int) + 1) = ((i + 1 : Nat) : Int) from by omega]
  refine ih n (i + 1) (by omega) (by omega) fun b hb' => ?_
  rw [List.take_succ_eq_append_getElem hlt, List.mem_append, List.mem_singleton] at hb'
  rcases hb' with hb' | hb'
  ·exact hsm b hb'
  ·rw [hb']; omega
theorem qns.pure (l : List (List Int)) (h : ∀ b ∈ l, isB b) : qp.f BIG l = some true := by
 unfold qp.f qp.b
 simp only [veil_eq]
 by_cases h5 : l.length > 5
 ·rw [if_pos (by simp; omega), qlQ.pure]
 rw [if_neg (by simp; omega)]
 have := qsg l h (by omega) l.length BIG 0 (Nat.zero_add _) (by rw [Zx]; omega) (by simp)
 rw [List.take_zero] at this
 exact this
theorem qe7 : EnvOk Tryz.prog Z0 := env_ok (l := [(20, qa7), (21, ZL), (25, qa6), (26, qaG), (27, ZV)]) th_ok qZ ⟨⟨qjE, qiX⟩, ⟨qe1, qeA⟩, ⟨qjD, qiW⟩, ⟨qi1, qii⟩, ⟨qfj, qe0⟩, trivial⟩ _
theorem qiB (l : List (List Int)) (hl : ∀ b ∈ l, isB b) : denF Z0 loopN BIG Tryz.f6 [.raw] [.d (.sl (.sl (.int .u8))) l] [] isTrue = some () := by
 rw [denF_any qe7.D ((qp.eq BIG l).trans (qns.pure l hl)) (out := [.d .bool true]) (os := []) (fun rs ros hk => by
  unfold qp.k at hk
  split at hk
  ·first | (cases hk; exact ⟨rfl, rfl⟩) | (have e := Option.some.inj hk; rw [← e]; exact ⟨rfl, rfl⟩)
  ·cases hk)]
 rfl
set_option maxRecDepth 100000 in
theorem qh0 (os : Os) (started : os.Started) (H : Type) (enc : TypeId × Value → H) :
  ReturnsInHanded {} Tryz.checked os 6 .any (fun w qK => (Rows.dissectLinesSpec.pre enc Tryz.prog Tryz.f6 [] false w qK ∧ laidMetH Tryz.prog qkQ w) ∧ sizedMet enc Tryz.prog Tryz.f6 (OpenSpec.ofChange Rows.dissectLinesSpec) false w qK)
   (Rows.dissectLinesSpec.post enc Tryz.prog Tryz.f6 false true false false) := by
 refine returnsInHanded_of_change_and (C := Tryz.checked) (X := fun w _ => laidMetH Tryz.prog qkQ w) (fun _ _ _ hh h => h.of_heap hh) Tryz.own started (by kernel_rfl) Tryz.func6
  (ChangeSpec.witness_shaped (enc := enc) (C := Tryz.checked) (os := os) (X := fun w _ => laidMetH Tryz.prog qkQ w) false (World.doorLaid Tryz.prog 400 os) #[.slice none 0 0] 8 rfl (World.shaped_of_RefB (by kernel_rfl) (by kernel_rfl)) (by kernel_rfl) (by kernel_rfl) (by kernel_rfl) (qrj os _)) ?_
 intro W qb qK ds gs before hval hW _ hwt hL _
 exact law_contract qe7 Tryz.func6 rfl [(.sl (.sl (.int .u8)), false)] (tb := 4) (by kernel_rfl) (by kernel_rfl) (by kernel_rfl) rfl
  (fun ds h => by match ds, h with | [_], _ => rfl) Tryz.laidOut Tryz.mapsRow Tryz.slicesSize (fun y hg => ⟨BIG, qiB y.1 (fun b hb => qpg (hg.1.2 b hb))⟩) W qb qK ds gs before hval hW hwt (qp8 hL)
theorem qjW : Rows.DissectLinesSaid :=
 OpenClaim.holds_of_wide 6 Tryz.f6 rfl rfl rfl rfl rfl rfl rfl ⟨rfl, rfl, rfl, rfl, rfl⟩ rfl rfl rfl rfl rfl (by kernel_rfl) Tryz.func6 (by kernel_rfl)
  (of_decide_eq_true (by kernel_rfl)) (by unfold Func.isWrapper; first | (rw [if_pos (by decide +kernel)]; kernel_rfl) | (rw [if_neg (by decide +kernel)]; exact ⟨rfl, rfl⟩))
  (fun os started H enc _ => qh0 os started H enc)
theorem dissectLines_holds : Rows.DissectLinesCardSaid :=
 Claim7.holds_tied_plain_at .later [] [.data] true (true, "7f56fd0b3a73f309c59e77fbd84be1dadc43cc16a837bd7876cbbb970f836cba") false
  qjW (fun _ h => by cases h) (by kernel_rfl) (fun _ h => by cases h) dissectLines_row_tie rfl ⟨rfl, rfl⟩ (by kernel_rfl) rfl
  (fun f fn hf hfn => by
   obtain rfl : f = 6 := Option.some.inj ((show Tryz.prog.funcNamed "polyglot/polyglotlaw41.DissectLines" = some 6 by kernel_rfl).symm.trans hf) |>.symm
   obtain rfl : fn = Tryz.f6 := (Option.some.inj (Tryz.func6.symm.trans hfn)).symm
   exact ⟨by kernel_rfl, fun j t ht => by
    have hm : t ∈ Tryz.f6.params.toList := by simpa using Array.mem_of_getElem? ht
    have hall : (Tryz.f6.params.toList.all fun u => !Tryz.prog.wantsStandIn u) = true := by kernel_rfl
    exact (show Tryz.prog.wantsStandIn t = false by simpa using List.all_eq_true.1 hall t hm)⟩)
  (by kernel_rfl)
end
end Go.Proofs.YtneiiplppcjjlaaGreatDoor
