/- strings.Builder: copyCheck by the shelf's contract; String. -/
import Derived.Test.YthangnlmckeipaaGreatDoorEv3
import Derived.Shelf.Strings.Builder1
set_option linter.unusedVariables false
set_option linter.unusedSimpArgs false
namespace Go.Den
open Go.Shelf Go.Proofs Go.RowKit
variable {P : Program} {ρ : Ren}

noncomputable def s_bcheck (T : Nat) : Sum := ⟨[.raw], fun args objs κ => match args, objs with
  | [.ptr 0 0], [.bld T' (.row 1), .row e t l frz] => if T' = T then κ [] [.bld T' (.row 1), .row e t l frz] else none
  | _, _ => none⟩
theorem s_bcheck_det (T : Nat) : SumDet (s_bcheck T) := fun avs objs R κ => by
  show (s_bcheck T).run avs objs (two κ) = ((s_bcheck T).run avs objs (two some)).bind κ
  unfold s_bcheck
  simp only
  split
  · split <;> rfl
  · rfl

theorem setCell_row {w : World} {b : Nat} {q v : Value} {T : TypeId} (h : w.heap[b]? = some (.cells #[q, v] T (0, 0))) (q' : Value) : w.setCell ⟨b, 0, none⟩ q' = w.setRow b #[q', v] := by
  have hb := (Array.getElem?_eq_some_iff.1 h)
  obtain ⟨hlt, he⟩ := hb
  unfold World.setCell World.setRow
  congr 1
  apply Array.ext_getElem?
  intro k
  by_cases hk : k = b
  · subst hk
    simp [Array.getElem?_modify, h]
  · simp [Array.getElem?_modify, Ne.symm hk]

theorem upd_at {o : Objs} {n : Nat} {x : Den.Obj} (h : o n = some x) : upd o n x = o := by
  funext k
  unfold upd
  split
  · rename_i e; subst e; exact h.symm
  · rfl

theorem s_bcheck_ok (L : Lays.n240 P ρ) (X : Builder.X72 P ρ) {fn : Func} {c : Code} (hf : P.funcs[ρ.f 240]? = some fn) (hb : fn.body = some c) (hn : (fn.name == "runtime.NumGoroutine") = false) : SumOk P (ρ.f 240) (s_bcheck (ρ.t 72)) := by
  refine ⟨⟨fn, c, hf, hb, hn⟩, ?_⟩
  intro R avs objs κ r h B g w vs hw hv
  unfold s_bcheck at h
  simp only at h
  split at h
  · rename_i T' e t l frz
    split at h
    case isFalse => cases h
    rename_i hT
    subst hT
    match vs, hv with
    | [v1], ⟨h1, _⟩ =>
      have h0 : atL [Den.Obj.bld (ρ.t 72) (.row 1), .row e t l frz] 0 = some (.bld (ρ.t 72) (.row 1)) := rfl
      obtain ⟨b, q, v, hE, hh, hq, hc, h1c, hM⟩ := hw.objs 0 _ h0
      obtain ⟨p, z, hE2, rfl⟩ := h1
      rw [hE] at hE2
      cases hE2
      have hc0 : w.cell? ⟨b, 0, none⟩ = some q := by simp [World.cell?, hh]
      have hvt : VR g (tupOf []) (.tuple #[]) := ⟨[], rfl, trivial⟩
      rw [add_at]
      rcases hq with rfl | rfl
      · refine (Any.Builder_copyCheck_fresh L X b w hc0 (by simp [World.shape?, hh]) (by simp [World.frozen?, hh])).mono ?_
        rintro e' w' ⟨rfl, rfl⟩
        have hp := bld_put hw h0 hE hh hM (.pointer (some ⟨b, 0, none⟩)) (.inr rfl) (.row 1) v hc h1c
        rw [upd_at h0, ← setCell_row hh] at hp
        exact ⟨_, rfl, _, _, g, h, hp, GE.refl g, hvt⟩
      · refine (Any.Builder_copyCheck_used L X b w hc0).mono ?_
        rintro e' w' ⟨rfl, rfl⟩
        exact ⟨_, rfl, _, _, g, h, hw, GE.refl g, hvt⟩
  · cases h

/- String: what it does to memory, told exactly -/
theorem run_loadNums (w : World) : ∀ (l : List Int) (a : Addr) (acc : ByteArray), (∀ j x, l[j]? = some x → w.cell? (a.add j) = some (.int .u8 x)) →
    (loadBytes a acc l.length).run P w = .ok ⟨acc.data ++ (strOfNums l).data⟩ w
  | [], a, acc, _ => by simp [loadBytes, strOfNums]
  | x :: l, a, acc, h => by
    have h0 : w.cell? a = some (.int .u8 x) := by
      have := h 0 x rfl
      simpa [Addr.add] using this
    have ih := run_loadNums w l (a.add 1) (acc.push (UInt8.ofNat x.toNat)) (fun j y hy => by
      have := h (j + 1) y (by simpa using hy)
      rw [add_add, Nat.add_comm 1 j]; exact this)
    simp only [List.length_cons, loadBytes, Sem.run_bind, run_load, h0, Result.andThen]
    refine Eq.trans ih ?_
    congr 1
    apply ByteArray.ext
    simp [ByteArray.push, strOfNums]

theorem run_unsafeStringNums (w : World) (pt it ty e : TypeId) (hp : P.underlying pt = some (.pointer e)) (hc : P.cellsOf e = 1) (g cells : Nat) (hsh : w.shape? g = some (e, cells)) (l : List Int) (h0 : l ≠ []) (hn : l.length ≤ cells) (h63 : l.length ≤ 9223372036854775807)
    (hcell : ∀ j x, l[j]? = some x → w.cell? ((⟨g, 0, none⟩ : Addr).add j) = some (.int .u8 x)) :
    (Builtin.unsafeString_ #[pt, it] ty #[.pointer (some ⟨g, 0, none⟩), .int .i64 l.length]).run P w = .ok (.string (strOfNums l)) (w.freeze ⟨g, 0, none⟩ l.length) := by
  have hl : l.length ≠ 0 := by simpa using h0
  have hlb := run_loadNums (P := P) w l ⟨g, 0, none⟩ .empty hcell
  have hlies := Lib.liesAt_bytes (P := P) hc (cells / P.cellsOf e) l.length (by rw [hc]; simpa using hn)
  have h1 : ¬ (9223372036854775807 : Int) < (l.length : Int) := by omega
  have h2 : ¬ (l.length : Int) < 0 := by omega
  have hmax : IntKind.i64.max = 9223372036854775807 := rfl
  obtain ⟨p1, p2, p3, hdo⟩ : ∃ (p1 p2 : Sem PUnit) (p3 : Sem Value), Builtin.unsafeString_ #[pt, it] ty #[.pointer (some ⟨g, 0, none⟩), .int .i64 l.length] = (do
      let k ← asInt (.int .i64 l.length)
      if k < 0 then p1
      if k > IntKind.i64.max then p2
      if k = 0 then pure (.string .empty)
      else if ← variablesAt ⟨g, 0, none⟩ (← elemOf pt) k.toNat then do
        let s ← loadBytes ⟨g, 0, none⟩ .empty k.toNat
        freeze ⟨g, 0, none⟩ k.toNat
        pure (.string s)
      else p3) := ⟨_, _, _, rfl⟩
  rw [hdo]
  simp [asInt, asIntOf, hmax, h1, h2, hl, variablesAt, hsh, elemOf, run_underlying hp, hlies, hlb]

set_option maxHeartbeats 4000000 in
set_option maxRecDepth 100000 in
/-- what String answers, by its two builtins -/
theorem bstr_calls (L : Lays.n169 P ρ) (X : Builder.Extra P ρ) (b : Nat) (w W1 W2 : World) (ao : Option Addr) (n cap : Nat) (q : Option Addr) (s : ByteArray)
    (c0 : w.cell? ⟨b, 1, none⟩ = some (.slice ao n cap)) (c1 : w.drew.cell? ⟨b, 1, none⟩ = some (.slice ao n cap)) (c2 : W1.cell? ⟨b, 1, none⟩ = some (.slice ao n cap))
    (hSD : (Builtin.unsafeSliceData_ #[(ρ.t 37)] (ρ.t 127) #[.slice ao n cap]).run P w.drew = .ok (.pointer q) W1)
    (hUS : (Builtin.unsafeString_ #[(ρ.t 127), (ρ.t 3)] (ρ.t 9) #[.pointer q, .int .i64 n]).run P W1 = .ok (.string s) W2) :
    Calls P (ρ.f 169) #[.pointer (some ⟨b, 0, none⟩)] w fun e w' => e = .returned (.string s) ∧ w' = W2 := by
  have mixed := L.mixed
  have t72 := L.t72; have a72 := L.a72; have z72 := L.z72; have v72 := L.v72; have u72 := run_underlying L.t72
  have t70 := L.t70; have a70 := L.a70; have z70 := L.z70; have v70 := L.v70; have u70 := run_underlying L.t70
  have t37 := L.t37; have a37 := L.a37; have z37 := L.z37; have v37 := L.v37; have u37 := run_underlying L.t37
  have t127 := L.t127; have a127 := L.a127; have z127 := L.z127; have v127 := L.v127; have u127 := run_underlying L.t127
  have t3 := L.t3; have a3 := L.a3; have z3 := L.z3; have v3 := L.v3; have u3 := run_underlying L.t3
  have t9 := L.t9; have a9 := L.a9; have z9 := L.z9; have v9 := L.v9; have u9 := run_underlying L.t9
  have t5 := X.t5; have a5 := X.a5; have z5 := X.z5; have v5 := X.v5; have u5 := run_underlying X.t5
  go_enter L.f169, Body.n169_ntmps ρ
  go_wp2
  go_region_o
  all_goals (go_wp2; go_ret; exact ⟨rfl, rfl⟩)

noncomputable def s_bstring (T e0 : Nat) : Sum := ⟨[.raw], fun args objs κ => match args, objs with
  | [.ptr 0 0], [.bld T' (.row 1), .row e t l frz] => if h : t = .int .u8 then (if T' = T ∧ e = e0 then κ [.d .str (strOf (h ▸ l : List (Ty.int .u8).I))] [.gone, .gone] else none) else none
  | _, _ => none⟩
theorem s_bstring_det (T e0 : Nat) : SumDet (s_bstring T e0) := fun avs objs R κ => by
  show (s_bstring T e0).run avs objs (two κ) = ((s_bstring T e0).run avs objs (two some)).bind κ
  unfold s_bstring
  simp only
  split
  · split
    · split <;> rfl
    · rfl
  · rfl

/-- nothing of one's own is left; memory's cells stay -/
theorem gone_world {B : Base} {g : G} {o : Objs} {w w' : World} (hw : WInv B g o w) (hg : ∀ n x, o n = some x → live x = false) (n : Nat) (x : Den.Obj) (hn : o n = some x)
    (h1 : w'.os = w.os ∧ w'.tape = w.tape ∧ w'.output = w.output ∧ w.heap.size ≤ w'.heap.size) (hm : ∀ a v, w.cell? a = some v → w'.cell? a = some v)
    (hf : ∀ b, b < B.w0.heap.size → ¬ B.X b → w'.heap[b]? = w.heap[b]?) : WInv B g (upd o n .gone) w' := by
  refine hw.put2 n .gone (GE.refl g) (fun _ _ => rfl) rfl (OR_some (hw.objs n x hn)) h1 ?_ (fun a v ha => hm a v (hw.mem a v ha).1) hf (fun b hl => by cases hl)
  intro m y b _ hy hl
  rw [hg m y hy] at hl
  cases hl

theorem freeze_cell (w : World) (a b : Addr) (n : Nat) : (w.freeze a n).cell? b = w.cell? b := by
  unfold World.freeze
  split
  · rfl
  · unfold World.cell?
    simp only [Array.getElem?_modify]
    by_cases h : a.block = b.block
    · rw [if_pos h]
      cases hk : w.heap[b.block]? with
      | none => rfl
      | some x => cases x <;> rfl
    · rw [if_neg h]

theorem freeze_other (w : World) (a : Addr) (n k : Nat) (h : a.block ≠ k) : (w.freeze a n).heap[k]? = w.heap[k]? := by
  unfold World.freeze
  split
  · rfl
  · simp only [Array.getElem?_modify]
    rw [if_neg h]

theorem s_bstring_ok (L : Lays.n169 P ρ) (X : Builder.Extra P ρ) {fn : Func} {c : Code} (hf : P.funcs[ρ.f 169]? = some fn) (hb : fn.body = some c) (hn : (fn.name == "runtime.NumGoroutine") = false) : SumOk P (ρ.f 169) (s_bstring (ρ.t 72) (ρ.t 5)) := by
  refine ⟨⟨fn, c, hf, hb, hn⟩, ?_⟩
  intro R avs objs κ r h B g w vs hw hv
  unfold s_bstring at h
  simp only at h
  split at h
  · rename_i T' e t l frz
    split at h
    case isFalse => cases h
    rename_i ht
    subst ht
    split at h
    case isFalse => cases h
    rename_i hT
    obtain ⟨rfl, rfl⟩ := hT
    match vs, hv with
    | [v1], ⟨h1, _⟩ =>
      have h0 : atL [Den.Obj.bld (ρ.t 72) (.row 1), .row (ρ.t 5) (.int .u8) l frz] 0 = some (.bld (ρ.t 72) (.row 1)) := rfl
      have hr0 : atL [Den.Obj.bld (ρ.t 72) (.row 1), .row (ρ.t 5) (.int .u8) l frz] 1 = some (.row (ρ.t 5) (.int .u8) l frz) := rfl
      obtain ⟨b, q, v, hE, hh, hq, ⟨z1, hE1, _⟩, h1c, hM⟩ := hw.objs 0 _ h0
      obtain ⟨v', ws, hE3, hfl, hown, hr, hMr⟩ := hw.objs 1 _ hr0
      rw [hE3] at hE1
      cases hE1
      obtain ⟨p, z, hE2, rfl⟩ := h1
      rw [hE] at hE2
      cases hE2
      rw [add_at]
      have hwsl : ws = l.map (Value.int .u8) := by
        clear h hE3 hown hMr h0 hr0 hw
        induction l generalizing ws with
        | nil => exact hr
        | cons x l ih =>
          obtain ⟨a, b, rfl, h1, h2⟩ := hr
          rw [ih b h2, show a = _ from h1]
          rfl
      have fin : ∀ W2 : World, (W2.os = w.os ∧ W2.tape = w.tape ∧ W2.output = w.output ∧ w.heap.size ≤ W2.heap.size) → (∀ a v, w.cell? a = some v → W2.cell? a = some v) →
          (∀ k, k < w.heap.size → (∀ gb, v.ownBlock = some gb → gb ≠ k) → W2.heap[k]? = w.heap[k]?) →
          ∃ u, (Ending.returned (.string (strOfNums l)) : Ending) = .returned u ∧ ∃ rs os g', κ rs os = some r ∧ WInv B g' (atL os) W2 ∧ GE g g' ∧ VR g' (tupOf rs) u := by
        intro W2 hs hcell hfar
        have w1 := gone_put hw h0
        have w2 := gone_put w1 (n := 1) (x := .row (ρ.t 5) (.int .u8) l frz) (by simp [upd, hr0])
        have e2 : upd (upd (atL [Den.Obj.bld (ρ.t 72) (.row 1), .row (ρ.t 5) (.int .u8) l frz]) 0 .gone) 1 .gone = atL [.gone, .gone] := by
          funext k
          match k with
          | 0 => rfl
          | 1 => rfl
          | k + 2 => simp [upd, atL]
        rw [e2] at w2
        have w3 := gone_world (w' := W2) w2 (fun n x hx => by
          match n, hx with
          | 0, hx => cases hx; rfl
          | 1, hx => cases hx; rfl
          | k + 2, hx => simp [atL] at hx) 0 .gone rfl hs hcell (fun k hk hX => hfar k (Nat.lt_of_lt_of_le hk hw.ext.size) (fun gb hgb e => by
            have hbk : blkOf g 1 = some gb := by
              simp only [blkOf, hE3, Option.bind_some]
              rw [ownBlock_base hown]; exact hgb
            rcases hw.mine 1 _ gb hr0 rfl hbk with k1 | k1
            · rw [e] at k1; exact hX k1
            · omega))
        rw [upd_at rfl] at w3
        exact ⟨_, rfl, _, _, g, h, w3, GE.refl g, rfl⟩
      have hlt : b < w.heap.size := (Array.getElem?_eq_some_iff.1 hh).1
      have hc1 : w.cell? ⟨b, 1, none⟩ = some v := by simp [World.cell?, hh]
      rcases hown.2 with ⟨rfl, hl0⟩ | ⟨gb, cap, cur, fz, rfl, _, hg, hfz, hnc, hcm, hcs, htk⟩
      · have : l = [] := List.eq_nil_of_length_eq_zero hl0
        subst this
        refine (bstr_calls L X b w w.drew w.drew none 0 0 none (strOfNums []) hc1 hc1 hc1 rfl (Any.unsafeString_none L X w.drew none)).mono ?_
        rintro e' w' ⟨rfl, rfl⟩
        exact fin w.drew ⟨rfl, rfl, rfl, Nat.le_refl _⟩ (fun _ _ h => h) (fun _ _ _ => rfl)
      · have hsz1 : cur.size = cap := by rw [hcs]; simp [Ty.sz]
        by_cases hl0 : l = []
        · subst hl0
          by_cases hcap : cap = 0
          · subst hcap
            have hsh : w.drew.shape? gb = some (ρ.t 5, cur.size) := by
              have hg' : w.drew.heap[gb]? = some (.cells cur (ρ.t 5) fz) := hg
              simp [World.shape?, hg']
            have hSD := Lib.run_unsafeSliceData_zero (P := P) w.drew #[(ρ.t 37)] (ρ.t 127) (ρ.t 5) L.t127 ⟨gb, 0, none⟩ 0 (ρ.t 5, cur.size) hsh
            have hold : ∀ k, k < w.heap.size → (w.drew.alloc (.view ⟨gb, 0, none⟩ (ρ.t 5))).heap[k]? = w.heap[k]? := fun k hk => heap_alloc_old w.drew _ hk
            have hcell : ∀ a v, w.cell? a = some v → (w.drew.alloc (.view ⟨gb, 0, none⟩ (ρ.t 5))).cell? a = some v := fun a v ha => by
              rw [World.cell?_of_block (hold a.block (World.block_lt_of_cell? w a ha))]
              exact ha
            refine (bstr_calls L X b w _ _ (some ⟨gb, 0, none⟩) 0 0 _ (strOfNums []) hc1 hc1 (hcell _ _ hc1) hSD (Any.unsafeString_none L X _ _)).mono ?_
            rintro e' w' ⟨rfl, rfl⟩
            exact fin _ ⟨rfl, rfl, rfl, by show w.drew.heap.size ≤ _; simp⟩ hcell (fun k hk _ => hold k hk)
          · refine (bstr_calls L X b w w.drew w.drew (some ⟨gb, 0, none⟩) 0 cap (some ⟨gb, 0, none⟩) (strOfNums []) hc1 hc1 hc1 (Lib.run_unsafeSliceData_row _ _ _ _ _ _ hcap) (Any.unsafeString_none L X w.drew _)).mono ?_
            rintro e' w' ⟨rfl, rfl⟩
            exact fin w.drew ⟨rfl, rfl, rfl, Nat.le_refl _⟩ (fun _ _ h => h) (fun _ _ _ => rfl)
        · have hpos : 0 < l.length := by
            rcases Nat.eq_zero_or_pos l.length with k | k
            · exact absurd (List.eq_nil_of_length_eq_zero k) hl0
            · exact k
          have hsh : w.drew.shape? gb = some (ρ.t 5, cur.size) := by
            have hg' : w.drew.heap[gb]? = some (.cells cur (ρ.t 5) fz) := hg
            simp [World.shape?, hg']
          have hUS := run_unsafeStringNums (P := P) w.drew (ρ.t 127) (ρ.t 3) (ρ.t 9) (ρ.t 5) L.t127 X.cellsByte gb cur.size hsh l hl0 (by omega) (by unfold maxLen at hcm; omega) (fun j x hx => by
            have := World.ownsR.cells hown (g := gb) rfl j (.int .u8 x) (by rw [hwsl]; simp [hx])
            exact this)
          refine (bstr_calls L X b w w.drew _ (some ⟨gb, 0, none⟩) l.length cap (some ⟨gb, 0, none⟩) (strOfNums l) hc1 hc1 hc1 (Lib.run_unsafeSliceData_row _ _ _ _ _ _ (by omega)) hUS).mono ?_
          rintro e' w' ⟨rfl, rfl⟩
          refine fin _ ⟨?_, ?_, ?_, ?_⟩ ?_ ?_
          · unfold World.freeze; split <;> rfl
          · unfold World.freeze; split <;> rfl
          · unfold World.freeze; split <;> rfl
          · unfold World.freeze; split
            · exact Nat.le_refl _
            · show w.drew.heap.size ≤ _; simp
          · intro a v ha
            rw [freeze_cell]; exact ha
          · intro k _ hk
            rw [freeze_other _ _ _ _ (hk gb rfl)]; rfl
  · cases h
end Go.Den
