/- slices.Clone, by the shelf's contract. -/
import Derived.Test.YthangnlmckeipaaGreatDoorEv3
import Derived.Shelf.SlicesE.Clone
set_option linter.unusedVariables false
set_option linter.unusedSimpArgs false
namespace Go.Den
open Go.Shelf Go.Proofs Go.RowKit
variable {P : Program} {ρ : Ren}

noncomputable def s_clone (e : Nat) (t : Ty) (bytes : Nat) : Sum := ⟨[.own e t], fun args objs κ => match args, objs with
  | [.row 0], [.row e' t' l frz] => if h : t' = t then (if e' = e ∧ l.length * bytes ≤ 140737488355328 then κ [.row 1] [.row e' t' l frz, .row e t (h ▸ l) false] else none) else none
  | _, _ => none⟩
theorem s_clone_det (e : Nat) (t : Ty) (bytes : Nat) : SumDet (s_clone e t bytes) := fun avs objs R κ => by
  show (s_clone e t bytes).run avs objs (two κ) = ((s_clone e t bytes).run avs objs (two some)).bind κ
  unfold s_clone
  simp only
  split
  · split
    · split <;> rfl
    · rfl
  · rfl

theorem clone_new {B : Base} {g : G} {o : Objs} {w w' : World} (h : WInv B g o w) {n : Nat} (hn : o n = none) (e : Nat) (t : Ty) (l : List t.I) (ws : List Value) (v : Value) (hf : t.flat = true) (hr : RR g.M t l ws)
    (ho : w'.ownsRow w.heap.size e t.sz v l.length ws) (hw : Below w.heap.size w w') : WInv B (setE g n (v, t.sz)) (upd o n (.row e t l false)) w' := by
  have hown : w'.ownsR 0 e t.sz v l.length ws := by
    refine ⟨ho.1, ?_⟩
    rcases ho.2 with h2 | ⟨b, cap, cur, rfl, hb, hg, h3⟩
    · exact .inl h2
    · exact .inr ⟨b, cap, cur, (0, 0), rfl, Nat.zero_le _, hg, .inl rfl, h3⟩
  have hge : ∀ b, (baseOf v).map (·.block) = some b → w.heap.size ≤ b := by
    intro b hb
    rcases ho.2 with ⟨rfl, _⟩ | ⟨b', cap, cur, rfl, hb', hg, h3⟩
    · simp [baseOf] at hb
    · simp [baseOf] at hb; omega
  refine new_put h hn _ _ ⟨v, ws, setE_at g n _, hf, hown, hr, fun a ha hc => ?_⟩ ⟨hw.os, hw.tape, hw.output, hw.size, fun b hb _ => hw.block b hb⟩ hge
  rw [← ownBlock_base hown] at ha
  exact M_new h a (hge _ ha)

theorem s_clone_ok (L : SlLaysE0.n41 P ρ) (i0 : TypeInfo) (z : Value) (t : Ty) (bytes : Nat) (hi : P.info? (ρ.t 23) = some i0) (hz0 : i0.zero = some z) (hz1 : i0.size = t.sz) (hz2 : i0.bytes = bytes) (hzs : z.cells.size = t.sz) (hsz : 0 < t.sz)
    (z23 : ∀ w, (Go.sizeOf (ρ.t 23)).run P w = .ok t.sz w) {fn : Func} {c : Code} (hf : P.funcs[ρ.f 41]? = some fn) (hb : fn.body = some c) (hn : (fn.name == "runtime.NumGoroutine") = false) : SumOk P (ρ.f 41) (s_clone (ρ.t 23) t bytes) := by
  refine ⟨⟨fn, c, hf, hb, hn⟩, ?_⟩
  intro R avs objs κ r h B g w vs hw hv
  unfold s_clone at h
  simp only at h
  split at h
  · rename_i e' t' l frz
    split at h
    case isFalse => cases h
    rename_i ht
    subst ht
    split at h
    case isFalse => cases h
    rename_i hc
    obtain ⟨rfl, hbig⟩ := hc
    match vs, hv with
    | [v1], ⟨h1, _⟩ =>
      obtain ⟨v, ws, hE, hfl, hown, hr, hM⟩ := hw.objs 0 _ (show atL [Den.Obj.row (ρ.t 23) t' l frz] 0 = some _ from rfl)
      obtain ⟨zz, hE2, h1c⟩ := h1
      rw [hE] at hE2
      cases hE2
      have hnone : atL [Den.Obj.row (ρ.t 23) t' l frz] 1 = none := rfl
      have fin : ∀ (v' : Value) (w' : World), w'.ownsRow w.heap.size (ρ.t 23) t'.sz v' l.length ws → Below w.heap.size w w' → v'.oneCell' = true → ∃ v, (Ending.returned v' : Ending) = .returned v ∧ ∃ rs os g', κ rs os = some r ∧ WInv B g' (atL os) w' ∧ GE g g' ∧ VR g' (tupOf rs) v := by
        intro v' w' ho hbel hone
        refine ⟨v', rfl, [.row 1], [.row (ρ.t 23) t' l frz, .row (ρ.t 23) t' l false], _, h, ?_, setE_ge hw hnone (v', t'.sz), ⟨_, setE_at g 1 _, hone⟩⟩
        have e := clone_new hw hnone (ρ.t 23) t' l ws v' hfl hr ho hbel
        have e2 : atL [Den.Obj.row (ρ.t 23) t' l frz, Den.Obj.row (ρ.t 23) t' l false] = upd (atL [Den.Obj.row (ρ.t 23) t' l frz]) 1 (Den.Obj.row (ρ.t 23) t' l false) := by
          funext k
          unfold upd atL
          match k with
          | 0 => rfl
          | 1 => rfl
          | k + 2 => simp
        rw [e2]
        exact e
      rcases hown.2 with ⟨rfl, h0⟩ | ⟨b, cap, cur, fz, rfl, _, hgb, _, hnc, hcm, _, _⟩
      · refine (AnyE.slices_Clone_nil L 0 0 w).mono ?_
        rintro e w' ⟨rfl, rfl⟩
        have hws : ws = [] := by
          have := hown.1
          rw [h0, Nat.zero_mul] at this
          exact List.eq_nil_of_length_eq_zero this
        exact fin _ _ ⟨hown.1, .inl ⟨rfl, h0⟩⟩ (Below.refl _ _) rfl
      · have key := AnyE.slices_Clone L i0 z t'.sz bytes hi hz0 hz1 hz2 hzs hsz z23 b 0 l.length cap ws w hown.1 (by omega) hbig
          (fun j u hj => by
            have e := World.ownsR.cells hown (g := b) rfl j u hj
            rw [Addr.add_lit] at e
            exact e) (RR_one t' l ws hr)
        refine key.mono ?_
        rintro e w' ⟨v', rfl, ho, hnn, hbel⟩
        refine fin v' w' ho hbel ?_
        rcases ho.2 with ⟨rfl, _⟩ | ⟨_, _, _, rfl, _⟩ <;> rfl
  · cases h
end Go.Den
