/- The operations, all that are no call. -/
import Derived.Test.YtlmljpmohljefaaSound11
import Derived.Laws.StructEq
set_option linter.unusedVariables false
set_option linter.unusedSimpArgs false
namespace Go.Den
variable {P : Program}

theorem fs_kOf {fs : Array Field} {l : List (Nat × Nat)} (h : K.struct l = kOf (.struct fs)) : l = fs.toList.map fun f => (f.offset, f.type) := by
  simp only [kOf] at h; cases h; rfl

theorem bin_int {op : BinOp} {k : IntKind} {a b : Int} {t : Nat} {Θ : Nat → TD} {R : Type} {κ : AV → Option R} {k' : IntKind} :
    binK Θ op t (.d (.int k) a) (.d (.int k') b) κ = (match op with
    | .shl => shiftK true k a b κ
    | .shr => shiftK false k a b κ
    | op => if k = k' then intK op k a b κ else none) := rfl

theorem VRL_at {g : G} {ws : List Value} {k : Nat} {a : AV} {as : List AV} (h : VRL g (a :: as) (ws.drop k)) : ∃ v, ws[k]? = some v ∧ VR g a v ∧ VRL g as (ws.drop (k + 1)) := by
  cases hd : ws.drop k with
  | nil => rw [hd] at h; exact h.elim
  | cons v vs =>
    rw [hd] at h
    refine ⟨v, ?_, h.1, ?_⟩
    · have : (ws.drop k)[0]? = some v := by rw [hd]; rfl
      simpa using this
    · have : ws.drop (k + 1) = vs := by rw [← List.drop_drop, hd]; simp
      rw [this]; exact h.2

theorem eqK_sound {R : Type} {Θ : Nat → TD} (hΘ : TOk P Θ) {g : G} {w : World} (d : Nat) (xs ys : List Value) : ∀ (fs : List Field) (k : Nat) (cs ds : List AV) (κ : Bool → Option R) (r : R),
    eqK Θ k (fs.map fun f => (f.offset, f.type)) cs ds κ = some r → (∀ f ∈ fs, f.name ≠ "_") → VRL g cs (xs.drop k) → VRL g ds (ys.drop k) →
    ∃ c, κ c = some r ∧ (Op.eqFields (d + 1) xs.toArray ys.toArray fs).run P w = .ok c w
  | [], k, [], [], κ, r, h, _, _, _ => ⟨true, h, by simp [Op.eqFields]⟩
  | f :: fs, k, a :: as, b :: bs, κ, r, h, hn, hx, hy => by
    simp only [List.map_cons, eqK] at h
    split at h
    case isFalse => cases h
    rename_i hoff
    obtain ⟨u, hu, hva, hxr⟩ := VRL_at hx
    obtain ⟨v, hv, hvb, hyr⟩ := VRL_at hy
    have hname : f.name ≠ "_" := hn f List.mem_cons_self
    have step : ∀ (dd : TypeDesc) (c : Bool), P.underlying f.type = some dd → aggD dd = false → (Op.equalIn (d + 1) f.type u v).run P w = .ok c w →
        eqK Θ (k + 1) (fs.map fun f => (f.offset, f.type)) as bs (fun c' => κ (if c then c' else false)) = some r →
        ∃ c, κ c = some r ∧ (Op.eqFields (d + 1) xs.toArray ys.toArray (f :: fs)).run P w = .ok c w := by
      intro dd c hdd hagg he hk
      obtain ⟨c', hc', hrun⟩ := eqK_sound hΘ d xs ys fs (k + 1) as bs _ r hk (fun f hf => hn f (List.mem_cons_of_mem _ hf)) hxr hyr
      have hp1 := run_part_one (P := P) w hdd hagg xs.toArray f.offset u (by rw [hoff]; simpa using hu)
      have hp2 := run_part_one (P := P) w hdd hagg ys.toArray f.offset v (by rw [hoff]; simpa using hv)
      refine ⟨_, hc', ?_⟩
      rw [Op.eqFields]
      simp only [if_pos hname, Sem.run_bind, hp1, hp2, he, Result.andThen_ok]
      cases c
      · simp
      · simpa using hrun
    split at h
    · rename_i hk
      split at h
      · rw [show u = _ from hva, show v = _ from hvb] at step
        exact step .bool _ (bool_of hΘ hk) rfl (equalIn_bool d (bool_of hΘ hk) _ _ w) h
      · cases h
    · rename_i k' hk
      split at h
      · rename_i k1 x k2 y
        split at h
        case isFalse => cases h
        rename_i hkk
        subst hkk
        rw [show u = _ from hva, show v = _ from hvb] at step
        exact step (.int k') _ (int_of hΘ hk) rfl (run_equalIn_int (P := P) w d f.type k1 k' _ _ (int_of hΘ hk)) h
      · cases h
    · rename_i hk
      split at h
      · rw [show u = _ from hva, show v = _ from hvb] at step
        exact step .string _ (str_of hΘ hk) rfl (run_equalIn_string (P := P) w d f.type _ _ (str_of hΘ hk)) h
      · cases h
    · cases h
  | [], k, [], _ :: _, κ, r, h, _, _, _ => by simp [eqK] at h
  | [], k, _ :: _, _, κ, r, h, _, _, _ => by simp [eqK] at h
  | _ :: _, k, [], _, κ, r, h, _, _, _ => by simp [eqK] at h
  | _ :: _, k, _ :: _, [], κ, r, h, _, _, _ => by simp [eqK] at h

theorem eqAgg_sound {R : Type} {Θ : Nat → TD} (hΘ : TOk P Θ) {B : Base} {g : G} {o : Objs} {w : World} (hw : WInv B g o w) (op : BinOp) (t : Nat) (x y : Operand) (cs ds : List AV) (a b : Value) (fs : List (Nat × Nat)) (hk : (Θ t).k = .struct fs) (heq : (Θ t).eq = true) (κ : AV → Objs → Option R) (r : R)
    (h : eqK Θ 0 fs cs ds (fun c => nilEq op c (fun v => κ v o)) = some r) (ha : VR g (.agg cs) a) (hb : VR g (.agg ds) b) : SOk P B g w κ r (binS op t x y a b) := by
  obtain ⟨xs, rfl, hxs, _⟩ := ha
  obtain ⟨ys, rfl, hys, _⟩ := hb
  have hrow := hΘ.get t (by rw [hk]; simp)
  obtain ⟨fs', hu, hg1, hst, hnm⟩ := hrow.eq heq
  obtain ⟨it, d, z, hit, hu2, hk2, _⟩ := hrow.row
  rw [hu] at hu2
  cases hu2
  rw [hk] at hk2
  have hfs := fs_kOf hk2
  subst hfs
  obtain ⟨c, hc, hrun⟩ := eqK_sound hΘ (w := w) 9998 xs ys fs'.toList 0 cs ds _ r h hnm (by simpa using hxs) (by simpa using hys)
  have hfo : P.fieldsOf t = fs' := by simp [Program.fieldsOf, hu]
  have he : (Op.equalIn 10000 t (.agg xs.toArray) (.agg ys.toArray)).run P w = .ok c w := by
    rw [run_equalIn_struct (P := P) w 9999 t _ _ (by rw [hfo]; exact hu) hst, hfo]
    exact hrun
  have hgd := run_eqGuard_agg (P := P) w op t x y xs.toArray ys.toArray hg1
  unfold nilEq at hc
  split at hc
  · exact SOk.quiet hw _ (.bool c) hc (by simp [binS, hgd, run_eql_struct, he]) rfl
  · exact SOk.quiet hw _ (.bool (!c)) hc (by simp [binS, hgd, run_neq_struct, he]) rfl
  · cases hc

theorem bin_sound {R : Type} {Θ : Nat → TD} (hΘ : TOk P Θ) {B : Base} {g : G} {o : Objs} {w : World} (hw : WInv B g o w) (op : BinOp) (t : Nat) (x y : Operand) (u v : AV) (a b : Value) (κ : AV → Objs → Option R) (r : R)
    (h : binK Θ op t u v (fun v => κ v o) = some r) (ha : VR g u a) (hb : VR g v b) : SOk P B g w κ r (binS op t x y a b) := by
  unfold binK at h
  split at h
  · rename_i k n k' m
    rw [show a = _ from ha, show b = _ from hb]
    split at h
    · exact shiftK_sound hw true t x y k k' n m κ r h
    · exact shiftK_sound hw false t x y k k' n m κ r h
    · split at h
      · rename_i e; subst e
        exact intK_sound hw op t x y k n m κ r h
      · cases h
  · rename_i n m
    rw [show a = _ from ha, show b = _ from hb]
    split at h
    · rename_i hk
      exact nilEq_sound hw op t x y _ _ _ κ r h (guard_plain op t x y _ _ w (by rintro u v ⟨h, _⟩; cases h) (by rintro ⟨h, _⟩; cases h)) (equal_bool (bool_of hΘ hk) n m w) rfl rfl
    · cases h
  · rename_i n m
    rw [show a = _ from ha, show b = _ from hb]
    exact strK_sound hw op t x y n m κ r h
  · split at h
    · rename_i hk
      obtain ⟨e, hu⟩ := ptr_of hΘ hk
      obtain ⟨p, z, _, hv⟩ := ha
      rw [hv, show b = _ from hb]
      exact nilEq_sound hw op t x y _ _ _ κ r h (guard_plain op t x y _ _ w (by rintro u v ⟨h, _⟩; cases h) (by rintro ⟨h, _⟩; cases h)) (equal_ptr_nil hu _ w) rfl rfl
    · cases h
  · split at h
    · rename_i hk
      obtain ⟨e, hu⟩ := ptr_of hΘ hk
      obtain ⟨p, z, u, _, _, hv⟩ := ha
      rw [hv, show b = _ from hb]
      exact nilEq_sound hw op t x y _ _ _ κ r h (guard_plain op t x y _ _ w (by rintro u v ⟨h, _⟩; cases h) (by rintro ⟨h, _⟩; cases h)) (equal_ptr_nil hu _ w) rfl rfl
    · cases h
  · split at h
    · rename_i hk
      obtain ⟨e, hu⟩ := ptr_of hΘ hk
      obtain ⟨ad, ws, hv, _⟩ := ha
      rw [hv, show b = _ from hb]
      exact nilEq_sound hw op t x y _ _ _ κ r h (guard_plain op t x y _ _ w (by rintro u v ⟨h, _⟩; cases h) (by rintro ⟨h, _⟩; cases h)) (equal_ptr_nil hu _ w) rfl rfl
    · cases h
  · split at h
    · rename_i hk
      obtain ⟨e, hu⟩ := ptr_of hΘ hk
      rw [show a = _ from ha, show b = _ from hb]
      exact nilEq_sound hw op t x y _ _ _ κ r h (guard_plain op t x y _ _ w (by rintro u v ⟨h, _⟩; cases h) (by rintro ⟨h, _⟩; cases h)) (equal_nil_nil hu w) rfl rfl
    · cases h
  · split at h
    · rename_i fs hk
      split at h
      · rename_i heq
        exact eqAgg_sound hΘ hw op t x y _ _ a b fs hk heq κ r h ha hb
      · cases h
    · cases h
  · cases h

/-- what comes behind an operation -/
def Then (P : Program) (B : Base) (g : G) {R : Type} (κ : AV → Objs → Option R) (r : R) (o : Oper) (a : Act) (K : Act → World → Prop) : Prop :=
  ∀ av o' v w' g', κ av o' = some r → WInv B g' o' w' → GE g g' → VR g' av v → K (a.put o.dst v) w'

theorem wp_val {B : Base} {g : G} {w : World} {R : Type} {κ : AV → Objs → Option R} {r : R} {s : Sem Value} {o : Oper} {a : Act} {K : Act → World → Prop} {Q : Exit → Act → World → Prop}
    (he : execOp a.eval o = valS s) (h : SOk P B g w κ r s) (hK : Then P B g κ r o a K) : o.wp P a w K Q := by
  obtain ⟨av, o', v, w', g', hk, hr, hw, hg, hv⟩ := h
  unfold Oper.wp
  rw [he, run_valS hr]
  exact hK av o' v w' g' hk hw hg hv

theorem wp_pure {B : Base} {g : G} {ob : Objs} {w : World} (hw : WInv B g ob w) {R : Type} {κ : AV → Objs → Option R} {r : R} {o : Oper} {a : Act} {K : Act → World → Prop} {Q : Exit → Act → World → Prop} (v : Value) (av : AV)
    (he : (execOp a.eval o).run P w = .ok (.value v) w) (h : κ av ob = some r) (hv : VR g av v) (hK : Then P B g κ r o a K) : o.wp P a w K Q := by
  unfold Oper.wp
  rw [he]
  exact hK av ob v w g h hw (GE.refl g) hv

theorem opt_VR {g : G} {s : List AV} {a : Act} (hs : VRL g s a.tmps.toList) (lo : Option Operand) : (∀ x, lo.map (rho s) = some x → ∃ v, lo.map a.eval = some v ∧ VR g x v) ∧ (lo.map (rho s) = none → lo.map a.eval = none) := by
  cases lo with
  | none => exact ⟨fun x h => (by cases h), fun _ => rfl⟩
  | some y => exact ⟨fun x h => (by cases h; exact ⟨_, rfl, rho_VR hs y⟩), fun h => (by cases h)⟩
end Go.Den
