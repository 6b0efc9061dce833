/- Single operations, one by one. -/
import Derived.Test.YtlmljpmohljefaaSound7
set_option linter.unusedVariables false
set_option linter.unusedSimpArgs false
namespace Go.Den
variable {P : Program}

/-- the operation comes to a value that the evaluator tells -/
def SOk (P : Program) (B : Base) (g : G) (w : World) {R : Type} (κ : AV → Objs → Option R) (r : R) (s : Sem Value) : Prop :=
  ∃ av o' v' w' g', κ av o' = some r ∧ s.run P w = .ok v' w' ∧ WInv B g' o' w' ∧ GE g g' ∧ VR g' av v'

theorem SOk.quiet {B : Base} {g : G} {o : Objs} {w : World} {R : Type} {κ : AV → Objs → Option R} {r : R} {s : Sem Value} (hw : WInv B g o w) (av : AV) (v : Value) (h : κ av o = some r) (hr : s.run P w = .ok v w) (hv : VR g av v) : SOk P B g w κ r s :=
  ⟨av, o, v, w, g, h, hr, hw, GE.refl g, hv⟩

theorem constV_VR (g : G) (v : Value) : VR g (constV v) v := by
  unfold constV
  split
  case h_2 =>
    split
    · exact congrArg _ (veil_eq _).symm
    · rfl
  all_goals first | rfl | trivial

theorem zeroAV_VR (g : G) (v : Value) : VR g (zeroAV v) v := by
  unfold zeroAV
  split
  · rfl
  · exact constV_VR g v

theorem zeros_VRL (g : G) : ∀ vs : List Value, VRL g (vs.map zeroAV) vs
  | [] => trivial
  | v :: vs => ⟨zeroAV_VR g v, zeros_VRL g vs⟩

theorem getS_VR {g : G} {s : List AV} {tmps : Array Value} (h : VRL g s tmps.toList) (t : Nat) : VR g (getS s t) (tmps.getD t undef) := by
  unfold getS
  cases hs : s[t]? with
  | none => simp [List.getD, hs]; trivial
  | some a =>
    obtain ⟨v, hv, hr⟩ := VRL_get h t a hs
    have : tmps[t]? = some v := by simpa using hv
    simp [List.getD, hs, Array.getD_eq_getD_getElem?, this]
    exact hr

theorem rho_VR {g : G} {s : List AV} {a : Act} (h : VRL g s a.tmps.toList) (x : Operand) : VR g (rho s x) (a.eval x) := by
  cases x with
  | tmp t => exact getS_VR h t
  | const v => exact constV_VR g v
  | global n => trivial
  | func f => exact ⟨[], [], rfl, trivial, trivial⟩

theorem rhos_VRL {g : G} {s : List AV} {a : Act} (h : VRL g s a.tmps.toList) : ∀ xs : List Operand, VRL g (xs.map (rho s)) (xs.map a.eval)
  | [] => trivial
  | x :: xs => ⟨rho_VR h x, rhos_VRL h xs⟩

/- alloc, box -/
theorem run_newVar (w : World) (t : TypeId) (v : Value) : (newVar t v).run P w = .ok ⟨w.heap.size, 0, none⟩ (w.alloc (.cells v.cells t)) := by
  simp [newVar, newRow]

theorem alloc_sound {R : Type} {Θ : Nat → TD} (hΘ : TOk P Θ) {B : Base} {g : G} {o : Objs} {w : World} (hw : WInv B g o w) (t : Nat) (N : Nat) (κ : AV → Objs → Option R) (r : R)
    (hok : okK (Θ t).k = true) (h : newK o N (.box (Θ t).zero) (fun o => κ (.ptr N 0) o) = some r) : SOk P B g w κ r (Instr.alloc t true (.tuple #[])) := by
  obtain ⟨i, d, z, hi, hu, hk, hs, hn, hz, hzz, hzs, hz1, hty⟩ := (hΘ.ok hok).row
  unfold newK at h
  split at h
  case h_2 => cases h
  rename_i hfree
  refine ⟨_, _, .pointer (some ⟨w.heap.size, 0, none⟩), _, _, h, ?_, new_box hw hfree _ z.cells.toList t (by rw [hzz]; exact zeros_VRL g _) hz1, setE_ge hw hfree _, ⟨_, _, setE_at g _ _, rfl⟩⟩
  simp [Instr.alloc, run_zeroD hi hz, run_newVar]

theorem allocArr_sound {R : Type} {Θ : Nat → TD} (hΘ : TOk P Θ) {B : Base} {g : G} {o : Objs} {w : World} (hw : WInv B g o w) (t : Nat) (N : Nat) (κ : AV → Objs → Option R) (r : R)
    (h : arrK Θ t (fun n te => newK o N (.arr n te (List.replicate n (zeroI te))) (fun o => κ (.ptr N 0) o)) = some r) : SOk P B g w κ r (Instr.alloc t true (.tuple #[])) := by
  unfold arrK at h
  split at h
  case h_2 => cases h
  rename_i n e hk
  split at h
  case h_2 => cases h
  rename_i te hte
  split at h
  case isFalse => cases h
  have hrow := hΘ.get t (by rw [hk]; simp)
  obtain ⟨i, d, z, hi, hu, hk2, hs, hn, hz, hzz, hzs, hz1, hty⟩ := hrow.row
  have hd : d = .array n e := by rw [hk] at hk2; cases d <;> simp [kOf] at hk2; obtain ⟨rfl, rfl⟩ := hk2; rfl
  subst hd
  have hte2 : tyOf P 40 e = some te := by rw [← (hΘ.ty hte).tyEq]; exact hte
  obtain ⟨hf, hrr⟩ := hrow.arr n e te i z hu hte2 hi hz
  unfold newK at h
  split at h
  case h_2 => cases h
  rename_i hfree
  refine ⟨_, _, .pointer (some ⟨w.heap.size, 0, none⟩), _, _, h, ?_, new_arr hw hfree te _ z.cells.toList t hf (by simp) (hrr g.M), setE_ge hw hfree _, ⟨_, _, setE_at g _ _, rfl⟩⟩
  simp [Instr.alloc, run_zeroD hi hz, run_newVar]

theorem box_sound {R : Type} {B : Base} {g : G} {o : Objs} {w : World} (hw : WInv B g o w) (t : Nat) (a : AV) (v : Value) (N : Nat) (κ : AV → Objs → Option R) (r : R) (ha : VR g a v)
    (hl : (cellsOf a).all leaf1 = true) (h : newK o N (.box (cellsOf a)) (fun o => κ (.ptr N 0) o) = some r) : SOk P B g w κ r (Instr.box t v) := by
  obtain ⟨hv, h1⟩ := cellsOf_sound ha hl
  unfold newK at h
  split at h
  case h_2 => cases h
  rename_i hfree
  refine ⟨_, _, .pointer (some ⟨w.heap.size, 0, none⟩), _, _, h, ?_, new_box hw hfree _ v.cells.toList t hv h1, setE_ge hw hfree _, ⟨_, _, setE_at g _ _, rfl⟩⟩
  simp [Instr.box, run_newVar]

theorem boxArr_sound {R : Type} {B : Base} {g : G} {o : Objs} {w : World} (hw : WInv B g o w) (t : Nat) (n : Nat) (ty : Ty) (l : List ty.I) (v : Value) (N : Nat) (κ : AV → Objs → Option R) (r : R) (ha : VR g (.d (.arr n ty) l) v)
    (h : newK o N (.arr n ty l) (fun o => κ (.ptr N 0) o) = some r) : SOk P B g w κ r (Instr.box t v) := by
  obtain ⟨hf, hl, ws, rfl, hr⟩ := ha
  unfold newK at h
  split at h
  case h_2 => cases h
  rename_i hfree
  refine ⟨_, _, .pointer (some ⟨w.heap.size, 0, none⟩), _, _, h, ?_, new_arr hw hfree ty l ws t hf hl hr, setE_ge hw hfree _, ⟨_, _, setE_at g _ _, rfl⟩⟩
  simp [Instr.box, run_newVar, Value.cells]

/- nilCheck is an operation of its own: see the end -/

/- fields and elements: addresses -/
theorem fieldOff_ok {Θ : Nat → TD} (hΘ : TOk P Θ) {s f off ft : Nat} (h : fieldOff Θ s f = some (off, ft)) :
    ∃ fs fd i, P.underlying s = some (.struct fs) ∧ fs[f]? = some fd ∧ fd.offset = off ∧ fd.type = ft ∧ P.info? ft = some i ∧ (okK (Θ ft).k = true → i.size ≠ 0 ∧ (Θ ft).sz = i.size) := by
  unfold fieldOff at h
  split at h
  case h_2 => cases h
  rename_i fs' hk
  split at h
  case h_2 => cases h
  rename_i off' ft' hf
  split at h
  case isTrue => cases h
  rename_i hsz
  cases h
  have hrow := hΘ.get s (by rw [hk]; simp)
  obtain ⟨i, d, z, hi, hu, hk2, hs, hn, hz, hzz, hzs, hz1, hty⟩ := hrow.row
  cases d <;> (rw [hk] at hk2; simp [kOf] at hk2)
  rename_i fs
  subst hk2
  simp only [List.getElem?_map, Option.map_eq_some_iff] at hf
  obtain ⟨fd, hfd, he⟩ := hf
  cases he
  have hfd' : fs[f]? = some fd := by simpa using hfd
  have hmem : fd ∈ fs.toList := List.mem_of_getElem? hfd
  obtain ⟨i', hi'⟩ := Option.isSome_iff_exists.1 (hrow.fields fs hu fd hmem)
  refine ⟨fs, fd, i', hu, hfd', rfl, rfl, hi', fun hok => ?_⟩
  obtain ⟨i2, d2, z2, hi2, hu2, hk3, hs2, _⟩ := (hΘ.ok hok).row
  rw [hi'] at hi2
  cases hi2
  exact ⟨by rw [← hs2]; exact hsz, hs2⟩

theorem fieldAt_run {s f : Nat} {fs : Array Field} {fd : Field} {i : TypeInfo} (hu : P.underlying s = some (.struct fs)) (hf : fs[f]? = some fd) (hi : P.info? fd.type = some i) (hne : i.size ≠ 0) (w : World) (a : Addr) :
    (Instr.fieldAt s (.pointer (some a)) f).run P w = .ok (.pointer (some (a.add fd.offset))) w := by
  simp [Instr.fieldAt, run_underlying hu, hf, Instr.sureAddr, fieldPlace, run_sizeD hi, hne]

theorem fieldAddr_sound {R : Type} {Θ : Nat → TD} (hΘ : TOk P Θ) {B : Base} {g : G} {o : Objs} {w : World} (hw : WInv B g o w) (s f off ft : Nat) (x : AV) (v : Value) (κ : AV → Objs → Option R) (r : R)
    (hf : fieldOff Θ s f = some (off, ft)) (hok : okK (Θ ft).k = true) (h : fieldAddrK off x (fun v => κ v o) = some r) (hx : VR g x v) : SOk P B g w κ r (Instr.fieldAt s v f) := by
  obtain ⟨fs, fd, i, hu, hfd, rfl, rfl, hi, hsz⟩ := fieldOff_ok hΘ hf
  have hne := (hsz hok).1
  unfold fieldAddrK at h
  split at h
  · obtain ⟨p, z, hE, rfl⟩ := hx
    exact SOk.quiet hw _ _ h (fieldAt_run hu hfd hi hne w _) ⟨p, z, hE, by rw [add_add]⟩
  · obtain ⟨p, z, u, hE, hb, rfl⟩ := hx
    exact SOk.quiet hw _ _ h (fieldAt_run hu hfd hi hne w _) ⟨p, z, u, hE, hb, by rw [add_add, Nat.add_assoc]⟩
  · obtain ⟨ad, ws, rfl, hc, hm⟩ := hx
    refine SOk.quiet hw _ _ h (fieldAt_run hu hfd hi hne w _) ⟨ad.add fd.offset, ws.drop fd.offset, rfl, VRL_drop _ hc, fun j u hj => ?_⟩
    rw [add_add]
    exact hm _ _ (by rw [List.getElem?_drop] at hj; exact hj)
  · cases h

/- a part of a value -/
theorem run_part_agg {t : TypeId} {d : TypeDesc} {i : TypeInfo} (w : World) (hi : P.info? t = some i) (hu : P.underlying t = some d) (hd : aggD d = true) (cs : Array Value) (off : Nat) : (part t cs off).run P w = .ok (.agg (cs.extract off (off + i.size))) w := by
  simp [part, run_isAggD hu, hd, run_sizeD hi]

theorem run_part_one {t : TypeId} {d : TypeDesc} (w : World) (hu : P.underlying t = some d) (hd : aggD d = false) (cs : Array Value) (off : Nat) (v : Value) (h : cs[off]? = some v) : (part t cs off).run P w = .ok v w := by
  simp [part, run_isAggD hu, hd, h]

theorem fromPart_sound {R : Type} {Θ : Nat → TD} (hΘ : TOk P Θ) {g : G} {w : World} (t : Nat) (cs : List AV) (ws : List Value) (off : Nat) (κ : AV → Option R) (r : R)
    (h : fromCells Θ t (cs.drop off) κ = some r) (hc : VRL g (cs.drop off) (ws.drop off)) (h1 : ∀ u ∈ ws, u.oneCell' = true) :
    ∃ av v, κ av = some r ∧ VR g av v ∧ (part t ws.toArray off).run P w = .ok v w := by
  have hne : (Θ t).k ≠ .other := by intro e; unfold fromCells at h; rw [e] at h; cases h
  obtain ⟨i, d, z, hi, hu, hk, hs, hn, hz, hzz, hzs, hz1, hty⟩ := (hΘ.get t hne).row
  have one : ∀ (hd : aggD d = false), headK (cs.drop off) κ = some r → ∃ av v, κ av = some r ∧ VR g av v ∧ (part t ws.toArray off).run P w = .ok v w := by
    intro hd h
    unfold headK at h
    split at h
    · rename_i c rest he
      rw [he] at hc
      cases hq : ws.drop off with
      | nil => rw [hq] at hc; exact hc.elim
      | cons v vs =>
        rw [hq] at hc
        refine ⟨c, v, h, hc.1, run_part_one w hu hd _ off v ?_⟩
        have : (ws.drop off)[0]? = some v := by rw [hq]; rfl
        rw [List.getElem?_drop] at this
        simpa using this
    · cases h
  unfold fromCells at h
  cases d with
  | struct fs =>
    rw [hk] at h
    simp only [kOf] at h
    split at h
    · rename_i hle
      refine ⟨_, .agg ((ws.drop off).take (Θ t).sz).toArray, h, ⟨_, rfl, VRL_take _ hc, fun u hu => h1 u (List.mem_of_mem_drop (List.mem_of_mem_take hu))⟩, ?_⟩
      rw [run_part_agg w hi hu rfl, hs]
      congr 2
      apply Array.ext'
      simp [List.take_drop]
    · cases h
  | array n e => rw [hk] at h; cases h
  | bool => rw [hk] at h; exact one rfl h
  | int k => rw [hk] at h; exact one rfl h
  | string => rw [hk] at h; exact one rfl h
  | pointer e => rw [hk] at h; exact one rfl h
  | slice e => rw [hk] at h; exact one rfl h
  | func a b c => rw [hk] at h; exact one rfl h
  | invalid => rw [hk] at hne; exact absurd rfl hne
  | float k => rw [hk] at hne; exact absurd rfl hne
  | complex k => rw [hk] at hne; exact absurd rfl hne
  | unsafePointer => rw [hk] at hne; exact absurd rfl hne
  | map a b => rw [hk] at hne; exact absurd rfl hne
  | chan a b => rw [hk] at hne; exact absurd rfl hne
  | interface m => rw [hk] at hne; exact absurd rfl hne
  | tuple m => rw [hk] at hne; exact absurd rfl hne
  | named a b => rw [hk] at hne; exact absurd rfl hne

theorem field_sound {R : Type} {Θ : Nat → TD} (hΘ : TOk P Θ) {B : Base} {g : G} {o : Objs} {w : World} (hw : WInv B g o w) (s f off ft : Nat) (cs : List AV) (v : Value) (κ : AV → Objs → Option R) (r : R)
    (hf : fieldOff Θ s f = some (off, ft)) (h : fromCells Θ ft (cs.drop off) (fun v => κ v o) = some r) (hx : VR g (.agg cs) v) : SOk P B g w κ r (Instr.field s v f) := by
  obtain ⟨fs, fd, i, hu, hfd, rfl, rfl, hi, hsz⟩ := fieldOff_ok hΘ hf
  obtain ⟨ws, rfl, hc, h1⟩ := hx
  obtain ⟨av, u, hk, hv, hr⟩ := fromPart_sound hΘ (w := w) fd.type cs ws fd.offset _ r h (VRL_drop _ hc) h1
  exact SOk.quiet hw av u hk (by simp [Instr.field, run_underlying hu, hfd, asAgg, hr]) hv

theorem extract_sound {R : Type} {B : Base} {g : G} {o : Objs} {w : World} (hw : WInv B g o w) (vs : List AV) (i : Nat) (v : Value) (κ : AV → Objs → Option R) (r : R)
    (hi : i < vs.length) (h : κ (vs.getD i .dead) o = some r) (hx : VR g (.tup vs) v) : SOk P B g w κ r (Instr.extract v i) := by
  obtain ⟨ws, rfl, hc⟩ := hx
  have hl := VRL_length hc
  obtain ⟨u, hu, hr⟩ := VRL_get hc i (vs.getD i .dead) (by simp [List.getD, List.getElem?_eq_getElem hi])
  refine SOk.quiet hw _ u h ?_ hr
  have : ws.toArray[i]? = some u := by simpa using hu
  simp [Instr.extract, this]
end Go.Den
