/- Literals, makes, copies. -/
import Derived.Test.YtlmljpmohljefaaSound10
import Derived.Laws.Tables
set_option linter.unusedVariables false
set_option linter.unusedSimpArgs false
namespace Go.Den
variable {P : Program}

def partsR (g : G) : List (Nat × AV) → List (Nat × Value) → Prop
  | [], [] => True
  | (i, a) :: as, (j, v) :: vs => i = j ∧ VR g a v ∧ partsR g as vs
  | [], _ :: _ => False
  | _ :: _, [] => False

theorem partsR_mono {g g' : G} (h : GE g g') : ∀ (as : List (Nat × AV)) (vs : List (Nat × Value)), partsR g as vs → partsR g' as vs
  | [], [], _ => trivial
  | (i, a) :: as, (j, v) :: vs, ⟨e, hv, hr⟩ => ⟨e, VR_mono h a v hv, partsR_mono h as vs hr⟩
  | [], _ :: _, hx => hx.elim
  | _ :: _, [], hx => hx.elim

theorem parts_of {g : G} {s : List AV} {a : Act} (h : VRL g s a.tmps.toList) : ∀ ps : List (Nat × Operand), partsR g (ps.map fun p => (p.1, rho s p.2)) (ps.map fun p => (p.1, a.eval p.2))
  | [] => trivial
  | p :: ps => ⟨rfl, rho_VR h p.2, parts_of h ps⟩

theorem partsR_length {g : G} : ∀ {as : List (Nat × AV)} {vs : List (Nat × Value)}, partsR g as vs → as.length = vs.length
  | [], [], _ => rfl
  | (_, _) :: as, (_, _) :: vs, ⟨_, _, h⟩ => by simp [partsR_length h]
  | [], _ :: _, hx => hx.elim
  | _ :: _, [], hx => hx.elim

/-- in order: they are numbered one by one -/
theorem inOrder_zip {g : G} : ∀ (as : List (Nat × AV)) (vs : List (Nat × Value)) (k : Nat), partsR g as vs → inOrder k as = true → vs = ((vs.map (·.2)).zipIdx k).map fun x => (x.2, x.1)
  | [], [], k, _, _ => rfl
  | (i, a) :: as, (j, v) :: vs, k, ⟨e, hv, hr⟩, ho => by
    simp only [inOrder, Bool.and_eq_true, beq_iff_eq] at ho
    obtain ⟨rfl, ho⟩ := ho
    subst e
    simp only [List.map_cons, List.zipIdx_cons]
    rw [← inOrder_zip as vs _ hr ho]
  | [], _ :: _, k, hx, _ => hx.elim
  | _ :: _, [], k, hx, _ => hx.elim

theorem partsK_sound {R : Type} {B : Base} {w : World} (t : Ty) (hf : t.flat = true) : ∀ (as : List (Nat × AV)) (vs : List (Nat × Value)) (g : G) (o : Objs) (κ : List t.I → Objs → Option R) (r : R),
    partsK t as o κ = some r → partsR g as vs → WInv B g o w → ∃ l o' g', κ l o' = some r ∧ WInv B g' o' w ∧ GE g g' ∧ RR g'.M t l ((vs.map (·.2)).flatMap fun v => v.cells.toList) ∧ l.length = as.length ∧ ∀ v ∈ vs.map (·.2), v.cells.size = t.sz
  | [], [], g, o, κ, r, h, _, hw => ⟨[], o, g, h, hw, GE.refl g, rfl, rfl, by simp⟩
  | (i, a) :: as, (j, v) :: vs, g, o, κ, r, h, ⟨e, hv, hr⟩, hw => by
    unfold partsK at h
    split at h
    case isFalse => cases h
    rename_i hc
    obtain ⟨hsz, hl1⟩ := hc
    obtain ⟨hcv, h1⟩ := cellsOf_sound hv hl1
    have hvl := VRL_length hcv
    obtain ⟨cs', o1, g1, hk, hcv1, hw1, hg1, hE1⟩ := resolveK_sound _ _ g o _ r h hcv hw
    obtain ⟨x, rest, v1, v2, hk2, e1, hcx, hrest⟩ := packK_sound t _ _ _ r hf hk hcv1
    have hv2 : v2 = [] := by
      have h3 := CR_length t x v1 hcx
      have h4 : (v1 ++ v2).length = t.sz := by rw [← e1, ← hvl, hsz]
      rw [List.length_append, h3] at h4
      exact List.eq_nil_of_length_eq_zero (by omega)
    rw [hv2, List.append_nil] at e1
    obtain ⟨l, o', g', hk3, hw', hg', hrr, hlen, hall⟩ := partsK_sound t hf as vs g1 o1 _ r hk2 (partsR_mono hg1 as vs hr) hw1
    refine ⟨x :: l, o', g', hk3, hw', hg1.trans hg', ⟨v.cells.toList, _, by simp, ?_, hrr⟩, by simp [hlen], ?_⟩
    · rw [e1]; exact CR_mono hg'.M t x v1 hcx
    · intro u hu
      simp only [List.map_cons, List.mem_cons] at hu
      rcases hu with rfl | hu
      · simp at hvl; omega
      · exact hall u hu
  | [], _ :: _, g, o, κ, r, h, hx, hw => hx.elim
  | _ :: _, [], g, o, κ, r, h, hx, hw => hx.elim

theorem buildSlice_sound {R : Type} {Θ : Nat → TD} (hΘ : TOk P Θ) {B : Base} {g : G} {o : Objs} {w : World} (hw : WInv B g o w) {t e : Nat} {te : Ty} (het : elemTy Θ t = some (e, te)) (len N : Nat) (as : List (Nat × AV)) (vs : Array (Nat × Value)) (κ : AV → Objs → Option R) (r : R)
    (hp : partsR g as vs.toList) (ho : inOrder 0 as = true) (hlen : as.length = len) (h0 : 0 < len) (hs : len * (Θ e).sz ≤ 16777216) (hnb : len * (Θ e).nb ≤ lim)
    (h : partsK te as o (fun l o => newK o N (.row e te l false) fun o => κ (.row N) o) = some r) : SOk P B g w κ r (Instr.buildSlice t len vs) := by
  obtain ⟨i, z, hu, hi, hz, hzs, hsz, hf, hnbe, hb0, hs0, hsE, hzero⟩ := elemTy_ok hΘ het
  obtain ⟨l, o1, g1, hk, hw1, hg1, hrr, hll, hall⟩ := partsK_sound te hf as vs.toList g o _ r h hp hw
  unfold newK at hk
  split at hk
  case h_2 => cases hk
  rename_i hfree
  have hzip := inOrder_zip as vs.toList 0 hp ho
  have hvl : vs.toList.length = len := by rw [← partsR_length hp, hlen]
  have hfill := Great.fill_whole (s := te.sz) (flat_pos te hf) (vs.toList.map (·.2)) ((Array.range (len * i.size)).map (z.cells[· % z.cells.size]!)) hall (by simp at hvl ⊢; rw [hvl, hsz])
  rw [← hzip] at hfill
  have hne : ¬ len * i.size = 0 := by
    have : 0 < len * i.size := Nat.mul_pos h0 hs0
    omega
  have hle : ¬ len * i.size > 2 ^ 24 := by rw [← hsE]; omega
  have hrun := run_buildSlice (P := P) w t e len vs _ i z hu hi hz hle hne (by rw [hsz]; rw [hsz] at hfill; exact hfill)
  have hown : (w.alloc (.cells ((vs.toList.map (·.2)).flatMap fun v => v.cells.toList).toArray e)).ownsRow 0 e te.sz (.slice (some ⟨w.heap.size, 0, none⟩) len len) l.length ((vs.toList.map (·.2)).flatMap fun v => v.cells.toList) := by
    have hl2 := RR_length te l _ hrr
    have hll' : l.length = len := by rw [hll, hlen]
    refine ⟨hl2, .inr ⟨w.heap.size, len, _, by rw [hll'], Nat.zero_le _, heap_alloc_new w _, by omega, ?_, ?_, ?_⟩⟩
    · have : len ≤ len * (Θ e).nb := Nat.le_mul_of_pos_right _ (by rw [hnbe]; exact hb0)
      simp only [lim] at hnb
      simp only [maxLen]; omega
    · simp only [List.size_toArray]; rw [hl2, hll']
    · exact List.take_of_length_le (by show ((vs.toList.map (·.2)).flatMap fun v => v.cells.toList).length ≤ _; rw [hl2]; exact Nat.le_refl _)
  exact ⟨_, _, _, _, _, hk, hrun, new_row hw1 hfree e te l _ _ false hf hrr hown (grown_alloc w _ _) (.inr rfl), hg1.trans (setE_ge hw1 hfree _), ⟨te.sz, setE_at _ _ _, rfl⟩⟩

theorem buildArr_sound {R : Type} {Θ : Nat → TD} (hΘ : TOk P Θ) {B : Base} {g : G} {o : Objs} {w : World} (hw : WInv B g o w) {t n e : Nat} {te : Ty} (hk : (Θ t).k = .arr n e) (hte : (Θ e).ty = some te) (as : List (Nat × AV)) (vs : Array (Nat × Value)) (κ : AV → Objs → Option R) (r : R)
    (hp : partsR g as vs.toList) (ho : inOrder 0 as = true) (hlen : as.length = n) (hse : szOk Θ e te.sz = true) (hst : (Θ t).sz = n * te.sz)
    (h : partsK te as o (fun l o => κ (.d (.arr n te) l) o) = some r) : SOk P B g w κ r (Instr.build t vs) := by
  obtain ⟨it, d, z, hit, hu, hk2, hs, hn, hz, hzz, hzs, hz1, hty⟩ := (hΘ.get t (by rw [hk]; simp)).row
  have hd : d = .array n e := by rw [hk] at hk2; cases d <;> simp [kOf] at hk2; obtain ⟨rfl, rfl⟩ := hk2; rfl
  subst hd
  obtain ⟨ie, de, ze, hie, hue, hke, hsee, _, _, _, _, _, htye⟩ := (hΘ.ty hte).row
  obtain ⟨hf, hsz, _⟩ := htye te hte
  obtain ⟨l, o1, g1, hk1, hw1, hg1, hrr, hll, hall⟩ := partsK_sound te hf as vs.toList g o _ r h hp hw
  have hzip := inOrder_zip as vs.toList 0 hp ho
  have hvl : vs.toList.length = n := by rw [← partsR_length hp, hlen]
  have hfill := Great.fill_whole (s := te.sz) (flat_pos te hf) (vs.toList.map (·.2)) z.cells hall (by simp at hvl ⊢; rw [hvl, hzs, ← hs, hst])
  rw [← hzip] at hfill
  have hb : P.built t vs.toList = some ((vs.toList.map (·.2)).flatMap fun v => v.cells.toList).toArray := by
    unfold Program.built
    simp only [hit, hu, hz, hie]
    rw [← hsz]
    exact hfill
  exact ⟨_, _, _, w, g1, hk1, run_build w t vs _ hb, hw1, hg1, ⟨hf, by rw [hll, hlen], _, rfl, hrr⟩⟩

theorem mapM_some {α β : Type} (F : α → Option β) : ∀ (l : List α), (∀ a ∈ l, (F a).isSome = true) → ∃ ps, l.mapM F = some ps ∧ ∀ i : Nat, ps[i]? = (l[i]?).bind F
  | [], _ => ⟨[], rfl, fun i => by simp⟩
  | a :: l, h => by
    obtain ⟨b, hb⟩ := Option.isSome_iff_exists.1 (h a List.mem_cons_self)
    obtain ⟨ps, hps, hi⟩ := mapM_some F l (fun x hx => h x (List.mem_cons_of_mem _ hx))
    refine ⟨b :: ps, by simp [List.mapM_cons, hb, hps], fun i => ?_⟩
    cases i with
    | zero => simp [hb]
    | succ i => simpa using hi i

theorem fold_put (off : Nat) (vs : List Value) (cells : Array Value) (h : off + vs.length ≤ cells.size) :
    (vs.toArray.zipIdx.foldl (fun cs (x : Value × Nat) => cs.setIfInBounds (off + x.2) x.1) cells).toList = cells.toList.take off ++ vs ++ cells.toList.drop (off + vs.length) := by
  obtain ⟨h1, h2⟩ := Great.foldl_set off vs 0 cells
  have e : vs.toArray.zipIdx.foldl (fun cs (x : Value × Nat) => cs.setIfInBounds (off + x.2) x.1) cells = (vs.zipIdx 0).foldl (fun cs (x : Value × Nat) => cs.setIfInBounds (off + x.2) x.1) cells := by
    rw [← Array.foldl_toList]
    simp
  rw [e]
  apply List.ext_getElem?
  intro k
  rw [Array.getElem?_toList, h2 k]
  simp only [Nat.add_zero]
  by_cases hk : k < off
  · rw [if_neg (by omega), List.append_assoc, List.getElem?_append_left (by simp; omega), List.getElem?_take_of_lt hk]
    simp
  · by_cases hk2 : k < off + vs.length
    · rw [if_pos ⟨by omega, by omega, by omega⟩, List.append_assoc, List.getElem?_append_right (by simp; omega), List.getElem?_append_left (by simp; omega)]
      congr 1
      simp; omega
    · rw [if_neg (by omega), List.append_assoc, List.getElem?_append_right (by simp; omega), List.getElem?_append_right (by simp; omega), List.getElem?_drop]
      simp
      congr 1
      omega

theorem fillK_sound {R : Type} {Θ : Nat → TD} (hΘ : TOk P Θ) {g : G} (fs : List (Nat × Nat)) (places : Nat → Option (Nat × Nat)) (hpl : ∀ (i off ft : Nat), fs[i]? = some (off, ft) → okK (Θ ft).k = true → places i = some (off, (Θ ft).sz)) :
    ∀ (as : List (Nat × AV)) (vs : List (Nat × Value)) (cs : List AV) (cells : Array Value) (κ : List AV → Option R) (r : R), fillK Θ fs as cs κ = some r → partsR g as vs → VRL g cs cells.toList → (∀ u ∈ cells.toList, u.oneCell' = true) →
      ∃ cs' cells', κ cs' = some r ∧ Instr.fill places cells vs = some cells' ∧ VRL g cs' cells'.toList ∧ ∀ u ∈ cells'.toList, u.oneCell' = true
  | [], [], cs, cells, κ, r, h, _, hc, h1 => ⟨cs, cells, h, rfl, hc, h1⟩
  | (i, a) :: as, (j, v) :: vs, cs, cells, κ, r, h, ⟨e, hv, hr⟩, hc, h1 => by
    subst e
    unfold fillK at h
    split at h
    case h_2 => cases h
    rename_i off ft hi
    split at h
    case isFalse => cases h
    rename_i hcond
    obtain ⟨hok, hsz, hle, hl1⟩ := hcond
    obtain ⟨hcv, hv1⟩ := cellsOf_sound hv hl1
    have hvl := VRL_length hcv
    have hcl := VRL_length hc
    have hput := putCells_sound cs cells.toList off (cellsOf a) v.cells.toList hc hcv hle
    have hfold := fold_put off v.cells.toList cells (by simp at hcl hvl ⊢; omega)
    simp only [Array.toArray_toList] at hfold
    rw [← hfold] at hput
    obtain ⟨cs', cells', hk, hfill, hcc, hone⟩ := fillK_sound hΘ fs places hpl as vs _ (v.cells.zipIdx.foldl (fun cs (x : Value × Nat) => cs.setIfInBounds (off + x.2) x.1) cells) κ r h hr hput (by
      rw [hfold]
      intro u hu
      simp only [List.mem_append] at hu
      rcases hu with (hu | hu) | hu
      · exact h1 u (List.mem_of_mem_take hu)
      · exact hv1 u hu
      · exact h1 u (List.mem_of_mem_drop hu))
    refine ⟨cs', cells', hk, ?_, hcc, hone⟩
    unfold Instr.fill
    rw [hpl i off ft hi hok]
    have hvs : v.cells.size = (Θ ft).sz := by rw [← hsz, hvl]; simp
    simp only [Array.length_toList] at hcl hvl
    have hn : ¬ ((decide (v.cells.size ≠ (Θ ft).sz) || decide (off + v.cells.size > cells.size)) = true) := by
      simp [hvs]; omega
    show (if (decide (v.cells.size ≠ (Θ ft).sz) || decide (off + v.cells.size > cells.size)) = true then none else _) = _
    rw [if_neg hn]
    exact hfill
  | [], _ :: _, cs, cells, κ, r, h, hx, _, _ => hx.elim
  | _ :: _, [], cs, cells, κ, r, h, hx, _, _ => hx.elim

theorem buildStruct_sound {R : Type} {Θ : Nat → TD} (hΘ : TOk P Θ) {B : Base} {g : G} {o : Objs} {w : World} (hw : WInv B g o w) {t : Nat} {fs : List (Nat × Nat)} (hk : (Θ t).k = .struct fs) (as : List (Nat × AV)) (vs : Array (Nat × Value)) (κ : AV → Objs → Option R) (r : R)
    (hp : partsR g as vs.toList) (h : fillK Θ fs as (Θ t).zero (fun cs => κ (.agg cs) o) = some r) : SOk P B g w κ r (Instr.build t vs) := by
  have hrow := hΘ.get t (by rw [hk]; simp)
  obtain ⟨it, d, z, hit, hu, hk2, hs, hn, hz, hzz, hzs, hz1, hty⟩ := hrow.row
  cases d <;> (rw [hk] at hk2; simp [kOf] at hk2)
  rename_i fs'
  subst hk2
  obtain ⟨places, hpl, hpi⟩ := mapM_some (fun (f : Field) => (P.info? f.type).map fun i => (f.offset, i.size)) fs'.toList (fun f hf => by simpa using hrow.fields fs' hu f hf)
  obtain ⟨cs', cells', hk3, hfill, hcc, hone⟩ := fillK_sound hΘ (fs'.toList.map fun f => (f.offset, f.type)) (places.toArray[·]?) (fun i off ft hi hok => by
    simp only [List.getElem?_map, Option.map_eq_some_iff] at hi
    obtain ⟨f, hf, he⟩ := hi
    cases he
    obtain ⟨i2, d2, z2, hi2, hu2, hk4, hs2, _⟩ := (hΘ.ok hok).row
    simp [hpi, hf, hi2, hs2]) as vs.toList _ z.cells _ r h hp (by rw [hzz]; exact zeros_VRL g _) hz1
  have hb : P.built t vs.toList = some cells' := by
    unfold Program.built
    simp only [hit, hu, hz, hpl]
    exact hfill
  exact SOk.quiet hw _ _ hk3 (run_build w t vs cells' hb) ⟨cells'.toList, by simp, hcc, hone⟩

theorem made_RR {M : Mem} (t : Ty) (z : List Value) (hz : CR M t (zeroI t) z) : ∀ n, RR M t (List.replicate n (zeroI t)) ((List.replicate n z).flatten)
  | 0 => rfl
  | n + 1 => ⟨z, (List.replicate n z).flatten, by simp [List.replicate_succ], hz, made_RR t z hz n⟩

theorem madeCells_list (z : Array Value) (hz : 0 < z.size) (n : Nat) : (madeCells z (n * z.size)).toList = (List.replicate n z.toList).flatten := by
  induction n with
  | zero => simp [madeCells]
  | succ n ih =>
    apply List.ext_getElem?
    intro k
    simp only [madeCells, Array.toList_map, Array.toList_range, List.getElem?_map]
    rw [List.replicate_succ', List.flatten_append]
    have hl : (List.replicate n z.toList).flatten.length = n * z.size := by simp
    by_cases hk : k < n * z.size
    · rw [List.getElem?_append_left (by omega), ← ih]
      have h1 : k < (n + 1) * z.size := by rw [Nat.add_mul]; omega
      simp [madeCells, hk, h1]
    · rw [List.getElem?_append_right (by omega), hl]
      by_cases hk2 : k < (n + 1) * z.size
      · have h3 : k - n * z.size < z.size := by rw [Nat.add_mul] at hk2; omega
        have h4 : k % z.size = k - n * z.size := by
          have h5 : k = (k - n * z.size) + z.size * n := by rw [Nat.mul_comm z.size n]; omega
          rw [h5, Nat.add_mul_mod_self_left, Nat.mod_eq_of_lt (by omega)]
          rw [Nat.mul_comm z.size n]; omega
        simp [hk2, h4, h3]
      · rw [List.getElem?_eq_none (by simp; omega)]
        rw [List.getElem?_eq_none (by simp; rw [Nat.add_mul] at hk2; omega)]
        rfl

theorem make_sound {R : Type} {Θ : Nat → TD} (hΘ : TOk P Θ) {B : Base} {g : G} {o : Objs} {w : World} (hw : WInv B g o w) {t e : Nat} {te : Ty} (het : elemTy Θ t = some (e, te)) (N : Nat) (l c : Int) (kl kc : IntKind) (κ : AV → Objs → Option R) (r : R)
    (h : makeK (Θ e).nb l c (fun n => newK o N (.row e te (List.replicate n (zeroI te)) false) fun o => κ (.row N) o) = some r) : SOk P B g w κ r (Instr.makeSlice t (.int kl l) (.int kc c)) := by
  obtain ⟨i, z, hu, hi, hz, hzs, hsz, hf, hnbe, hb0, hs0, hsE, hzero⟩ := elemTy_ok hΘ het
  unfold makeK at h
  split at h
  case isFalse => cases h
  rename_i hc
  obtain ⟨h0, hlc, hcb, hcl⟩ := hc
  unfold newK at h
  split at h
  case h_2 => cases h
  rename_i hfree
  have hrun := run_make (P := P) w t e i z hu hi hz kl kc l c h0 hlc (by rw [hnbe] at hcb; rw [Int.mul_comm]; omega) (by omega)
  have hrr := made_RR te z.cells.toList (hzero g.M) l.toNat
  have hmade := madeCells_list z.cells (by omega) c.toNat
  rw [hzs] at hmade
  have hown : (w.alloc (.cells (madeCells z.cells (c.toNat * i.size)) e)).ownsRow 0 e te.sz (.slice (some ⟨w.heap.size, 0, none⟩) l.toNat c.toNat) (List.replicate l.toNat (zeroI te)).length ((List.replicate l.toNat z.cells.toList).flatten) := by
    have hl2 := RR_length te _ _ hrr
    refine ⟨hl2, .inr ⟨w.heap.size, c.toNat, _, by simp, Nat.zero_le _, heap_alloc_new w _, by simp; omega, by simp only [maxLen]; omega, by rw [size_madeCells, hsz], ?_⟩⟩
    rw [hmade]
    obtain ⟨m, hm⟩ : ∃ m, c.toNat = l.toNat + m := ⟨c.toNat - l.toNat, by omega⟩
    rw [hm, ← List.replicate_append_replicate, List.flatten_append]
    exact List.take_left' (by rw [hl2])
  exact ⟨_, _, _, _, _, h, hrun, new_row hw hfree e te _ _ _ false hf hrr hown (grown_alloc w _ _) (.inr rfl), setE_ge hw hfree _, ⟨te.sz, setE_at _ _ _, rfl⟩⟩
end Go.Den
