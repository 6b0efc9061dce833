/- Rows become data; stores. -/
import Derived.Test.YtlmljpmohljefaaSound4
set_option linter.unusedVariables false
set_option linter.unusedSimpArgs false
namespace Go.Den
variable {P : Program}

theorem slice_one (A : Option Addr) (n c : Nat) : (Value.slice A n c).oneCell' = true := rfl

theorem freeze_sound {B : Base} {g : G} {o : Objs} {w : World} (hw : WInv B g o w) {n e : Nat} {t : Ty} {l : List t.I} {frz : Bool} (hn : o n = some (.row e t l frz)) {v : Value} {z : Nat} (hE : g.E n = some (v, z)) :
    ∃ M', WInv B ⟨M', g.E⟩ (upd o n (.row e t l true)) w ∧ GE g ⟨M', g.E⟩ ∧ t.flat = true ∧ CR M' (.sl t) l [v] := by
  obtain ⟨v', ws, hE', hf, ho, hr, hm⟩ := hw.objs n _ hn
  rw [hE'] at hE
  cases hE
  have hlen := RR_length t l ws hr
  let M' : Mem := fun a => if v.ownBlock = some a.block ∧ a.spot = none ∧ a.off < l.length * t.sz then w.cell? a else g.M a
  have hbk : ∀ b, v.ownBlock = some b → blkOf g n = some b := fun b hb => by
    simp only [blkOf, hE', Option.bind_some]; rw [ownBlock_base ho]; exact hb
  have hcell : ∀ a : Addr, v.ownBlock = some a.block → a.spot = none → a.off < l.length * t.sz → ∃ u, w.cell? a = some u ∧ u ∈ ws := by
    intro a hb hs hlt
    have hj : a.off < ws.length := by rw [hlen]; exact hlt
    refine ⟨ws[a.off], ?_, List.getElem_mem hj⟩
    have := ho.cells hb a.off _ (List.getElem?_eq_getElem hj)
    rw [add_at] at this
    rw [← this]
    cases a with
    | mk b off sp => simp at hs; subst hs; rfl
  have hgrow : ∀ a u, g.M a = some u → M' a = some u := by
    intro a u ha
    simp only [M']
    split
    · exact (hw.mem a u ha).1
    · exact ha
  have hgE : GE g ⟨M', g.E⟩ := ⟨hgrow, fun _ _ e => e⟩
  have hcr : CR M' (.sl t) l [v] := by
    rcases ho.2 with ⟨rfl, h0⟩ | ⟨b, cap, cur, rfl, _, hh, hnc, _⟩
    · have : l = [] := List.eq_nil_of_length_eq_zero h0
      subst this
      exact ⟨none, 0, rfl, Nat.le_refl _, fun i x hi => by simp at hi⟩
    · refine ⟨some ⟨b, 0, none⟩, cap, rfl, hnc, fun i x hi => ?_⟩
      obtain ⟨us, hc, hu⟩ := RR_cell t l ws hr i x hi
      refine ⟨⟨b, 0, none⟩, us, rfl, CR_mono hgrow t x us hc, fun j u hj => ?_⟩
      have hk := hu j u hj
      have hlt : i * t.sz + j < ws.length := (List.getElem?_eq_some_iff.1 hk).1
      have hc2 := ho.cells (g := b) rfl _ _ hk
      rw [add_at] at hc2 ⊢
      simp only [M', Value.ownBlock]
      rw [if_pos ⟨trivial, trivial, by omega⟩]
      exact hc2
  refine ⟨M', ?_, hgE, hf, hcr⟩
  refine hw.learn M' n (upd o n (.row e t l true)) hgrow ?_ ?_ ?_ ?_ ?_ ?_
  · intro a u ha
    simp only [M'] at ha
    split at ha
    · rename_i hc
      obtain ⟨u', hu', hmem⟩ := hcell a hc.1 hc.2.1 hc.2.2
      rw [hu'] at ha
      cases ha
      exact ⟨hu', RR_one t l ws hr _ hmem⟩
    · exact hw.mem a u ha
  · intro m x hne hmo hl b a hb hab
    simp only [M']
    rw [if_neg]
    rintro ⟨hc, _⟩
    exact hw.apart m n x _ hne hmo hn hl rfl b hb (by rw [hbk _ hc, hab])
  · intro m hne; simp [upd, hne]
  · intro x hx
    simp [upd] at hx
    subst hx
    refine ⟨⟨v, ws, hE', hf, ho, RR_mono hgrow t l ws hr, fun a ha hc => ?_⟩, fun _ => ⟨_, hn, rfl⟩⟩
    have hc' : l.length * t.sz ≤ a.off ∨ a.spot.isSome = true := by
      rcases hc with h | h | h
      · cases h
      · exact .inl h
      · exact .inr h
    simp only [M']
    rw [if_neg]
    · exact hm a ha (.inr hc')
    · rintro ⟨_, hs, hlt⟩
      rcases hc' with h | h
      · omega
      · rw [hs] at h; cases h
  · intro hx; simp [upd] at hx
  · intro a ha hX
    simp only [M']
    rw [if_neg]
    rintro ⟨hc, _⟩
    rcases hw.mine n _ _ hn rfl (hbk _ hc) with h | h
    · exact hX h
    · omega

theorem resolveK_sound {R : Type} {B : Base} {w : World} : ∀ (cs : List AV) (vs : List Value) (g : G) (o : Objs) (κ : List AV → Objs → Option R) (r : R),
    resolveK cs o κ = some r → VRL g cs vs → WInv B g o w → ∃ cs' o' g', κ cs' o' = some r ∧ VRL g' cs' vs ∧ WInv B g' o' w ∧ GE g g' ∧ g'.E = g.E
  | [], vs, g, o, κ, r, h, hc, hw => ⟨[], o, g, h, hc, hw, GE.refl g, rfl⟩
  | c :: rest, [], g, o, κ, r, h, hc, hw => hc.elim
  | c :: rest, v :: vs, g, o, κ, r, h, hc, hw => by
    obtain ⟨hv, hr⟩ := hc
    have plain : resolveK rest o (fun cs o => κ (c :: cs) o) = some r → ∃ cs' o' g', κ cs' o' = some r ∧ VRL g' cs' (v :: vs) ∧ WInv B g' o' w ∧ GE g g' ∧ g'.E = g.E := by
      intro h
      obtain ⟨cs', o', g', hk, hc', hw', hg, hE⟩ := resolveK_sound rest vs g o _ r h hr hw
      exact ⟨c :: cs', o', g', hk, ⟨VR_mono hg c v hv, hc'⟩, hw', hg, hE⟩
    cases c with
    | row n =>
      unfold resolveK at h
      split at h
      · rename_i e t l frz hn
        obtain ⟨z, hE, h1⟩ := hv
        obtain ⟨M', hw', hg, hf, hcr⟩ := freeze_sound hw hn hE
        obtain ⟨cs', o', g', hk, hc', hw2, hg2, hE2⟩ := resolveK_sound rest vs _ _ _ r h (VRL_mono hg rest vs hr) hw'
        exact ⟨_, o', g', hk, ⟨⟨hf, CR_mono hg2.M (.sl t) l [v] hcr⟩, hc'⟩, hw2, hg.trans hg2, hE2⟩
      · cases h
    | d t x => exact plain h
    | ptr n off => exact plain h
    | eptr n i off => exact plain h
    | dp cs => exact plain h
    | pnil => exact plain h
    | nilsl => exact plain h
    | nilf => exact plain h
    | nili => exact plain h
    | fn f a b => exact plain h
    | agg cs => exact plain h
    | tup cs => exact plain h
    | dead => exact plain h

theorem leaf1_one {g : G} {a : AV} {v : Value} (h : VR g a v) (hl : leaf1 a = true) : v.oneCell' = true := by
  cases a with
  | d t x =>
    cases t with
    | bool => rw [show v = _ from h]; rfl
    | int k => rw [show v = _ from h]; rfl
    | str => rw [show v = _ from h]; rfl
    | sl t => obtain ⟨_, A, c, e, _⟩ := h; cases e; rfl
    | arr n t => simp [leaf1] at hl
    | unit => exact h.elim
    | pair a b => exact h.elim
  | ptr n off => obtain ⟨p, z, _, rfl⟩ := h; rfl
  | eptr n i off => obtain ⟨p, z, u, _, _, rfl⟩ := h; rfl
  | dp cs => obtain ⟨ad, ws, rfl, _⟩ := h; rfl
  | pnil => rw [show v = _ from h]; rfl
  | nilsl => rw [show v = _ from h]; rfl
  | nilf => rw [show v = _ from h]; rfl
  | nili => rw [show v = _ from h]; rfl
  | row n => obtain ⟨z, _, h1⟩ := h; exact h1
  | fn f a b => obtain ⟨a', b', rfl, _⟩ := h; rfl
  | agg cs => simp [leaf1] at hl
  | tup cs => simp [leaf1] at hl
  | dead => simp [leaf1] at hl

theorem cells_one {v : Value} (h : v.oneCell' = true) : v.cells = #[v] := by cases v <;> first | rfl | simp [Value.oneCell'] at h

theorem leaves1 {g : G} : ∀ (cs : List AV) (vs : List Value), VRL g cs vs → cs.all leaf1 = true → ∀ u ∈ vs, u.oneCell' = true
  | [], [], _, _ => by simp
  | c :: cs, v :: vs, ⟨h1, h2⟩, ha => by
    simp only [List.all_cons, Bool.and_eq_true] at ha
    intro u hu
    rcases List.mem_cons.1 hu with rfl | hu
    · exact leaf1_one h1 ha.1
    · exact leaves1 cs vs h2 ha.2 u hu
  | [], _ :: _, h, _ => h.elim
  | _ :: _, [], h, _ => h.elim

/-- a value's cells -/
theorem cellsOf_sound {g : G} {a : AV} {v : Value} (h : VR g a v) (hl : (cellsOf a).all leaf1 = true) : VRL g (cellsOf a) v.cells.toList ∧ ∀ u ∈ v.cells.toList, u.oneCell' = true := by
  cases a with
  | agg cs =>
    obtain ⟨ws, rfl, hc, h1⟩ := h
    exact ⟨by simpa [cellsOf, Value.cells] using hc, by simpa [Value.cells] using h1⟩
  | _ =>
    all_goals
      simp only [cellsOf, List.all_cons, List.all_nil, Bool.and_true] at hl
      have h1 := leaf1_one h hl
      rw [cells_one h1]
      exact ⟨⟨h, trivial⟩, by simpa using h1⟩

theorem putCells_sound {g : G} : ∀ (cs : List AV) (ws : List Value) (off : Nat) (vs : List AV) (us : List Value), VRL g cs ws → VRL g vs us → off + vs.length ≤ cs.length →
    VRL g (putCells cs off vs) (ws.take off ++ us ++ ws.drop (off + us.length))
  | cs, ws, off, [], us, hc, hv, hl => by
    cases us with
    | nil => simpa [putCells] using hc
    | cons => exact hv.elim
  | [], ws, off, v :: vs, us, hc, hv, hl => by simp at hl
  | c :: cs, ws, 0, v :: vs, us, hc, hv, hl => by
    cases ws with
    | nil => exact hc.elim
    | cons w ws =>
      cases us with
      | nil => exact hv.elim
      | cons u us =>
        have ih := putCells_sound cs ws 0 vs us hc.2 hv.2 (by simp at hl ⊢; omega)
        simp only [putCells, List.take_zero, List.nil_append, Nat.zero_add, List.length_cons, List.cons_append, List.drop_succ_cons] at ih ⊢
        exact ⟨hv.1, ih⟩
  | c :: cs, ws, n + 1, v :: vs, us, hc, hv, hl => by
    cases ws with
    | nil => exact hc.elim
    | cons w ws =>
      have ih := putCells_sound cs ws n (v :: vs) us hc.2 hv (by simp at hl ⊢; omega)
      have e : n + 1 + us.length = n + us.length + 1 := by omega
      simp only [putCells, List.take_succ_cons, List.cons_append, e, List.drop_succ_cons]
      exact ⟨hc.1, ih⟩

theorem putCells_length : ∀ (cs : List AV) (off : Nat) (vs : List AV), off + vs.length ≤ cs.length → (putCells cs off vs).length = cs.length
  | cs, off, [], hl => by simp [putCells]
  | [], off, v :: vs, hl => by simp at hl
  | c :: cs, 0, v :: vs, hl => by simp only [putCells, List.length_cons]; rw [putCells_length cs 0 vs (by simp at hl ⊢; omega)]
  | c :: cs, n + 1, v :: vs, hl => by simp only [putCells, List.length_cons]; rw [putCells_length cs n (v :: vs) (by simp at hl ⊢; omega)]

theorem run_storeAt {t : TypeId} {i : TypeInfo} {w : World} (hi : P.info? t = some i) (b o : Nat) (ty : TypeId) (cur : Array Value) (v : Value) (hh : w.heap[b]? = some (.cells cur ty (0, 0)))
    (hs : v.cells.size = i.size) (hl : o + v.cells.size ≤ cur.size) (h1 : ∀ u ∈ v.cells.toList, u.oneCell' = true) :
    (Instr.storeAt t (.pointer (some ⟨b, o, none⟩)) v).run P w = .ok () (w.setRow b (cur.toList.take o ++ v.cells.toList ++ cur.toList.drop (o + v.cells.size)).toArray) := by
  have := run_storeCells_at P b o ty v.cells.toList 0 cur w hh (by simpa using hl) h1
  simp only [Nat.add_zero, Array.length_toList] at this
  simp [Instr.storeAt, Instr.sureAddr, storeVar, run_sizeD hi, hs, this]

theorem setRow_same (w : World) (b : Nat) (cs : Array Value) : (w.setRow b cs).os = w.os ∧ (w.setRow b cs).tape = w.tape ∧ (w.setRow b cs).output = w.output ∧ w.heap.size ≤ (w.setRow b cs).heap.size := by
  refine ⟨rfl, rfl, rfl, by simp⟩

/-- a store of cells into a box -/
theorem box_store {B : Base} {g : G} {o : Objs} {w : World} (hw : WInv B g o w) {n : Nat} {cs : List AV} (hn : o n = some (.box cs)) (off : Nat) (vs : List AV) (us : List Value)
    (hv : VRL g vs us) (h1 : ∀ u ∈ us, u.oneCell' = true) (hl : off + vs.length ≤ cs.length) :
    ∃ b ws ty, g.E n = some (.pointer (some ⟨b, 0, none⟩), 1) ∧ w.heap[b]? = some (.cells (List.toArray ws) ty (0, 0)) ∧ ws.length = cs.length ∧
      WInv B g (upd o n (.box (putCells cs off vs))) (w.setRow b (ws.take off ++ us ++ ws.drop (off + us.length)).toArray) := by
  obtain ⟨b, ws, ty, hE, hh, hc, hone, hm⟩ := hw.objs n _ hn
  have hlen := VRL_length hc
  have hlen2 := VRL_length hv
  refine ⟨b, ws, ty, hE, hh, hlen.symm, ?_⟩
  have hb : blkOf g n = some b := by simp [blkOf, hE, baseOf]
  have hnew : (w.setRow b (ws.take off ++ us ++ ws.drop (off + us.length)).toArray).heap[b]? = some (.cells (ws.take off ++ us ++ ws.drop (off + us.length)).toArray ty (0, 0)) := setRow_heap w b _ _ ty (0, 0) hh
  refine hw.put n (.box (putCells cs off vs)) (GE.refl g) (fun _ _ => rfl) ?_ (setRow_same w b _) ?_ rfl ?_ ?_
  · refine ⟨b, _, ty, hE, hnew, putCells_sound cs ws off vs us hc hv hl, fun u hu => ?_, hm⟩
    simp only [List.mem_append] at hu
    rcases hu with (hu | hu) | hu
    · exact hone u (List.mem_of_mem_take hu)
    · exact h1 u hu
    · exact hone u (List.mem_of_mem_drop hu)
  · intro k hk hx
    exact setRow_other w b k _ (fun e => hx _ hn rfl (by rw [hb, e]))
  · rintro k a v ⟨x, _, _, hk⟩ hab ha
    rw [hb] at hk
    cases hk
    rw [hm a hab] at ha
    cases ha
  · intro k _ hk
    exact .inr ⟨_, hn, rfl, hk⟩

theorem RR_set {M : Mem} (t : Ty) : ∀ (l : List t.I) (ws : List Value) (i : Nat) (y : t.I) (a : List Value), RR M t l ws → CR M t y a → i < l.length →
    RR M t (l.set i y) (ws.take (i * t.sz) ++ a ++ ws.drop (i * t.sz + t.sz))
  | [], ws, i, y, a, h, hy, hi => by simp at hi
  | x :: l, ws, 0, y, a, ⟨u, v, e, h1, h2⟩, hy, hi => by
    have hu := CR_length t x u h1
    refine ⟨a, v, ?_, hy, h2⟩
    rw [e]
    simp [← hu]
  | x :: l, ws, i + 1, y, a, ⟨u, v, e, h1, h2⟩, hy, hi => by
    have hu := CR_length t x u h1
    refine ⟨u, _, ?_, h1, RR_set t l v i y a h2 hy (by simpa using hi)⟩
    have e1 : (i + 1) * t.sz = u.length + i * t.sz := by rw [Nat.add_mul, hu]; omega
    rw [e, e1, List.take_append, List.take_of_length_le (by omega), Nat.add_sub_cancel_left, List.append_assoc, List.append_assoc]
    rw [Nat.add_assoc, List.drop_append, List.drop_of_length_le (by omega), List.nil_append, Nat.add_sub_cancel_left, List.append_assoc]

/-- what lies in a row behind a store of cells inside one element -/
theorem seg_eq (ws us : List Value) (i sz off : Nat) (hi : i * sz + sz ≤ ws.length) (ho : off + us.length ≤ sz) :
    ws.take (i * sz) ++ (((ws.drop (i * sz)).take sz).take off ++ us ++ ((ws.drop (i * sz)).take sz).drop (off + us.length)) ++ ws.drop (i * sz + sz) =
    ws.take (i * sz + off) ++ us ++ ws.drop (i * sz + off + us.length) := by
  have e1 : ((ws.drop (i * sz)).take sz).take off = (ws.drop (i * sz)).take off := by rw [List.take_take, Nat.min_eq_left (by omega)]
  have e2 : ((ws.drop (i * sz)).take sz).drop (off + us.length) ++ ws.drop (i * sz + sz) = ws.drop (i * sz + off + us.length) := by
    rw [List.drop_take, List.drop_drop]
    have e3 : ws.drop (i * sz + sz) = (ws.drop (i * sz + (off + us.length))).drop (sz - (off + us.length)) := by
      rw [List.drop_drop]; congr 1; omega
    rw [e3, List.take_append_drop, Nat.add_assoc]
  rw [e1, List.append_assoc, List.append_assoc, List.append_assoc, e2, ← List.append_assoc, ← List.take_add]
  simp [List.append_assoc]

theorem TOk.ok {Θ : Nat → TD} (h : TOk P Θ) {t : Nat} (hk : okK (Θ t).k = true) : TRow P t (Θ t) := h.get t (by intro e; rw [e] at hk; cases hk)

/-- a store of cells into an element of a row -/
theorem row_store {B : Base} {g : G} {o : Objs} {w : World} (hw : WInv B g o w) {n e : Nat} {t : Ty} {l : List t.I} (hn : o n = some (.row e t l false)) {x : t.I} {i : Int} (hi : idx l i = some x)
    (off : Nat) (vs : List AV) (us : List Value) (hv : VRL g vs us) (h1 : ∀ u ∈ us, u.oneCell' = true) (hl : off + vs.length ≤ t.sz) (y : t.I) {R : Type} (κ : t.I → List AV → Option R) (r : R)
    (hp : packK t (putCells (leaves t x) off vs) κ = some r) :
    ∃ y rest b cap cur, κ y rest = some r ∧ g.E n = some (.slice (some ⟨b, 0, none⟩) l.length cap, t.sz) ∧ w.heap[b]? = some (.cells cur e (0, 0)) ∧ i.toNat * t.sz + off + us.length ≤ cur.size ∧
      WInv B g (upd o n (.row e t (l.set i.toNat y) false)) (w.setRow b (cur.toList.take (i.toNat * t.sz + off) ++ us ++ cur.toList.drop (i.toNat * t.sz + off + us.length)).toArray) := by
  obtain ⟨v', ws, hE, hf, ho, hr, hm⟩ := hw.objs n _ hn
  have hlen := RR_length t l ws hr
  have hul := VRL_length hv
  unfold idx at hi
  split at hi
  case isFalse => cases hi
  rename_i h0
  have hlt : i.toNat < l.length := (List.getElem?_eq_some_iff.1 hi).1
  have hmul : i.toNat * t.sz + t.sz ≤ l.length * t.sz := by
    have : (i.toNat + 1) * t.sz ≤ l.length * t.sz := Nat.mul_le_mul_right _ hlt
    rw [Nat.add_mul] at this; omega
  obtain ⟨a, hca, hal, had⟩ := RR_get t l ws hr i.toNat x hi
  have hlv := leaves_VRL t x a hf hca
  have hll := leaves_length t x hf
  have hput := putCells_sound (leaves t x) a off vs us hlv hv (by omega)
  obtain ⟨y, rest, v1, v2, hk, e1, hcy, hrest⟩ := packK_sound t _ _ κ r hf hp hput
  have hv2 : v2 = [] := by
    have h3 := CR_length t y v1 hcy
    have h4 : (v1 ++ v2).length = t.sz := by rw [← e1]; simp; omega
    rw [List.length_append, h3] at h4
    exact List.eq_nil_of_length_eq_zero (by omega)
  rw [hv2, List.append_nil] at e1
  rcases ho.2 with ⟨rfl, h00⟩ | ⟨b, cap, cur, rfl, _, hh, hnc, hcm, hcs, htk⟩
  · omega
  have hws : ws.length ≤ cur.size := by rw [hlen, hcs]; exact Nat.mul_le_mul_right _ hnc
  refine ⟨y, rest, b, cap, cur, hk, hE, hh, by omega, ?_⟩
  have hb : blkOf g n = some b := by simp [blkOf, hE, baseOf]
  have hseg := seg_eq ws us i.toNat t.sz off (by omega) (by omega)
  have hset := RR_set t l ws i.toNat y v1 hr hcy hlt
  rw [← e1, had.symm, hseg] at hset
  have hnew := setRow_heap w b cur (cur.toList.take (i.toNat * t.sz + off) ++ us ++ cur.toList.drop (i.toNat * t.sz + off + us.length)).toArray e (0, 0) hh
  refine hw.put n _ (GE.refl g) (fun _ _ => rfl) ?_ (setRow_same w b _) ?_ rfl ?_ ?_
  · refine ⟨.slice (some ⟨b, 0, none⟩) l.length cap, _, hE, hf, ?_, hset, ?_⟩
    · rw [List.length_set]
      refine ⟨by simp; omega, .inr ⟨b, cap, _, rfl, Nat.zero_le _, hnew, hnc, hcm, ?_, ?_⟩⟩
      · simp; omega
      · obtain ⟨tl, hc⟩ : ∃ tl, cur.toList = ws ++ tl := ⟨cur.toList.drop (l.length * t.sz), by rw [← htk, List.take_append_drop]⟩
        have hc2 : cur.toList.take (i.toNat * t.sz + off) ++ us ++ cur.toList.drop (i.toNat * t.sz + off + us.length) = (ws.take (i.toNat * t.sz + off) ++ us ++ ws.drop (i.toNat * t.sz + off + us.length)) ++ tl := by
          rw [hc, List.take_append_of_le_length (by omega), List.drop_append_of_le_length (by omega)]
          simp only [List.append_assoc]
        simp only [hc2]
        rw [List.take_left' (by simp; omega)]
    · intro a ha hc
      rw [List.length_set] at hc
      exact hm a ha (.inl rfl)
  · intro k hk hx
    exact setRow_other w b k _ (fun e => hx _ hn rfl (by rw [hb, e]))
  · rintro k a v ⟨x, _, _, hk⟩ hab ha
    rw [hb] at hk
    cases hk
    rw [hm a (by simp [Value.ownBlock, hab]) (.inl rfl)] at ha
    cases ha
  · intro k _ hk
    exact .inr ⟨_, hn, rfl, hk⟩

theorem arr_put {B : Base} {g : G} {o : Objs} {w : World} (hw : WInv B g o w) {n m : Nat} {t : Ty} {l : List t.I} (hn : o n = some (.arr m t l)) {b : Nat} {ws : List Value} {ty : TypeId}
    (hE : g.E n = some (.pointer (some ⟨b, 0, none⟩), t.sz)) (hf : t.flat = true) (hh : w.heap[b]? = some (.cells ws.toArray ty (0, 0))) (hm : ∀ a : Addr, a.block = b → g.M a = none)
    (l' : List t.I) (ws' : List Value) (hl : l'.length = m) (hr : RR g.M t l' ws') : WInv B g (upd o n (.arr m t l')) (w.setRow b ws'.toArray) := by
  have hb : blkOf g n = some b := by simp [blkOf, hE, baseOf]
  refine hw.put n _ (GE.refl g) (fun _ _ => rfl) ⟨b, ws', ty, hE, ⟨hf, hl⟩, setRow_heap w b _ _ ty (0, 0) hh, hr, hm⟩ (setRow_same w b _) ?_ rfl ?_ ?_
  · intro k hk hx
    exact setRow_other w b k _ (fun e => hx _ hn rfl (by rw [hb, e]))
  · rintro k a v ⟨x, _, _, hk⟩ hab ha
    rw [hb] at hk
    cases hk
    rw [hm a hab] at ha
    cases ha
  · intro k _ hk
    exact .inr ⟨_, hn, rfl, hk⟩

theorem storeK_sound {R : Type} {Θ : Nat → TD} (hΘ : TOk P Θ) {B : Base} {g : G} {o : Objs} {w : World} (hw : WInv B g o w) (t : Nat) (x a : AV) (xv v : Value) (κ : Objs → Option R) (r : R)
    (h : storeK Θ t x a o κ = some r) (hx : VR g x xv) (ha : VR g a v) : ∃ o' g' w', κ o' = some r ∧ WInv B g' o' w' ∧ GE g g' ∧ (Instr.storeAt t xv v).run P w = .ok () w' := by
  unfold storeK at h
  split at h
  · rename_i n off
    obtain ⟨p, z, hE, rfl⟩ := hx
    split at h
    · rename_i cs hn
      split at h
      · rename_i hc
        obtain ⟨hok, hsz, hle, hl1⟩ := hc
        obtain ⟨hv, h1⟩ := cellsOf_sound ha hl1
        obtain ⟨b, ws, ty, hE2, hh, hlen, hw'⟩ := box_store hw hn off _ _ hv h1 hle
        rw [hE2] at hE
        cases hE
        have hvl := VRL_length hv
        obtain ⟨i, d, z, hi, hu, hk, hs, _⟩ := (hΘ.ok hok).row
        refine ⟨_, g, _, h, hw', GE.refl g, ?_⟩
        have := run_storeAt (P := P) (t := t) hi b off ty ws.toArray v hh (by rw [← hs, ← hsz, hvl]; simp) (by simp at hvl ⊢; omega) h1
        rw [add_at, this]
        simp
      · cases h
    · rename_i m e l hn
      split at h
      · rename_i m' e' l'
        split at h
        · rename_i he
          subst he
          split at h
          · rename_i hc
            obtain ⟨hok, rfl, hsz, rfl⟩ := hc
            obtain ⟨b, ws, ty, hE2, ⟨hf, hlm⟩, hh, hr, hm⟩ := hw.objs n _ hn
            rw [hE2] at hE
            cases hE
            obtain ⟨_, hlm', ws', rfl, hr'⟩ := ha
            obtain ⟨i, d, z, hi, hu, hk, hs, _⟩ := (hΘ.ok hok).row
            have hlw := RR_length _ l ws hr
            have hlw' := RR_length _ l' ws' hr'
            refine ⟨_, g, _, h, arr_put hw hn hE2 hf hh hm l' ws' hlm' hr', GE.refl g, ?_⟩
            have := run_storeAt (P := P) (t := t) hi b 0 ty ws.toArray (.agg ws'.toArray) hh (by rw [← hs, hsz, ← hlm', ← hlw']; simp [Value.cells]) (by simp [Value.cells]; rw [hlw', hlw, hlm, hlm']; omega) (by simpa [Value.cells] using RR_one _ l' ws' hr')
            rw [add_at, this]
            have e3 : ws.length ≤ ws'.length := by rw [hlw', hlw, hlm, hlm']; omega
            simp [Value.cells, List.drop_of_length_le e3]
          · cases h
        · cases h
      · cases h
    · cases h
  · rename_i n i off
    obtain ⟨p, z, u0, hE, hb, rfl⟩ := hx
    split at h
    case isFalse => cases h
    rename_i hl1
    obtain ⟨hv, h1⟩ := cellsOf_sound ha hl1
    obtain ⟨cs', o', g', hk, hv', hw', hg, hgE⟩ := resolveK_sound _ _ g o _ r h hv hw
    have hvl := VRL_length hv'
    split at hk
    · rename_i el e l hn
      split at hk
      · rename_i x hi
        split at hk
        · rename_i hc
          obtain ⟨hok, hsz, hle⟩ := hc
          obtain ⟨y, rest, b, cap, cur, hk2, hE2, hh, hlt, hw2⟩ := row_store hw' hn hi off cs' _ hv' h1 hle x _ r hk
          rw [hgE, hE] at hE2
          cases hE2
          cases hb
          obtain ⟨ii, d, z, hii, hu, hkk, hs, _⟩ := (hΘ.ok hok).row
          refine ⟨_, g', _, hk2, hw2, hg, ?_⟩
          have := run_storeAt (P := P) (t := t) hii b (i.toNat * e.sz + off) el cur v hh (by rw [← hs, ← hsz, hvl]; simp) (by simpa using hlt) h1
          rw [add_at, this]
          simp
        · cases hk
      · cases hk
    · rename_i m e l hn
      split at hk
      · rename_i x hi
        split at hk
        · rename_i hc
          obtain ⟨hok, hsz, hle⟩ := hc
          obtain ⟨b, ws, ty, hE2, ⟨hf, hlm⟩, hh, hr, hm⟩ := hw'.objs n _ hn
          have hE3 := hE2
          rw [hgE, hE] at hE3
          cases hE3
          cases hb
          unfold idx at hi
          split at hi
          case isFalse => cases hi
          have hlt : i.toNat < l.length := (List.getElem?_eq_some_iff.1 hi).1
          obtain ⟨a', hca, hal, had⟩ := RR_get e l ws hr i.toNat x hi
          have hll := leaves_length e x hf
          have hput := putCells_sound (leaves e x) a' off cs' _ (leaves_VRL e x a' hf hca) hv' (by omega)
          obtain ⟨y, rest, v1, v2, hk2, e1, hcy, hrest⟩ := packK_sound e _ _ _ r hf hk hput
          have hv2 : v2 = [] := by
            have h3 := CR_length e y v1 hcy
            have h4 : (v1 ++ v2).length = e.sz := by rw [← e1]; simp at hvl ⊢; omega
            rw [List.length_append, h3] at h4
            exact List.eq_nil_of_length_eq_zero (by omega)
          rw [hv2, List.append_nil] at e1
          have hlen := RR_length e l ws hr
          have hmul : i.toNat * e.sz + e.sz ≤ l.length * e.sz := by
            have : (i.toNat + 1) * e.sz ≤ l.length * e.sz := Nat.mul_le_mul_right _ hlt
            rw [Nat.add_mul] at this; omega
          have hset := RR_set e l ws i.toNat y v1 hr hcy hlt
          have hseg := seg_eq ws v.cells.toList i.toNat e.sz off (by omega) (by omega)
          rw [← e1, had.symm, hseg] at hset
          obtain ⟨ii, d, z, hii, hu, hkk, hs, _⟩ := (hΘ.ok hok).row
          refine ⟨_, g', _, hk2, arr_put hw' hn hE2 hf hh hm _ _ (by rw [List.length_set]; exact hlm) hset, hg, ?_⟩
          have := run_storeAt (P := P) (t := t) hii b (i.toNat * e.sz + off) ty ws.toArray v hh (by rw [← hs, ← hsz, hvl]; simp) (by simp at hvl ⊢; omega) h1
          rw [add_at, this]
          simp
        · cases hk
      · cases hk
    · cases hk
  · cases h
end Go.Den
