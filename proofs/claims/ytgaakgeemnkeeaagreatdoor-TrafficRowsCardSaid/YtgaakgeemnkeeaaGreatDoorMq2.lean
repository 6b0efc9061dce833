/- traffic.Rows: the walk. -/
import Derived.Test.YtgaakgeemnkeeaaGreatDoorMq1
import Derived.Maps.OwnOps
import Derived.Maps.RangeWalk
set_option linter.unusedVariables false
set_option linter.unusedSimpArgs false
namespace Go.Proofs.YtgaakgeemnkeeaaGreatDoor
open Go.Den Go.RowKit
def oldE (es : List Ent) (g k : Int) : Int × Int × Int × Int := match findE g k es 0 with
  | some (_, e) => (e.g, e.k, e.n, e.b)
  | none => (0, 0, 0, 0)
theorem wpList_lookup_ent (w : World) {ops : Array Oper} {rest : List Oper} {o : Oper} {a : Act} {Q : Exit → Act → World → Prop}
    (hg : o.guard = none) (m x : Operand) (hop : o.op = Op.lookup 51 m x false) (b : Nat) (es : List Ent) (clock : Nat) (hm : a.eval m = .map (some b)) (hb : w.heap[b]? = some (.map (es.map entV).toArray clock)) (g k : Int) (hx : a.eval x = .agg #[.int .i64 g, .int .i64 k])
    (hK : wpList Tryz.prog ops Q rest (a.put o.dst (.agg #[.int .i64 (oldE es g k).1, .int .i64 (oldE es g k).2.1, .int .i64 (oldE es g k).2.2.1, .int .i64 (oldE es g k).2.2.2])) w) :
    wpList Tryz.prog ops Q (o :: rest) a w := by
  refine wpList_plain hg fun K' hK' => ?_
  have hr : (Instr.lookup 51 (.map (some b)) (.agg #[.int .i64 g, .int .i64 k]) false).run Tryz.prog w = .ok (.agg #[.int .i64 (oldE es g k).1, .int .i64 (oldE es g k).2.1, .int .i64 (oldE es g k).2.2.1, .int .i64 (oldE es g k).2.2.2]) w := by
    refine (run_lookup g k w b es clock hb).trans ?_
    unfold oldE
    cases findE g k es 0 <;> rfl
  unfold Oper.wp
  simp only [execOp, hop, hm, hx, Sem.run_bind, Sem.run_pure, hr, Result.andThen]
  exact hK' _ _ hK
theorem wpList_store_ent (w : World) {ops : Array Oper} {rest : List Oper} {o : Oper} {a : Act} {Q : Exit → Act → World → Prop}
    (hg : o.guard = none) (m x v : Operand) (hop : o.op = Op.mapUpdate 51 m x v) (b : Nat) (es : List Ent) (hm : a.eval m = .map (some b)) (hb : w.heap[b]? = some (.map (es.map entV).toArray es.length)) (g k n c : Int) (hx : a.eval x = .agg #[.int .i64 g, .int .i64 k]) (hv : a.eval v = .agg #[.int .i64 g, .int .i64 k, .int .i64 n, .int .i64 c])
    (hK : ∀ w1 : World, w1.heap[b]? = some (.map ((stepE es g k n c).map entV).toArray (stepE es g k n c).length) → w.grownBy w1 (some b) → wpList Tryz.prog ops Q rest (a.put o.dst undef) w1) :
    wpList Tryz.prog ops Q (o :: rest) a w := by
  refine wpList_plain hg fun K' hK' => ?_
  have hr := run_mapUpdate g k n c w b es hb
  unfold keyV valV at hr
  unfold Oper.wp
  simp only [execOp, hop, hm, hx, hv, Sem.run_bind, Sem.run_pure, hr, Result.andThen]
  have hlt : b < w.heap.size := (Array.getElem?_eq_some_iff.1 hb).1
  refine hK' _ _ (hK _ ?_ ⟨rfl, rfl, rfl, by simp [ChangeMaps.setBlock], fun j hj hne => ?_⟩)
  · simp [ChangeMaps.setBlock, hlt]
  · have : b ≠ j := fun e => hne (by rw [e])
    simp [ChangeMaps.setBlock, Array.getElem?_setIfInBounds, this]
theorem add_block (A : Addr) (n : Nat) : (A.add n).block = A.block := by unfold Addr.add; split <;> rfl
theorem add_more (A : Addr) (n j : Nat) (h : 0 < j) : A.add (n + j) = { block := (A.add n).block, off := (A.add n).off + j } := by
  unfold Addr.add
  rw [if_neg (by omega)]
  split
  · rename_i h0; subst h0; simp
  · simp; omega
/-- what is known of the first letters -/
def accE (kg kk : Nat → Int) (dl : Nat → Nat) : Nat → List Ent
  | 0 => []
  | k + 1 => stepE (accE kg kk dl k) (kg k) (kk k) ((oldE (accE kg kk dl k) (kg k) (kk k)).2.2.1 + 1) ((oldE (accE kg kk dl k) (kg k) (kk k)).2.2.2 + dl k)
theorem oldE_in {p : Int → Int → Prop} (h0 : p 0 0) (es : List Ent) (h : ∀ e ∈ es, p e.n e.b) (g k : Int) : p (oldE es g k).2.2.1 (oldE es g k).2.2.2 := by
  unfold oldE
  cases hf : findE g k es 0 with
  | none => exact h0
  | some x =>
    obtain ⟨i, e⟩ := x
    obtain ⟨_, h2, _, _⟩ := findE_at g k es 0 i e hf
    exact h e (List.mem_of_getElem? h2)
theorem modify_mem (f : Ent → Ent) : ∀ (es : List Ent) (i : Nat) (x : Ent), x ∈ es.modify i f → x ∈ es ∨ ∃ y ∈ es, x = f y
  | [], i, x, h => by cases i <;> cases h
  | e :: es, 0, x, h => by
    simp only [List.modify_zero_cons] at h
    rcases List.mem_cons.1 h with h | h
    · exact .inr ⟨e, List.mem_cons_self, h⟩
    · exact .inl (List.mem_cons_of_mem _ h)
  | e :: es, i + 1, x, h => by
    simp only [List.modify_succ_cons] at h
    rcases List.mem_cons.1 h with h | h
    · exact .inl (by rw [h]; exact List.mem_cons_self)
    · rcases modify_mem f es i x h with h | ⟨y, hy, h⟩
      · exact .inl (List.mem_cons_of_mem _ h)
      · exact .inr ⟨y, List.mem_cons_of_mem _ hy, h⟩
theorem stepE_in {p : Int → Int → Prop} (es : List Ent) (h : ∀ e ∈ es, p e.n e.b) (g k n b : Int) (hp : p n b) : ∀ e ∈ stepE es g k n b, p e.n e.b := by
  intro e he
  unfold stepE at he
  split at he
  · rcases modify_mem _ es _ e he with h1 | ⟨y, _, rfl⟩
    · exact h e h1
    · exact hp
  · rcases List.mem_append.1 he with h1 | h1
    · exact h e h1
    · rw [List.mem_singleton.1 h1]; exact hp
theorem accE_in (kg kk : Nat → Int) (dl : Nat → Nat) (len : Nat) (hd : ∀ i, i < len → dl i ≤ 1000000) : ∀ k, k ≤ len → ∀ e ∈ accE kg kk dl k, (0 ≤ e.n ∧ e.n ≤ k) ∧ (0 ≤ e.b ∧ e.b ≤ 1000000 * k)
  | 0, _, e, he => by cases he
  | k + 1, hk, e, he => by
    have ih := accE_in kg kk dl len hd k (by omega)
    have hd := hd k (by omega)
    have ho := oldE_in (p := fun n b => (0 ≤ n ∧ n ≤ k) ∧ (0 ≤ b ∧ b ≤ 1000000 * k)) ⟨⟨by omega, by omega⟩, by omega, by omega⟩ (accE kg kk dl k) ih (kg k) (kk k)
    exact stepE_in (p := fun n b => (0 ≤ n ∧ n ≤ ((k + 1 : Nat) : Int)) ∧ (0 ≤ b ∧ b ≤ 1000000 * ((k + 1 : Nat) : Int))) (accE kg kk dl k) (fun e he => by have := ih e he; omega) (kg k) (kk k) _ _ (by omega) e he
theorem after_map {wr w' : World} {o o' : Obj} {b : Nat} (hB : Below (wr.alloc o).heap.size (wr.alloc o) w') (h : wr.heap[b]? = some o') : w'.heap[b]? = some o' := by
  have hlt : b < wr.heap.size := (Array.getElem?_eq_some_iff.1 h).1
  exact (hB.block b (by simp; omega)).trans ((heap_alloc_old wr o hlt).trans h)
theorem after_cell {wr w' : World} {xs : Array Value} {t : TypeId} {j : Nat} {v : Value} (hB : Below (wr.alloc (.cells xs t)).heap.size (wr.alloc (.cells xs t)) w') (h : xs[j]? = some v) : w'.cell? ⟨wr.heap.size, j, none⟩ = some v := by
  rw [hB.cell (by simp), World.cell?_alloc_at _ _ _ _ rfl]
  exact h
theorem after_size {wr w' : World} {o : Obj} (hB : Below (wr.alloc o).heap.size (wr.alloc o) w') : wr.heap.size < w'.heap.size ∧ wr.heap.size < w'.heap.size + 1 := by
  have := hB.size
  simp at this
  omega
theorem modify_born (f : Ent → Ent) (hf : ∀ e, (f e).born = e.born) : ∀ (es : List Ent) (i : Nat), (es.modify i f).map (·.born) = es.map (·.born)
  | [], i => by cases i <;> rfl
  | e :: es, 0 => by simp [hf]
  | e :: es, i + 1 => by simpa using modify_born f hf es i
theorem stepE_born (es : List Ent) (g k n b : Int) (h : es.map (·.born) = List.range es.length) : (stepE es g k n b).map (·.born) = List.range (stepE es g k n b).length := by
  unfold stepE
  split
  · rw [List.length_modify, ← h]
    exact modify_born (fun e => { e with g := g, k := k, n := n, b := b }) (fun e => rfl) es _
  · rw [List.map_append, List.length_append, h, List.map_singleton, List.length_singleton, List.range_succ]
theorem accE_born (kg kk : Nat → Int) (dl : Nat → Nat) : ∀ k, (accE kg kk dl k).map (·.born) = List.range (accE kg kk dl k).length
  | 0 => rfl
  | k + 1 => stepE_born _ _ _ _ _ (accE_born kg kk dl k)
/-- the loop over the entries: r is the iterator's block, b the map's, S the entries that have come -/
structure RangeE (r b : Nat) (es S : List Ent) (w : World) : Prop where
  it : ∃ c0, es.length ≤ c0 ∧ w.heap[r]? = some (.mapIter (some b) es.length (S.map (·.born)).toArray c0)
  mp : w.heap[b]? = some (.map (es.map entV).toArray es.length)
  sub : ∀ e ∈ S, e ∈ es
  nd : (S.map (·.born)).Nodup
theorem RangeE.kept {r b : Nat} {es S : List Ent} {w w' : World} (h : RangeE r b es S w) {row : Option Nat} (hg : w.grownBy w' row) (hr : row ≠ some r) (hb : row ≠ some b) : RangeE r b es S w' := by
  obtain ⟨⟨c0, h1, h2⟩, h3, h4, h5⟩ := h
  exact ⟨⟨c0, h1, (hg.block r (Array.getElem?_eq_some_iff.1 h2).1 hr.symm).trans h2⟩, (hg.block b (Array.getElem?_eq_some_iff.1 h3).1 hb.symm).trans h3, h4, h5⟩
theorem wpList_range_ent (w : World) {ops : Array Oper} {rest : List Oper} {o : Oper} {a : Act} {Q : Exit → Act → World → Prop} (hg : o.guard = none) (m : Operand) (hop : o.op = Op.range 51 m) (b : Nat) (es : List Ent)
    (hm : a.eval m = .map (some b)) (hb : w.heap[b]? = some (.map (es.map entV).toArray es.length))
    (hK : ∀ w', RangeE w.heap.size b es [] w' → w.grownBy w' none → w'.heap.size = w.heap.size + 1 → wpList Tryz.prog ops Q rest (a.put o.dst (.pointer (some ⟨w.heap.size, 0, none⟩))) w') :
    wpList Tryz.prog ops Q (o :: rest) a w := by
  refine wpList_plain hg fun K' hK' => ?_
  have hr := run_range_map (P := Tryz.prog) w 51 31 37 b _ _ Tryz.underlying51 hb
  unfold Oper.wp
  simp [execOp, hop, hm, hr, Result.andThen]
  have hlt : b < w.heap.size := (Array.getElem?_eq_some_iff.1 hb).1
  exact hK' _ _ (hK _ ⟨⟨_, Nat.le_refl _, heap_alloc_new w _⟩, (heap_alloc_old w _ hlt).trans hb, (fun e he => nomatch he), (by simp)⟩ (World.grownBy_alloc w _ none) (by simp))
theorem wpList_next_ent (w : World) {ops : Array Oper} {rest : List Oper} {o : Oper} {a : Act} {Q : Exit → Act → World → Prop} (hg : o.guard = none) (it : Operand) (hop : o.op = Op.next it false) (r b : Nat) (es S : List Ent) (hn : es.map (·.born) = List.range es.length) (hrb : r ≠ b)
    (hit : a.eval it = .pointer (some ⟨r, 0, none⟩)) (h : RangeE r b es S w)
    (hDone : (∀ e ∈ es, e ∈ S) → wpList Tryz.prog ops Q rest (a.put o.dst (.tuple #[.bool false])) w)
    (hMore : ∀ (e : Ent) (w' : World), e ∈ es → e ∉ S → RangeE r b es (S ++ [e]) w' → w.grownBy w' (some r) → w'.heap.size = w.heap.size →
      (Instr.entry (.pointer (some ⟨r, 0, none⟩))).run Tryz.prog w' = .ok (.tuple #[.agg #[.int .i64 e.g, .int .i64 e.k], .agg #[.int .i64 e.g, .int .i64 e.k, .int .i64 e.n, .int .i64 e.b]]) w' →
      wpList Tryz.prog ops Q rest (a.put o.dst (.tuple #[.bool true, .agg #[.int .i64 e.g, .int .i64 e.k], .agg #[.int .i64 e.g, .int .i64 e.k, .int .i64 e.n, .int .i64 e.b]])) w') :
    wpList Tryz.prog ops Q (o :: rest) a w := by
  refine wpList_plain hg fun K' hK' => ?_
  obtain ⟨⟨c0, h1, h2⟩, h3, h4, h5⟩ := h
  have hnd : (es.map (·.born)).Nodup := by rw [hn]; exact List.nodup_range
  have inj : ∀ {x y : Ent}, x ∈ es → y ∈ es → x.born = y.born → x = y := fun {x y} hx hy e => by
    obtain ⟨i, hi, rfl⟩ := List.getElem_of_mem hx
    obtain ⟨j, hj, rfl⟩ := List.getElem_of_mem hy
    have k : ∀ i (h : i < es.length), es[i].born = i := fun i h => by
      have h1 : (es.map (·.born))[i]'(by simpa using h) = (List.range es.length)[i]'(by simpa using h) := by simp only [hn]
      simpa using h1
    rw [k i hi, k j hj] at e
    subst e
    rfl
  have hold : ∀ x ∈ ((es.map entV).toArray).toList, x.born < es.length := by
    intro x hx
    obtain ⟨e, he, rfl⟩ := List.mem_map.1 (by simpa using hx)
    have : e.born ∈ es.map (·.born) := List.mem_map_of_mem he
    rw [hn, List.mem_range] at this
    exact this
  have hlt : r < w.heap.size := (Array.getElem?_eq_some_iff.1 h2).1
  unfold Oper.wp
  rcases run_next_at (P := Tryz.prog) w o.type r b es.length c0 _ _ _ h2 h3 hold h1 with ⟨h0, hrun⟩ | ⟨x, hx, w1, hw1, hrun⟩
  · simp only [execOp, hop, hit, Sem.run_bind, Sem.run_pure, hrun, Result.andThen]
    refine hK' _ _ (hDone fun e he => ?_)
    have hz : leftOf (es.map entV).toArray (S.map (·.born)).toArray = #[] := Array.eq_empty_of_size_eq_zero h0
    have hc : (S.map (·.born)).toArray.contains e.born = true := Classical.byContradiction fun hc => by
      have : entV e ∈ leftOf (es.map entV).toArray (S.map (·.born)).toArray := by
        unfold leftOf
        rw [Array.mem_filter]
        exact ⟨by simpa using ⟨e, he, rfl⟩, by simpa [entV] using hc⟩
      rw [hz] at this
      simp at this
    have hm : e.born ∈ S.map (·.born) := by simpa using hc
    obtain ⟨y, hy, hyb⟩ := List.mem_map.1 hm
    rw [← inj (h4 y hy) he hyb]
    exact hy
  · simp only [execOp, hop, hit, Sem.run_bind, Sem.run_pure, hrun, Result.andThen]
    have hx' : (∃ a, a ∈ es ∧ entV a = x) ∧ ∀ y, y ∈ S → ¬ y.born = x.born := by simpa [leftOf] using hx
    obtain ⟨⟨e, he, rfl⟩, hx2⟩ := hx'
    have hns : e.born ∉ S.map (·.born) := fun hm => by
      obtain ⟨y, hy, hyb⟩ := List.mem_map.1 hm
      exact hx2 y hy hyb
    have hheap : w1.heap = w.heap := by rcases hw1 with rfl | rfl <;> rfl
    have hr' : (ChangeMaps.setBlock w1 r (.mapIter (some b) es.length ((S.map (·.born)).toArray.push (entV e).born) es.length)).heap[r]? = some (.mapIter (some b) es.length ((S.map (·.born)).toArray.push (entV e).born) es.length) := by
      simp [ChangeMaps.setBlock, hheap, hlt]
    have hb' : (ChangeMaps.setBlock w1 r (.mapIter (some b) es.length ((S.map (·.born)).toArray.push (entV e).born) es.length)).heap[b]? = some (.map (es.map entV).toArray es.length) := by
      simp only [ChangeMaps.setBlock, hheap, Array.getElem?_setIfInBounds, if_neg hrb]
      exact h3
    have hen := run_entry_at (P := Tryz.prog) _ r b es.length _ _ es.length (entV e) hr' hb' (by simpa using ⟨e, he, rfl⟩) (by simpa [entV, Function.comp_def] using hnd)
    refine hK' _ _ (hMore e _ he (fun hS => hns (List.mem_map_of_mem hS)) ⟨⟨es.length, Nat.le_refl _, ?_⟩, hb', ?_, ?_⟩ ?_ ?_ hen)
    · rw [hr']
      simp [entV]
    · intro y hy
      rcases List.mem_append.1 hy with hy | hy
      · exact h4 y hy
      · rw [List.mem_singleton.1 hy]; exact he
    · rw [List.map_append, List.map_singleton]
      exact List.nodup_append.2 ⟨h5, by simp, fun x hx y hy => by rw [List.mem_singleton.1 hy]; exact fun e => hns (e ▸ hx)⟩
    · have hos : w1.os = w.os ∧ w1.tape = w.tape ∧ w1.output = w.output := by rcases hw1 with rfl | rfl <;> exact ⟨rfl, rfl, rfl⟩
      refine ⟨hos.1, hos.2.1, hos.2.2, by simp [ChangeMaps.setBlock, hheap], fun j hj hne => ?_⟩
      have : r ≠ j := fun e => hne (by rw [e])
      simp [ChangeMaps.setBlock, hheap, Array.getElem?_setIfInBounds, this]
    · simp [ChangeMaps.setBlock, hheap]
end Go.Proofs.YtgaakgeemnkeeaaGreatDoor
