/- traffic.Rows: the walk. -/
import Derived.Test.YtgaakgeemnkeeaaGreatDoorMq4
set_option linter.unusedVariables false
set_option linter.unusedSimpArgs false
namespace Go.Proofs.YtgaakgeemnkeeaaGreatDoor
open Go.RowKit Go.Shelf Go.Lib
def toR (e : Ent) : R4 := (e.g, e.k, e.n, e.b)
def sliceLen : Value → Nat
  | .slice _ n _ => n
  | _ => 0
theorem own_len {w : World} {base e size n : Nat} {v : Value} {xs : List Value} (h : w.ownsRow base e size v n xs) : sliceLen v = n := by
  rcases h.2 with ⟨rfl, rfl⟩ | ⟨g, cap, cur, rfl, _⟩ <;> rfl
theorem own_mono {w : World} {base base' e size n : Nat} {v : Value} {xs : List Value} (h : w.ownsRow base e size v n xs) (hb : base' ≤ base) : w.ownsRow base' e size v n xs := by
  refine ⟨h.1, ?_⟩
  rcases h.2 with h2 | ⟨g, cap, cur, h1, h2, h3⟩
  · exact .inl h2
  · exact .inr ⟨g, cap, cur, h1, Nat.le_trans hb h2, h3⟩
theorem own_block {w : World} {base e size n : Nat} {v : Value} {xs : List Value} (h : w.ownsRow base e size v n xs) (b : Nat) (hb : b < base) : v.ownBlock ≠ some b := by
  rcases h.2 with ⟨rfl, _⟩ | ⟨g, cap, cur, rfl, h2, _⟩
  · intro e; cases e
  · intro e
    have := Option.some.inj e
    simp at this
    omega
theorem nodup_bound : ∀ (n : Nat) (l : List Nat), l.Nodup → (∀ x ∈ l, x < n) → l.length ≤ n
  | 0, l, _, h => by
    cases l with
    | nil => exact Nat.le_refl _
    | cons x l => exact absurd (h x List.mem_cons_self) (Nat.not_lt_zero _)
  | n + 1, l, hn, h => by
    have h1 : (l.erase n).length ≤ n := nodup_bound n (l.erase n) (hn.erase n) fun x hx => by
      have := (hn.mem_erase_iff).1 hx
      have := h x this.2
      omega
    by_cases hm : n ∈ l
    · rw [List.length_erase_of_mem hm] at h1
      omega
    · rw [List.erase_of_not_mem hm] at h1
      omega
theorem range_len {r b : Nat} {es S : List Ent} {w : World} (hn : es.map (·.born) = List.range es.length) (h : RangeE r b es S w) : S.length ≤ es.length := by
  have := nodup_bound es.length (S.map (·.born)) h.nd fun x hx => by
    obtain ⟨e, he, rfl⟩ := List.mem_map.1 hx
    have : e.born ∈ es.map (·.born) := List.mem_map_of_mem (h.sub e he)
    rw [hn, List.mem_range] at this
    exact this
  rwa [List.length_map] at this
theorem nodup_of_map {α β : Type} (f : α → β) : ∀ l : List α, (l.map f).Nodup → l.Nodup
  | [], _ => List.nodup_nil
  | x :: l, h => by
    rw [List.map_cons, List.nodup_cons] at h
    exact List.nodup_cons.2 ⟨fun hx => h.1 (List.mem_map_of_mem hx), nodup_of_map f l h.2⟩
theorem range_perm {r b : Nat} {es S : List Ent} {w : World} (hn : es.map (·.born) = List.range es.length) (h : RangeE r b es S w) (hall : ∀ e ∈ es, e ∈ S) : S.Perm es := by
  classical
  have h1 : es.Nodup := nodup_of_map (·.born) es (by rw [hn]; exact List.nodup_range)
  have h2 : S.Nodup := nodup_of_map (·.born) S h.nd
  exact (List.perm_ext_iff_of_nodup h2 h1).2 fun e => ⟨h.sub e, hall e⟩
theorem info37 : (Tryz.prog.info? 37).map (fun i => (i.zero, i.size, i.bytes)) = some (some (valV 0 0 0 0), 4, 32) := by kernel_rfl
theorem stepE_len (es : List Ent) (g k n b : Int) : (stepE es g k n b).length ≤ es.length + 1 := by
  unfold stepE
  split
  · rw [List.length_modify]; omega
  · rw [List.length_append]; exact Nat.le_refl _
theorem accE_len (kg kk : Nat → Int) (dl : Nat → Nat) : ∀ k, (accE kg kk dl k).length ≤ k
  | 0 => Nat.le_refl _
  | k + 1 => Nat.le_trans (stepE_len _ _ _ _ _) (Nat.succ_le_succ (accE_len kg kk dl k))
theorem below_step {w wr w' w1 : World} {o o1 o2 : Obj} (hnx : Below w.heap.size w wr) (hB : Below (wr.alloc o).heap.size (wr.alloc o) w') (hgr : ((w'.alloc o1).alloc o2).grownBy w1 (some w.heap.size)) : Below w.heap.size w w1 := by
  have h0 := hnx.size
  have hs : wr.heap.size + 1 ≤ w'.heap.size := by have := hB.size; simp at this; omega
  have h1 : Below w.heap.size w w' := (hnx.alloc h0 o).trans (hB.mono (by simp; omega))
  have h2 : Below w.heap.size w ((w'.alloc o1).alloc o2) := (h1.alloc (by omega) o1).alloc (by simp; omega) o2
  exact h2.grown hgr (by simp; omega) (fun j hj => by cases hj; exact Nat.le_refl _)
theorem news_at (w : World) (o : Obj) (x : R4) (t : TypeId) : ∀ (j : Nat) (u : Value), (rowCells x)[j]? = some u → ((w.alloc o).alloc (.cells (rowCells x).toArray t)).cell? ((⟨w.heap.size + 1, 0, none⟩ : Addr).add j) = some u := by
  intro j u hj
  have e : (⟨w.heap.size + 1, 0, none⟩ : Addr).add j = ⟨w.heap.size + 1, j, none⟩ := by
    unfold Addr.add
    split
    · rename_i h; subst h; rfl
    · simp
  rw [e, World.cell?_alloc_at _ _ _ _ (by simp)]
  simpa using hj
/-- what comes behind the first loop: the entries, collected and sorted -/
def rowsPost (base : Nat) (w0 : World) (es : List Ent) (e : Ending) (w' : World) : Prop :=
  ∃ v L, e = .returned v ∧ List.Perm L (es.map toR) ∧ L.Pairwise (fun x y => ltOf cmpR y x = false) ∧ w'.ownsRow base 37 4 v L.length (L.flatMap rowCells) ∧ Below base w0 w'
set_option maxHeartbeats 2000000 in
set_option maxRecDepth 100000 in
theorem rows_any (A : Addr) (len cap : Nat) (a0 a1 a4 a5 a6 : Nat → Int) (a7 : Nat → Bool) (dA : Nat → Option Addr) (dl dc : Nat → Nat) (sA : Nat → Option Addr) (sl sc : Nat → Nat) (kg kk : Nat → Int) (w : World)
    (hlen : len ≤ 1000000) (hA : A.block < w.heap.size) (hd : ∀ i, i < len → dl i ≤ 1000000)
    (hc : ∀ i, i < len → ∀ j v, [Value.int .i64 (a0 i), .int .i64 (a1 i), .slice (dA i) (dl i) (dc i), Value.slice (sA i) (sl i) (sc i), .int .i64 (a4 i), .int .i64 (a5 i), .int .i64 (a6 i), .bool (a7 i)][j]? = some v → w.cell? (A.add (i * 8 + j)) = some v)
    (hOf : ∀ i, i < len → ∀ W, Below w.heap.size w W → Calls Tryz.prog 5 #[.agg #[Value.int .i64 (a0 i), .int .i64 (a1 i), .slice (dA i) (dl i) (dc i), Value.slice (sA i) (sl i) (sc i), .int .i64 (a4 i), .int .i64 (a5 i), .int .i64 (a6 i), .bool (a7 i)]] W fun e W' => e = .returned (.agg #[.int .i64 (kg i), .int .i64 (kk i)]) ∧ Below W.heap.size W W') :
    Calls Tryz.prog 7 #[.slice (some A) len cap] w (rowsPost w.heap.size w (accE kg kk dl len)) := by
  have hmm := @run_makeMap Tryz.prog
  have hin := accE_in kg kk dl len hd
  have hborn := accE_born kg kk dl len
  have hlenE := accE_len kg kk dl len
  obtain ⟨i0, hi, hz0, hz1, hz2⟩ := info_parts info37
  go_enter Tryz.func7, Tryz.ntmps7
  go_wp2
  go_loopw [14] (fun i wr => ∃ k : Nat, k ≤ len ∧ i = .int .i64 k ∧ wr.heap[w.heap.size]? = some (.map ((accE kg kk dl k).map entV).toArray (accE kg kk dl k).length) ∧ Below w.heap.size w wr)
    (fun i _ => len - (intOf i).toNat)
  case atStart => exact ⟨0, Nat.zero_le _, rfl, heap_alloc_new w _, (Below.refl _ _).alloc (Nat.le_refl _) _⟩
  case round =>
    obtain ⟨k, hk, rfl, hes, hnx⟩ := hrel
    have hlt : k < len → ∀ j v, [Value.int .i64 (a0 k), .int .i64 (a1 k), .slice (dA k) (dl k) (dc k), Value.slice (sA k) (sl k) (sc k), .int .i64 (a4 k), .int .i64 (a5 k), .int .i64 (a6 k), .bool (a7 k)][j]? = some v → wr.cell? (A.add (k * 8 + j)) = some v := fun h j v hv => (hnx.cell (by rw [add_block]; exact hA)).trans (hc k h j v hv)
    have e0 : k < len → wr.cell? (A.add (k * 8)) = some (.int .i64 (a0 k)) := fun h => hlt h 0 _ rfl
    have e1 : k < len → wr.cell? { block := (A.add (k * 8)).block, off := (A.add (k * 8)).off + 1 } = some (.int .i64 (a1 k)) := fun h => by rw [← add_more A _ 1 (by omega)]; exact hlt h 1 _ rfl
    have e2 : k < len → wr.cell? { block := (A.add (k * 8)).block, off := (A.add (k * 8)).off + 2 } = some (.slice (dA k) (dl k) (dc k)) := fun h => by rw [← add_more A _ 2 (by omega)]; exact hlt h 2 _ rfl
    have e3 : k < len → wr.cell? { block := (A.add (k * 8)).block, off := (A.add (k * 8)).off + 3 } = some (Value.slice (sA k) (sl k) (sc k)) := fun h => by rw [← add_more A _ 3 (by omega)]; exact hlt h 3 _ rfl
    have e4 : k < len → wr.cell? { block := (A.add (k * 8)).block, off := (A.add (k * 8)).off + 4 } = some (.int .i64 (a4 k)) := fun h => by rw [← add_more A _ 4 (by omega)]; exact hlt h 4 _ rfl
    have e5 : k < len → wr.cell? { block := (A.add (k * 8)).block, off := (A.add (k * 8)).off + 5 } = some (.int .i64 (a5 k)) := fun h => by rw [← add_more A _ 5 (by omega)]; exact hlt h 5 _ rfl
    have e6 : k < len → wr.cell? { block := (A.add (k * 8)).block, off := (A.add (k * 8)).off + 6 } = some (.int .i64 (a6 k)) := fun h => by rw [← add_more A _ 6 (by omega)]; exact hlt h 6 _ rfl
    have e7 : k < len → wr.cell? { block := (A.add (k * 8)).block, off := (A.add (k * 8)).off + 7 } = some (.bool (a7 k)) := fun h => by rw [← add_more A _ 7 (by omega)]; exact hlt h 7 _ rfl
    have hbm : w.heap.size < wr.heap.size := (Array.getElem?_eq_some_iff.1 hes).1
    have hbd := oldE_in (p := fun n b => (0 ≤ n ∧ n ≤ k) ∧ (0 ≤ b ∧ b ≤ 1000000 * k)) ⟨⟨by omega, by omega⟩, by omega, by omega⟩ (accE kg kk dl k) (hin k hk) (kg k) (kk k)
    have hdk := hd k
    clear hlt
    go_wp2_with (first
      | (go_at_call 5; refine (hOf k (by assumption) _ (hnx.alloc hnx.size _)).mono ?_; rintro e w' ⟨rfl, hB⟩; have hes' := after_map hB hes; have hda := after_cell (j := 2) hB rfl; have hsz := after_size hB; have hsz2 := hsz.1; have hsz3 := hsz.2)
      | (at_lookup; refine wpList_lookup_ent _ rfl _ _ rfl w.heap.size _ _ rfl ((heap_alloc_old _ _ (Array.getElem?_eq_some_iff.1 hes').1).trans hes') (kg k) (kk k) rfl ?_)
      | (at_mapUpdate; refine wpList_store_ent _ rfl _ _ _ rfl w.heap.size _ rfl ((heap_alloc_old _ _ (by have := (Array.getElem?_eq_some_iff.1 hes').1; simp; omega)).trans ((heap_alloc_old _ _ (Array.getElem?_eq_some_iff.1 hes').1).trans hes')) (kg k) (kk k) _ _ rfl rfl ?_; intro w1 hes1 hgr1)
      | (at_range; refine wpList_range_ent _ rfl _ rfl w.heap.size _ rfl hes ?_; intro w0 hrg0 hg0 hs0)
      | go_in)
    · go_roundw
      case rel =>
        have hkl : k < len := by assumption
        exact ⟨k + 1, hkl, by go_num, hes1, below_step hnx hB hgr1⟩
      case measure => simp [intOf]; omega
    · have : k = len := by omega
      subst this
      go_frame
      clear e0 e1 e2 e3 e4 e5 e6 e7 hdk hOf hc
      have hnx0 := hnx.grown hg0 hnx.size (fun j hj => by cases hj)
      obtain ⟨r, hr⟩ : ∃ r, wr.heap.size = r := ⟨_, rfl⟩
      rw [hr] at hrg0 hs0 hbm ⊢
      rw [show decide (k < k) = false from by simp]
      go_loopw [8] (fun v wr => ∃ S : List Ent, RangeE r w.heap.size (accE kg kk dl k) S wr ∧ wr.ownsRow (r + 1) 37 4 v S.length ((S.map toR).flatMap rowCells) ∧ r + 1 ≤ wr.heap.size ∧ Below w.heap.size w wr)
        (fun v _ => (accE kg kk dl k).length - sliceLen v)
      case atStart => exact ⟨[], hrg0, World.ownsRow_nil _ _ _ _, by omega, hnx0⟩
      case round =>
        obtain ⟨S, hrg, hown, hwr, hbl⟩ := hrel
        go_wp2_with (first
          | (at_next; (refine wpList_next_ent _ rfl _ rfl r w.heap.size _ S hborn (by omega) rfl hrg ?_ ?_))
          | go_in)
        · intro hall
          have hown2 : wr.ownsRow (r + 1) 37 4 u8 (S.map toR).length ((S.map toR).flatMap rowCells) := by rw [List.length_map]; exact hown
          have hSl := range_len hborn hrg
          have hcon := sorted_own hown2 (by rw [List.length_map]; omega)
          go_wp2_with (first
            | (go_at_call 11; refine hcon.mono ?_; rintro e w' ⟨rfl, L, hp, hsrt, hown', hbl'⟩)
            | go_in)
          go_ret
          exact ⟨_, L, rfl, hp.trans ((range_perm hborn hrg hall).map toR), hsrt, own_mono hown' (by omega), hbl.trans (hbl'.mono (by omega))⟩
        · intro e w1 he hne hrg1 hgr1 hsz1 hen
          clear hsz1
          have hown1 := hown.kept hgr1 (.inr (own_block hown r (by omega)))
          have hSl := range_len hborn hrg1
          rw [List.length_append, List.length_singleton] at hSl
          have hbl1 := hbl.grown hgr1 (by omega) (fun j hj => by cases hj; omega)
          have hsz2 := hgr1.size
          go_wp2_with (first
            | (at_builtin; go_loud (refine wpList_append_own _ rfl (.tmp 44) (.tmp 46) 34 rfl (r + 1) 37 i0 (valV 0 0 0 0) 4 32 Tryz.underlying34 hi hz0 hz1 hz2 rfl (by decide) _ _ _ rfl ((hown1.alloc _).alloc _) ⟨w1.heap.size + 1, 0, none⟩ 1 1 (rowCells (toR e)) rfl rfl ?c1 (rowCells_one _) ?c3 ?c4 ?c5 ?_))
            | go_in)
          case c1 => exact news_at w1 _ (toR e) 37
          case c3 => unfold maxLen; omega
          case c4 => omega
          case c5 => simp; omega
          · intro v' w2 hown2 hgr2 _
            have g1 : RangeE r w.heap.size (accE kg kk dl k) (S ++ [e]) w2 :=
              ((hrg1.kept (World.grownBy_alloc w1 _ none) (by simp) (by simp)).kept (World.grownBy_alloc _ _ none) (by simp) (by simp)).kept hgr2 (own_block hown r (by omega)) (own_block hown w.heap.size (by omega))
            have g2 : Below w.heap.size w w2 := ((hbl1.alloc (by omega) _).alloc (by simp; omega) _).grown hgr2 (by simp; omega) (fun j hj => by
              have := own_block hown
              exact Classical.byContradiction fun hc => this j (by omega) hj)
            have g3 := hgr2.size
            simp at g3
            have hl1 := own_len hown
            have hl2 := own_len hown2
            go_wp2
            go_roundw
            case rel => exact ⟨S ++ [e], g1, by rw [List.length_append, List.map_append, List.flatMap_append, List.map_singleton, List.flatMap_singleton, List.length_singleton]; exact hown2, by omega, g2⟩
            case measure => rw [hl1, hl2]; omega
end Go.Proofs.YtgaakgeemnkeeaaGreatDoor
