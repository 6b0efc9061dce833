/- A map keyed by two numbers: looking up, storing. -/
import Derived.Test.YtgaakgeemnkeeaaGreatDoorTw
import Derived.Test.YtgaakgeemnkeeaaGreatDoorChecked
import Derived.Laws.StructEq
import Derived.WalkKit
set_option linter.unusedVariables false
set_option linter.unusedSimpArgs false
namespace Go.Proofs.YtgaakgeemnkeeaaGreatDoor
open Go.Den

/-- an entry: its key, its letters and bytes, when it was laid -/
structure Ent where
  g : Int
  k : Int
  n : Int
  b : Int
  born : Nat
def keyV (g k : Int) : Value := .agg #[.int .i64 g, .int .i64 k]
def valV (g k n b : Int) : Value := .agg #[.int .i64 g, .int .i64 k, .int .i64 n, .int .i64 b]
def entV (e : Ent) : MapEntry := ⟨keyV e.g e.k, valV e.g e.k e.n e.b, e.born⟩
theorem key_fields : Tryz.prog.fieldsOf 31 = #[⟨"Gen", 3, 0, false, "", "", 0⟩, ⟨"Kind", 3, 1, false, "", "", 8⟩] := by kernel_rfl
theorem key_under : Tryz.prog.underlying 31 = some (.struct (Tryz.prog.fieldsOf 31)) := by rw [key_fields]; exact Tryz.underlying31
theorem key_in : Tryz.prog.stoodInHeld 31 = false := by kernel_rfl
theorem part0 (a b : Value) (w : World) : (part 3 #[a, b] 0).run Tryz.prog w = .ok a w := by
  kernel_rfl
theorem part1 (a b : Value) (w : World) : (part 3 #[a, b] 1).run Tryz.prog w = .ok b w := by
  kernel_rfl
theorem run_key_eq (g k g' k' : Int) (w : World) : (Op.equal 31 (keyV g k) (keyV g' k')).run Tryz.prog w = .ok (g == g' && k == k') w := by
  unfold Op.equal Op.maxDepth keyV
  rw [run_equalIn_struct (P := Tryz.prog) w 9999 31 _ _ key_under key_in, key_fields]
  have e3 := fun (d : Nat) (a b : Int) (w : World) => run_equalIn_int (P := Tryz.prog) w d 3 .i64 .i64 a b Tryz.underlying3
  show (Op.eqFields 9999 #[.int .i64 g, .int .i64 k] #[.int .i64 g', .int .i64 k'] [⟨"Gen", 3, 0, false, "", "", 0⟩, ⟨"Kind", 3, 1, false, "", "", 8⟩]).run Tryz.prog w = _
  simp only [Op.eqFields, Sem.run_bind, Sem.run_ite, part0, part1, Result.andThen_ok, e3]
  cases h1 : (g == g') <;> cases h2 : (k == k') <;> simp [Sem.run_pure]
/-- the entry of a key -/
def findE (g k : Int) : List Ent → Nat → Option (Nat × Ent)
  | [], _ => none
  | e :: es, i => if e.g = g ∧ e.k = k then some (i, e) else findE g k es (i + 1)
theorem run_findAsking (g k : Int) (w : World) : ∀ (es : List Ent) (i : Nat), (Instr.findAsking 31 (keyV g k) (es.map entV) i).run Tryz.prog w = .ok ((findE g k es i).map fun x => (x.1, valV x.2.g x.2.k x.2.n x.2.b)) w
  | [], i => rfl
  | e :: es, i => by
    rw [List.map_cons, Instr.findAsking]
    simp only [Sem.run_bind]
    rw [show (entV e).key = keyV e.g e.k from rfl, run_key_eq]
    simp only [Result.andThen_ok, findE]
    by_cases h : e.g = g ∧ e.k = k
    · rw [if_pos h, if_pos (by simp [h.1, h.2])]
      rfl
    · rw [if_neg h, if_neg (by simp only [Bool.and_eq_true, beq_iff_eq]; exact fun x => h ⟨x.1.symm, x.2.symm⟩)]
      exact run_findAsking g k w es (i + 1)
theorem run_findKey (g k : Int) (w : World) (es : List Ent) : (Instr.findKey 31 (keyV g k) (es.map entV)).run Tryz.prog w = .ok ((findE g k es 0).map fun x => (x.1, valV x.2.g x.2.k x.2.n x.2.b)) w := by
  unfold Instr.findKey
  simp only [Sem.run_bind, run_underlying Tryz.underlying31, Result.andThen_ok]
  cases es with
  | nil => rfl
  | cons e es =>
    exact run_findAsking g k w (e :: es) 0
theorem run_checkKey (em : Bool) (g k : Int) (w : World) : (Instr.checkKey em 10000 31 (keyV g k)).run Tryz.prog w = .ok () w := by
  kernel_rfl
theorem zero_row (w : World) : (zeroValue 37).run Tryz.prog w = .ok (valV 0 0 0 0) w := by kernel_rfl
/-- looking up -/
theorem run_lookup (g k : Int) (w : World) (bm : Nat) (es : List Ent) (clock : Nat) (hb : w.heap[bm]? = some (.map (es.map entV).toArray clock)) :
    (Instr.lookup 51 (.map (some bm)) (keyV g k) false).run Tryz.prog w = .ok (match findE g k es 0 with | some (_, e) => valV e.g e.k e.n e.b | none => valV 0 0 0 0) w := by
  unfold Instr.lookup
  simp only [Sem.run_bind, run_underlying Tryz.underlying51, Result.andThen_ok, MapKept.run_getObj_map hb, Sem.run_pure, run_checkKey, List.toList_toArray, run_findKey]
  cases findE g k es 0 with
  | none => simp only [Option.map_none, Sem.run_bind, zero_row, Result.andThen_ok, Sem.run_pure]; rfl
  | some x => rfl
/-- storing -/
def stepE (es : List Ent) (g k n b : Int) : List Ent := match findE g k es 0 with
  | some (i, _) => es.modify i fun e => { e with g := g, k := k, n := n, b := b }
  | none => es ++ [⟨g, k, n, b, es.length⟩]
theorem findE_at (g k : Int) : ∀ (es : List Ent) (i j : Nat) (e : Ent), findE g k es i = some (j, e) → i ≤ j ∧ es[j - i]? = some e ∧ e.g = g ∧ e.k = k
  | [], i, j, e, h => by cases h
  | x :: es, i, j, e, h => by
    unfold findE at h
    split at h
    · rename_i hx
      cases h
      exact ⟨Nat.le_refl _, by simp, hx⟩
    · obtain ⟨h1, h2, h3⟩ := findE_at g k es (i + 1) j e h
      refine ⟨by omega, ?_, h3⟩
      rw [show j - i = (j - (i + 1)) + 1 by omega, List.getElem?_cons_succ]
      exact h2
theorem modify_map (f : MapEntry → MapEntry) (h : Ent → Ent) (he : ∀ e, f (entV e) = entV (h e)) : ∀ (es : List Ent) (i : Nat), (es.map entV).modify i f = (es.modify i h).map entV
  | [], i => by cases i <;> rfl
  | e :: es, 0 => by simp [he]
  | e :: es, i + 1 => by simp [modify_map f h he es i]
theorem run_sameBits (g k : Int) : Instr.sameBits 10000 (keyV g k) (keyV g k) = true := by
  unfold keyV
  simp [Instr.sameBits]
theorem run_mapUpdate (g k n b : Int) (w : World) (bm : Nat) (es : List Ent) (hb : w.heap[bm]? = some (.map (es.map entV).toArray es.length)) :
    (Instr.mapUpdate 51 (.map (some bm)) (keyV g k) (valV g k n b)).run Tryz.prog w = .ok () (ChangeMaps.setBlock w bm (.map ((stepE es g k n b).map entV).toArray (stepE es g k n b).length)) := by
  unfold Instr.mapUpdate
  simp only [Sem.run_bind, run_underlying Tryz.underlying51, Result.andThen_ok, MapKept.run_getObj_map hb, run_checkKey, List.toList_toArray, run_findKey]
  have hset : ∀ o', (setObj bm o').run Tryz.prog w = .ok () (ChangeMaps.setBlock w bm o') := fun o' => by simp [setObj, Sem.run, hb, ChangeMaps.setBlock]
  unfold stepE
  cases hf : findE g k es 0 with
  | none =>
    simp only [Option.map_none, hset]
    congr 3
    · simp [entV]
    · simp
  | some x =>
    obtain ⟨i, e⟩ := x
    obtain ⟨_, h2, h3, h4⟩ := findE_at g k es 0 i e hf
    rw [Nat.sub_zero] at h2
    simp only [Option.map_some, Sem.run_bind]
    have ek : (((es.map entV).toArray[i]?).map (·.key)).getD (keyV g k) = keyV g k := by
      simp [h2, entV, h3, h4]
    unfold Instr.keyThatStays
    rw [ek, run_sameBits]
    simp only [if_true, Sem.run_pure, Result.andThen_ok, hset]
    congr 3
    · apply Array.toList_inj.1
      rw [Array.toList_modify, List.toList_toArray, List.toList_toArray]
      exact modify_map _ _ (fun e => rfl) es i
    · simp
end Go.Proofs.YtgaakgeemnkeeaaGreatDoor
