/- traffic.Rows of no letters. -/
import Derived.Test.YtgaakgeemnkeeaaGreatDoorMq5
set_option linter.unusedVariables false
set_option linter.unusedSimpArgs false
namespace Go.Proofs.YtgaakgeemnkeeaaGreatDoor
open Go.RowKit Go.Shelf Go.Lib
set_option maxHeartbeats 2000000 in
set_option maxRecDepth 100000 in
theorem rows_zero (A : Option Addr) (cap : Nat) (w : World) : Calls Tryz.prog 7 #[.slice A 0 cap] w (rowsPost w.heap.size w []) := by
  have hmm := @run_makeMap Tryz.prog
  have hb0 : (w.alloc (.map #[] 0)).heap[w.heap.size]? = some (.map (([] : List Ent).map entV).toArray ([] : List Ent).length) := heap_alloc_new w _
  go_enter Tryz.func7, Tryz.ntmps7
  go_wp2
  refine wp_loop_rounds 1 ?_
  rw [rounds_succ]
  go_wp2_with (first
    | (at_range; refine wpList_range_ent _ rfl _ rfl w.heap.size [] rfl hb0 ?_; intro w0 hrg0 hg0 hs0)
    | go_in)
  go_frame
  have hbl0 : Below w.heap.size w w0 := ((Below.refl _ _).alloc (Nat.le_refl _) _).grown hg0 (by simp) (fun j hj => by cases hj)
  have hs : (w.alloc (.map #[] 0)).heap.size = w.heap.size + 1 := by simp
  rw [hs] at hrg0 hs0 ⊢
  refine wp_loop_rounds 1 ?_
  rw [rounds_succ]
  have hcon := sorted_own (S := []) (World.ownsRow_nil w0 w.heap.size 37 4) (by simp)
  go_wp2_with (first
    | (at_next; refine wpList_next_ent _ rfl _ rfl (w.heap.size + 1) w.heap.size [] [] rfl (by omega) rfl hrg0 ?_ ?_)
    | (go_at_call 11; refine hcon.mono ?_; rintro e w' ⟨rfl, L, hp, hsrt, hown', hbl'⟩)
    | go_in)
  go_ret
  exact ⟨_, L, rfl, hp, hsrt, hown', hbl0.trans hbl'⟩
end Go.Proofs.YtgaakgeemnkeeaaGreatDoor
