/- traffic.order, and rows sorted by it. -/
import Derived.Test.YtgaakgeemnkeeaaGreatDoorMq2
import Derived.Test.YtgaakgeemnkeeaaGreatDoorJq4
set_option linter.unusedVariables false
set_option linter.unusedSimpArgs false
namespace Go.Proofs.YtgaakgeemnkeeaaGreatDoor
open Go.Den Go.RowKit Go.Shelf Go.Lib Go.Sort
abbrev R4 := Int × Int × Int × Int
def rowCells (x : R4) : List Value := [.int .i64 x.1, .int .i64 x.2.1, .int .i64 x.2.2.1, .int .i64 x.2.2.2]
def cmpR (x y : R4) : Int := if x.1 = y.1 ∧ x.2.1 = y.2.1 then 0 else if x.1 < y.1 ∨ (x.1 = y.1 ∧ x.2.1 < y.2.1) then -1 else 1
theorem ltR (x y : R4) : ltOf cmpR x y = decide (x.1 < y.1 ∨ (x.1 = y.1 ∧ x.2.1 < y.2.1)) := by
  unfold ltOf cmpR
  by_cases h1 : x.1 = y.1 ∧ x.2.1 = y.2.1
  · rw [if_pos h1, decide_eq_false (by omega), decide_eq_false (by omega)]
  · rw [if_neg h1]
    by_cases h2 : x.1 < y.1 ∨ (x.1 = y.1 ∧ x.2.1 < y.2.1)
    · rw [if_pos h2, decide_eq_true h2]; rfl
    · rw [if_neg h2, decide_eq_false h2]; rfl
theorem swoR : SWO (ltOf cmpR) where
  irrefl x := by rw [ltR, decide_eq_false_iff_not]; omega
  trans x y z h1 h2 := by rw [ltR, decide_eq_true_eq] at *; omega
  ntrans x y z h1 h2 := by rw [ltR, decide_eq_false_iff_not] at *; omega
set_option maxHeartbeats 1000000 in
set_option maxRecDepth 100000 in
theorem order12 (x y : R4) (W : World) : Calls Tryz.prog 12 #[.agg #[.int .i64 x.1, .int .i64 x.2.1, .int .i64 x.2.2.1, .int .i64 x.2.2.2], .agg #[.int .i64 y.1, .int .i64 y.2.1, .int .i64 y.2.2.1, .int .i64 y.2.2.2]] W fun e w' => e = .returned (.int .i64 (cmpR x y)) ∧ ∃ q os', w' = grow (W.drewN q) os' := by
  obtain ⟨x1, x2, x3, x4⟩ := x
  obtain ⟨y1, y2, y3, y4⟩ := y
  go_enter Tryz.func12, Tryz.ntmps12
  go_wp2
  all_goals go_ret
  all_goals refine ⟨?_, 0, _, by rw [alloc_eq_grow, alloc_eq_grow, grow_grow]; rfl⟩
  all_goals unfold cmpR
  all_goals first
    | (show Ending.returned (Value.int .i64 0) = _; rw [if_pos (by simp only; omega)]; done)
    | (show Ending.returned (Value.int .i64 (-1)) = _; rw [if_neg (by simp only; omega), if_pos (by simp only; omega)]; done)
    | (show Ending.returned (Value.int .i64 1) = _; rw [if_neg (by simp only; omega), if_neg (by simp only; omega)]; done)
theorem cmpLays12 (blk off size : Nat) (w : World) : CmpLays Tryz.prog 12 #[] rowCells 4 cmpR blk off size w :=
  fun _ _ _ _ x y => order12 x y _
theorem rowCells_len (x : R4) : (rowCells x).length = 4 := rfl
theorem rowCells_one (x : R4) : ∀ v ∈ rowCells x, v.oneCell' = true := by
  intro v hv
  simp only [rowCells, List.mem_cons, List.not_mem_nil, or_false] at hv
  rcases hv with rfl | rfl | rfl | rfl <;> rfl
theorem sorted_call (blk off cap : Nat) (d : Array R4) (w : World) (hH : HoldsK rowCells 4 w blk off d) (hblk : blk < w.heap.size) (hsz : d.size < 4611686018427387904) :
    Calls Tryz.prog 11 #[.slice (some ⟨blk, off, none⟩) d.size cap, .func (.func 12) #[] #[]] w fun e w' => e = .returned (.tuple #[]) ∧ ∃ d' n os, PermIn 0 d.size d d' ∧ SortedIn (ltOf cmpR) 0 d.size d' ∧ w' = sortWorldK rowCells 4 w blk off n d' os :=
  AnyQ.slices_SortFunc layrenSo 4 Tryz.isAgg37 Tryz.sizeOf37 rowCells rowCells_len rowCells_one cmpR swoR 12 #[] blk off cap d w (enters_of Tryz.func12 (by kernel_rfl) rfl) (cmpLays12 blk off d.size w) hH hblk hsz
theorem sorted_nil (p : Option Addr) (cap : Nat) (fv : Value) (w : World) : Calls Tryz.prog 11 #[.slice p 0 cap, fv] w fun e w' => e = .returned (.tuple #[]) ∧ w' = w :=
  AnyF.slices_SortFunc_none layrenSo p cap fv w
end Go.Proofs.YtgaakgeemnkeeaaGreatDoor
