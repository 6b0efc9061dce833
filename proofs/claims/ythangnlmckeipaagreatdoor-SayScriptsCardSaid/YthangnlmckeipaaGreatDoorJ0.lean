/- Calls of Go's library, by the shelf's contracts. -/
import Derived.Test.YthangnlmckeipaaGreatDoorEv3
import Derived.Room.Shelf.Join48
set_option linter.unusedVariables false
set_option linter.unusedSimpArgs false
namespace Go.Den
open Go.Shelf Go.Proofs Go.RowKit
variable {P : Program} {ρ : Ren}

theorem WInv.below {B : Base} {g : G} {o : Objs} {w w' : World} (h : WInv B g o w) (hb : Below w.heap.size w w') : WInv B g o w' :=
  ⟨fun n x hn => OR_keep (h.objs n x hn) (GE.refl g) (fun b hb' hl => ⟨hb.block b (OR_blk (h.objs n x hn) hl b hb'), fun _ _ => rfl⟩), h.dom, h.apart,
    fun a v ha => ⟨by rw [World.cell?_of_block (hb.block a.block (World.block_lt_of_cell? w a (h.mem a v ha).1))]; exact (h.mem a v ha).1, (h.mem a v ha).2⟩,
    ⟨hb.os.trans h.ext.os, hb.tape.trans h.ext.tape, hb.output.trans h.ext.output, Nat.le_trans h.ext.size hb.size, fun b hlt hX => (hb.block b (Nat.lt_of_lt_of_le hlt h.ext.size)).trans (h.ext.block b hlt hX)⟩, h.grow, h.old, h.mine, h.glob⟩

/-- texts, with a text between any two -/
noncomputable def joinB (l : List ByteArray) (sep : ByteArray) : ByteArray := ⟨(Lib.join (l.map (·.data.toList)) sep.data.toList).toArray⟩
noncomputable def joinFits (l : List ByteArray) (sep : ByteArray) : Bool := !l.isEmpty && (decide (l.length ≤ 140737488355328) && decide ((Lib.join (l.map (·.data.toList)) sep.data.toList).length ≤ 281474976710656))
noncomputable def s_join : Sum := ⟨[.dat (.sl .str) false, .raw], fun args objs κ => match args, objs with
  | [.d (.sl .str) l, .d .str sep], [] => if joinFits l sep = true then κ [.d .str (joinB l sep)] [] else none
  | _, _ => none⟩
theorem s_join_det : SumDet s_join := fun avs objs R κ => by
  show s_join.run avs objs (two κ) = (s_join.run avs objs (two some)).bind κ
  unfold s_join
  simp only
  split
  · split <;> rfl
  · rfl
theorem s_join_ok (L : Lays.n156 P ρ) (X : Builder.Extra P ρ) {fn : Func} {c : Code} (hf : P.funcs[ρ.f 156]? = some fn) (hb : fn.body = some c) (hn : (fn.name == "runtime.NumGoroutine") = false) : SumOk P (ρ.f 156) s_join := by
  refine ⟨⟨fn, c, hf, hb, hn⟩, ?_⟩
  intro R avs objs κ r h B g w vs hw hv
  unfold s_join at h
  simp only at h
  split at h
  case h_2 => cases h
  rename_i l sep
  split at h
  case isFalse => cases h
  rename_i hfit
  unfold joinFits at hfit
  simp only [Bool.and_eq_true, Bool.not_eq_true', decide_eq_true_eq] at hfit
  obtain ⟨hne, hN, hlen⟩ := hfit
  match vs, hv with
  | [v1, v2], ⟨h1, h2, _⟩ =>
    obtain ⟨hfl, A, cap, e1, hlc, hx⟩ := h1
    cases e1
    rw [show v2 = .string sep from h2]
    have hpos : 0 < l.length := by
      cases l with
      | nil => simp at hne
      | cons a l => simp
    have hcell : ∀ (j : Nat) (x : ByteArray), l[j]? = some x → ∃ ad, A = some ad ∧ w.cell? (ad.add j) = some (.string x) := by
      intro j x hj
      obtain ⟨ad, ws, hA, hc, hm⟩ := hx j x hj
      have hws : ws = [.string x] := hc
      subst hws
      have := hm 0 _ rfl
      rw [show Ty.str.sz = 1 from rfl, Nat.mul_one, Nat.add_zero] at this
      exact ⟨ad, hA, (hw.mem _ _ this).1⟩
    obtain ⟨ad, rfl, hc0⟩ := hcell 0 l[0] (List.getElem?_eq_getElem hpos)
    have hsp : ad.spot = none := by
      have := World.cell?_spot hc0
      simpa [Addr.add] using this
    obtain ⟨bk, off, sp⟩ := ad
    simp only at hsp
    subst hsp
    have hbk : bk < w.heap.size := by
      have := World.block_lt_of_cell? w _ hc0
      simpa [Addr.add] using this
    have key := Any.strings_Join_48 L X bk off cap l sep w (fun j x hj => by
      obtain ⟨ad', e, hc⟩ := hcell j x hj
      cases e
      rw [Addr.add_lit] at hc
      exact hc) hbk hN hlc hlen
    refine key.mono ?_
    rintro e w' ⟨rfl, hbel⟩
    exact ⟨_, rfl, [.d .str (joinB l sep)], [], g, h, hw.below hbel, GE.refl g, rfl⟩
end Go.Den
