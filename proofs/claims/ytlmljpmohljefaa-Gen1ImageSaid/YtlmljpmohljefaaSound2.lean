/- The evaluator's objects in memory, and what keeps them. -/
import Derived.Test.YtlmljpmohljefaaSound1
set_option linter.unusedVariables false
set_option linter.unusedSimpArgs false
namespace Go.Den

def blkOf (g : G) (n : Nat) : Option Nat := (g.E n).bind fun u => (baseOf u.1).map (·.block)

def OR (g : G) (w : World) (n : Nat) : Obj → Prop
  | .box cs => ∃ b ws ty, g.E n = some (.pointer (some ⟨b, 0, none⟩), 1) ∧ w.heap[b]? = some (.cells (List.toArray ws) ty (0, 0)) ∧ VRL g cs ws ∧ (∀ u ∈ ws, u.oneCell' = true) ∧ ∀ a, a.block = b → g.M a = none
  | .row e t l frz => ∃ v ws, g.E n = some (v, t.sz) ∧ t.flat = true ∧ w.ownsRow 0 e t.sz v l.length ws ∧ RR g.M t l ws ∧ ∀ a, v.ownBlock = some a.block → (frz = false ∨ l.length * t.sz ≤ a.off ∨ a.spot.isSome) → g.M a = none
  | .arr m t l => ∃ b ws ty, g.E n = some (.pointer (some ⟨b, 0, none⟩), t.sz) ∧ (t.flat = true ∧ l.length = m) ∧ w.heap[b]? = some (.cells (List.toArray ws) ty (0, 0)) ∧ RR g.M t l ws ∧ ∀ a, a.block = b → g.M a = none
  | .gone => (g.E n).isSome = true

structure Ext (w0 : World) (X : Nat → Prop) (w : World) : Prop where
  os : w.os = w0.os
  tape : w.tape = w0.tape
  output : w.output = w0.output
  size : w0.heap.size ≤ w.heap.size
  block : ∀ b, b < w0.heap.size → ¬ X b → w.heap[b]? = w0.heap[b]?

structure Base where
  w0 : World
  M0 : Mem
  X : Nat → Prop

structure WInv (B : Base) (g : G) (o : Objs) (w : World) : Prop where
  objs : ∀ n x, o n = some x → OR g w n x
  dom : ∀ n, o n = none → g.E n = none
  apart : ∀ n m x y, n ≠ m → o n = some x → o m = some y → live x = true → live y = true → ∀ b, blkOf g n = some b → blkOf g m ≠ some b
  mem : ∀ a v, g.M a = some v → w.cell? a = some v ∧ v.oneCell' = true
  ext : Ext B.w0 B.X w
  grow : ∀ a v, B.M0 a = some v → g.M a = some v
  old : ∀ a, a.block < B.w0.heap.size → ¬ B.X a.block → g.M a = B.M0 a
  mine : ∀ n x b, o n = some x → live x = true → blkOf g n = some b → B.X b ∨ B.w0.heap.size ≤ b

theorem ownsRow_keep {w w' : World} {base : Nat} {e size : Nat} {v : Value} {n : Nat} {xs : List Value} (h : w.ownsRow base e size v n xs) (hb : ∀ b, v.ownBlock = some b → w'.heap[b]? = w.heap[b]?) : w'.ownsRow base e size v n xs := by
  refine ⟨h.1, ?_⟩
  rcases h.2 with h2 | ⟨g, cap, cur, rfl, h3, h4, h5⟩
  · exact .inl h2
  · exact .inr ⟨g, cap, cur, rfl, h3, (hb g rfl).trans h4, h5⟩

theorem ownBlock_base {w : World} {base : Nat} {e size : Nat} {v : Value} {n : Nat} {xs : List Value} (h : w.ownsRow base e size v n xs) : (baseOf v).map (·.block) = v.ownBlock := by
  rcases h.2 with ⟨rfl, _⟩ | ⟨g, cap, cur, rfl, _⟩ <;> rfl

/-- an object whose block stays is as it was -/
theorem OR_keep {g g' : G} {w w' : World} {n : Nat} {x : Obj} (h : OR g w n x) (hg : GE g g')
    (hb : ∀ b, blkOf g n = some b → live x = true → w'.heap[b]? = w.heap[b]? ∧ ∀ a, a.block = b → g'.M a = g.M a) : OR g' w' n x := by
  cases x with
  | box cs =>
    obtain ⟨b, ws, ty, hE, hh, hc, h1, hm⟩ := h
    obtain ⟨k1, k2⟩ := hb b (by simp [blkOf, hE, baseOf]) rfl
    exact ⟨b, ws, ty, hg.E _ _ hE, k1.trans hh, VRL_mono hg cs ws hc, h1, fun a ha => (k2 a ha).trans (hm a ha)⟩
  | row e t l frz =>
    obtain ⟨v, ws, hE, hf, ho, hr, hm⟩ := h
    have hk : ∀ b, v.ownBlock = some b → w'.heap[b]? = w.heap[b]? ∧ ∀ a, a.block = b → g'.M a = g.M a := fun b hvb => hb b (by simp only [blkOf, hE, Option.bind_some]; rw [ownBlock_base ho]; exact hvb) rfl
    exact ⟨v, ws, hg.E _ _ hE, hf, ownsRow_keep ho fun b hvb => (hk b hvb).1, RR_mono hg.M t l ws hr, fun a ha hc => ((hk _ ha).2 a rfl).trans (hm a ha hc)⟩
  | arr m t l =>
    obtain ⟨b, ws, ty, hE, hf, hh, hr, hm⟩ := h
    obtain ⟨k1, k2⟩ := hb b (by simp [blkOf, hE, baseOf]) rfl
    exact ⟨b, ws, ty, hg.E _ _ hE, hf, k1.trans hh, RR_mono hg.M t l ws hr, fun a ha => (k2 a ha).trans (hm a ha)⟩
  | gone =>
    simp only [OR] at h ⊢
    cases hE : g.E n with
    | none => rw [hE] at h; cases h
    | some u => rw [hg.E _ _ hE]; rfl

theorem OR_blk {g : G} {w : World} {n : Nat} {x : Obj} (h : OR g w n x) (hl : live x = true) : ∀ b, blkOf g n = some b → b < w.heap.size := by
  intro b hb
  cases x with
  | box cs =>
    obtain ⟨b', ws, ty, hE, hh, _⟩ := h
    simp [blkOf, hE, baseOf] at hb
    subst hb
    exact (Array.getElem?_eq_some_iff.1 hh).1
  | row e t l frz =>
    obtain ⟨v, ws, hE, _, ho, _⟩ := h
    have hb' : v.ownBlock = some b := by
      simp only [blkOf, hE, Option.bind_some] at hb
      rw [ownBlock_base ho] at hb
      exact hb
    exact (ho.lt b hb').2
  | arr m t l =>
    obtain ⟨b', ws, ty, hE, _, hh, _⟩ := h
    simp [blkOf, hE, baseOf] at hb
    subst hb
    exact (Array.getElem?_eq_some_iff.1 hh).1
  | gone => cases hl

theorem WInv.some_dom {B : Base} {g : G} {o : Objs} {w : World} (h : WInv B g o w) {n : Nat} {u : Value × Nat} (hE : g.E n = some u) : ∃ x, o n = some x := by
  cases ho : o n with
  | some x => exact ⟨x, rfl⟩
  | none => rw [h.dom n ho] at hE; cases hE

theorem OR_some {g : G} {w : World} {n : Nat} {x : Obj} (h : OR g w n x) : (g.E n).isSome = true := by
  cases x with
  | box cs => obtain ⟨b, ws, ty, hE, _⟩ := h; rw [hE]; rfl
  | row e t l frz => obtain ⟨v, ws, hE, _⟩ := h; rw [hE]; rfl
  | arr m t l => obtain ⟨b, ws, ty, hE, _⟩ := h; rw [hE]; rfl
  | gone => exact h

/-- no order of the world is asked -/
theorem WInv.drawn {B : Base} {g : G} {o : Objs} {w : World} (h : WInv B g o w) (k : Nat) : WInv B g o { w with drawn := k } :=
  ⟨fun n x hn => OR_keep (h.objs n x hn) (GE.refl g) (fun _ _ _ => ⟨rfl, fun _ _ => rfl⟩), h.dom, h.apart, h.mem, ⟨h.ext.os, h.ext.tape, h.ext.output, h.ext.size, h.ext.block⟩, h.grow, h.old, h.mine⟩

/-- an object is laid, or laid anew; the others stay -/
theorem WInv.put {B : Base} {g g' : G} {o : Objs} {w w' : World} (h : WInv B g o w) (n0 : Nat) (x' : Obj) (hg : GE g g')
    (hE : ∀ n, n ≠ n0 → g'.E n = g.E n)
    (hx : OR g' w' n0 x')
    (hw : w'.os = w.os ∧ w'.tape = w.tape ∧ w'.output = w.output ∧ w.heap.size ≤ w'.heap.size)
    (hblk : ∀ b, b < w.heap.size → (∀ x, o n0 = some x → live x = true → blkOf g n0 ≠ some b) → w'.heap[b]? = w.heap[b]?)
    (hM : g'.M = g.M)
    (hsafe : ∀ b a v, (∃ x, o n0 = some x ∧ live x = true ∧ blkOf g n0 = some b) → a.block = b → g.M a = some v → w'.cell? a = some v)
    (hnew : ∀ b, live x' = true → blkOf g' n0 = some b → w.heap.size ≤ b ∨ ∃ x, o n0 = some x ∧ live x = true ∧ blkOf g n0 = some b)
    : WInv B g' (upd o n0 x') w' := by
  have hsub : ∀ n, n ≠ n0 → blkOf g' n = blkOf g n := fun n hn => by simp [blkOf, hE n hn]
  refine ⟨?_, ?_, ?_, ?_, ?_, ?_, ?_, ?_⟩
  · intro n x hn
    unfold upd at hn
    split at hn
    · rename_i e; subst e; cases hn; exact hx
    · rename_i hne
      refine OR_keep (h.objs n x hn) hg fun b hb hl => ⟨hblk b (OR_blk (h.objs n x hn) hl b hb) ?_, fun a ha => by rw [hM]⟩
      intro y hy hly hb'
      exact h.apart n n0 x y hne hn hy hl hly b hb hb'
  · intro n hn
    unfold upd at hn
    split at hn
    · cases hn
    · rename_i hne; rw [hE n hne]; exact h.dom n hn
  · intro n m x y hnm hn hm hlx hly b hbn hbm
    unfold upd at hn hm
    split at hn
    · rename_i e; subst e; cases hn
      split at hm
      · rename_i e; exact hnm e.symm
      · rename_i hne
        rw [hsub m hne] at hbm
        rcases hnew b hlx hbn with hge | ⟨x0, hx0, hl0, hb0⟩
        · have := OR_blk (h.objs m y hm) hly b hbm; omega
        · exact h.apart n m x0 y hnm hx0 hm hl0 hly b hb0 hbm
    · rename_i hne
      rw [hsub n hne] at hbn
      split at hm
      · rename_i e; subst e; cases hm
        rcases hnew b hly hbm with hge | ⟨x0, hx0, hl0, hb0⟩
        · have := OR_blk (h.objs n x hn) hlx b hbn; omega
        · exact h.apart n m x x0 hnm hn hx0 hlx hl0 b hbn hb0
      · rename_i hne2
        rw [hsub m hne2] at hbm
        exact h.apart n m x y hnm hn hm hlx hly b hbn hbm
  · intro a v ha
    rw [hM] at ha
    obtain ⟨hc, h1⟩ := h.mem a v ha
    refine ⟨?_, h1⟩
    by_cases hb : ∃ x, o n0 = some x ∧ live x = true ∧ blkOf g n0 = some a.block
    · exact hsafe a.block a v hb rfl ha
    · rw [World.cell?_of_block (hblk a.block (World.block_lt_of_cell? w a hc) fun x hx hl hb' => hb ⟨x, hx, hl, hb'⟩)]
      exact hc
  · refine ⟨hw.1.trans h.ext.os, hw.2.1.trans h.ext.tape, hw.2.2.1.trans h.ext.output, Nat.le_trans h.ext.size hw.2.2.2, fun b hb hX => ?_⟩
    refine (hblk b (Nat.lt_of_lt_of_le hb h.ext.size) ?_).trans (h.ext.block b hb hX)
    intro x hx hl hb'
    rcases h.mine n0 x b hx hl hb' with k | k
    · exact hX k
    · omega
  · intro a v ha; rw [hM]; exact h.grow a v ha
  · intro a ha hX; rw [hM]; exact h.old a ha hX
  · intro n x b hn hl hb
    unfold upd at hn
    split at hn
    · rename_i e; subst e; cases hn
      rcases hnew b hl hb with k | ⟨x0, hx0, hl0, hb0⟩
      · exact .inr (Nat.le_trans h.ext.size k)
      · exact h.mine n x0 b hx0 hl0 hb0
    · rename_i hne
      rw [hsub n hne] at hb
      exact h.mine n x b hn hl hb

/-- new facts of memory: no other object's, and of what nobody else has -/
theorem WInv.learn {B : Base} {g : G} {o : Objs} {w : World} (h : WInv B g o w) (M' : Mem) (n0 : Nat) (o' : Objs)
    (hgrow : ∀ a v, g.M a = some v → M' a = some v)
    (hmem : ∀ a v, M' a = some v → w.cell? a = some v ∧ v.oneCell' = true)
    (hobj : ∀ n x, n ≠ n0 → o n = some x → live x = true → ∀ b a, blkOf g n = some b → a.block = b → M' a = g.M a)
    (hsame : ∀ n, n ≠ n0 → o' n = o n)
    (h0 : ∀ x, o' n0 = some x → OR ⟨M', g.E⟩ w n0 x ∧ (live x = true → ∃ y, o n0 = some y ∧ live y = true))
    (h0n : o' n0 = none → o n0 = none)
    (hold : ∀ a, a.block < B.w0.heap.size → ¬ B.X a.block → M' a = g.M a) : WInv B ⟨M', g.E⟩ o' w := by
  have hg : GE g ⟨M', g.E⟩ := ⟨hgrow, fun _ _ e => e⟩
  have hbk : ∀ n, blkOf ⟨M', g.E⟩ n = blkOf g n := fun _ => rfl
  have hlive : ∀ n x, o' n = some x → live x = true → ∃ y, o n = some y ∧ live y = true := by
    intro n x hn hl
    by_cases e : n = n0
    · subst e; exact (h0 x hn).2 hl
    · rw [hsame n e] at hn; exact ⟨x, hn, hl⟩
  refine ⟨?_, ?_, ?_, ?_, ?_, ?_, ?_, ?_⟩
  · intro n x hn
    by_cases e : n = n0
    · subst e; exact (h0 x hn).1
    · rw [hsame n e] at hn
      exact OR_keep (h.objs n x hn) hg fun b hb hl => ⟨rfl, fun a ha => hobj n x e hn hl b a hb ha⟩
  · intro n hn
    by_cases e : n = n0
    · subst e; exact h.dom n (h0n hn)
    · rw [hsame n e] at hn; exact h.dom n hn
  · intro n m x y hnm hn hm hlx hly b hb hb'
    obtain ⟨x', hx', hlx'⟩ := hlive n x hn hlx
    obtain ⟨y', hy', hly'⟩ := hlive m y hm hly
    exact h.apart n m x' y' hnm hx' hy' hlx' hly' b hb hb'
  · exact hmem
  · exact h.ext
  · exact fun a v ha => hgrow a v (h.grow a v ha)
  · exact fun a ha hX => (hold a ha hX).trans (h.old a ha hX)
  · intro n x b hn hl hb
    obtain ⟨x', hx', hlx'⟩ := hlive n x hn hl
    exact h.mine n x' b hx' hlx' hb
end Go.Den
