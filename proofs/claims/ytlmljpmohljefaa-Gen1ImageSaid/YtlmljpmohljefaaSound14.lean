/- Names anew, and what a part leaves of the whole. -/
import Derived.Test.YtlmljpmohljefaaSound13
set_option linter.unusedVariables false
set_option linter.unusedSimpArgs false
namespace Go.Den
variable {P : Program}

mutual
theorem VR_ren {g g2 : G} (f : Nat → Option Nat) (hM : g2.M = g.M) (hE : ∀ n m u, f n = some m → g.E n = some u → g2.E m = some u) : ∀ (a : AV) (v : Value), VR g a v → VR g2 (renV f a) v
  | .d t x, v, hx => by
    simp only [renV, VR] at hx ⊢
    rw [hM]; exact hx
  | .ptr n off, v, ⟨p, z, he, hv⟩ => by
    simp only [renV]
    split
    · rename_i m hm; exact ⟨p, z, hE _ _ _ hm he, hv⟩
    · trivial
  | .eptr n i off, v, ⟨p, z, u, he, hb, hv⟩ => by
    simp only [renV]
    split
    · rename_i m hm; exact ⟨p, z, u, hE _ _ _ hm he, hb, hv⟩
    · trivial
  | .dp cs, v, ⟨ad, ws, hv, hc, hm⟩ => ⟨ad, ws, hv, VRL_ren f hM hE cs ws hc, fun j u hj => by rw [hM]; exact hm j u hj⟩
  | .pnil, v, hx => hx
  | .nilsl, v, hx => hx
  | .nilf, v, hx => hx
  | .nili, v, hx => hx
  | .row n, v, ⟨z, he, h1⟩ => by
    simp only [renV]
    split
    · rename_i m hm; exact ⟨z, hE _ _ _ hm he, h1⟩
    · trivial
  | .fn g' a b, v, ⟨a', b', hv, ha, hb⟩ => ⟨a', b', hv, VRL_ren f hM hE a a' ha, VRL_ren f hM hE b b' hb⟩
  | .agg cs, v, ⟨ws, hv, hc, h1⟩ => ⟨ws, hv, VRL_ren f hM hE cs ws hc, h1⟩
  | .tup cs, v, ⟨ws, hv, hc⟩ => ⟨ws, hv, VRL_ren f hM hE cs ws hc⟩
  | .dead, v, hx => hx
theorem VRL_ren {g g2 : G} (f : Nat → Option Nat) (hM : g2.M = g.M) (hE : ∀ n m u, f n = some m → g.E n = some u → g2.E m = some u) : ∀ (as : List AV) (vs : List Value), VRL g as vs → VRL g2 (renL f as) vs
  | [], [], hx => hx
  | a :: as, v :: vs, ⟨h1, h2⟩ => ⟨VR_ren f hM hE a v h1, VRL_ren f hM hE as vs h2⟩
  | [], _ :: _, hx => hx.elim
  | _ :: _, [], hx => hx.elim
end

theorem live_ren (f : Nat → Option Nat) (x : Obj) : live (renO f x) = live x := by cases x <;> rfl

theorem OR_ren {g g2 : G} {w : World} (f : Nat → Option Nat) (hM : g2.M = g.M) (hE : ∀ n m, f n = some m → g2.E m = g.E n) {n m : Nat} {x : Obj} (hm : f n = some m) (h : OR g w n x) : OR g2 w m (renO f x) := by
  have hE' : ∀ n m u, f n = some m → g.E n = some u → g2.E m = some u := fun n m u h1 h2 => (hE n m h1).trans h2
  cases x with
  | box cs =>
    obtain ⟨b, ws, ty, he, hh, hc, h1, hmm⟩ := h
    exact ⟨b, ws, ty, hE' _ _ _ hm he, hh, VRL_ren f hM hE' cs ws hc, h1, fun a ha => by rw [hM]; exact hmm a ha⟩
  | row e t l frz =>
    obtain ⟨v, ws, he, hf, ho, hr, hmm⟩ := h
    exact ⟨v, ws, hE' _ _ _ hm he, hf, ho, by rw [hM]; exact hr, fun a ha hc => by rw [hM]; exact hmm a ha hc⟩
  | arr k t l =>
    obtain ⟨b, ws, ty, he, hf, hh, hr, hmm⟩ := h
    exact ⟨b, ws, ty, hE' _ _ _ hm he, hf, hh, by rw [hM]; exact hr, fun a ha => by rw [hM]; exact hmm a ha⟩
  | gone =>
    show (g2.E m).isSome = true
    rw [hE n m hm]; exact h

theorem WInv.ren {B : Base} {g g2 : G} {o o2 : Objs} {w : World} (h : WInv B g o w) (f : Nat → Option Nat)
    (ho : ∀ m x2, o2 m = some x2 → ∃ n x, f n = some m ∧ o n = some x ∧ x2 = renO f x)
    (hE : ∀ n m, f n = some m → g2.E m = g.E n) (hd : ∀ m, o2 m = none → g2.E m = none) (hM : g2.M = g.M) : WInv B g2 o2 w := by
  have hb : ∀ n m, f n = some m → blkOf g2 m = blkOf g n := fun n m h1 => by simp [blkOf, hE n m h1]
  refine ⟨?_, hd, ?_, ?_, h.ext, ?_, ?_, ?_⟩
  · intro m x2 hm
    obtain ⟨n, x, hf, hn, rfl⟩ := ho m x2 hm
    exact OR_ren f hM hE hf (h.objs n x hn)
  · intro m1 m2 x y hne h1 h2 hl1 hl2 b hb1 hb2
    obtain ⟨n1, x1, hf1, hn1, rfl⟩ := ho m1 x h1
    obtain ⟨n2, x2, hf2, hn2, rfl⟩ := ho m2 y h2
    rw [live_ren] at hl1 hl2
    rw [hb _ _ hf1] at hb1
    rw [hb _ _ hf2] at hb2
    refine h.apart n1 n2 x1 x2 ?_ hn1 hn2 hl1 hl2 b hb1 hb2
    intro e; subst e; rw [hf1] at hf2; cases hf2; exact hne rfl
  · intro a v ha; rw [hM] at ha; exact h.mem a v ha
  · intro a v ha; rw [hM]; exact h.grow a v ha
  · intro a ha hX; rw [hM]; exact h.old a ha hX
  · intro m x2 b hm hl hbm
    obtain ⟨n, x, hf, hn, rfl⟩ := ho m x2 hm
    rw [live_ren] at hl
    rw [hb _ _ hf] at hbm
    exact h.mine n x b hn hl hbm

/-- seen from within: nothing has changed yet -/
def within (w : World) (g : G) (o : Objs) (F : Nat → Bool) : Base :=
  ⟨w, g.M, fun b => ∃ n x, F n = true ∧ o n = some x ∧ live x = true ∧ blkOf g n = some b⟩

/-- a part of the whole, under other names -/
theorem WInv.part {B : Base} {g g2 : G} {o o2 : Objs} {w : World} (h : WInv B g o w) (F : Nat → Bool) (f : Nat → Option Nat)
    (ho : ∀ m x2, o2 m = some x2 → ∃ n x, f n = some m ∧ o n = some x ∧ x2 = renO f x)
    (hF : ∀ n m x, f n = some m → o n = some x → F n = true)
    (hE : ∀ n m, f n = some m → g2.E m = g.E n) (hd : ∀ m, o2 m = none → g2.E m = none) (hM : g2.M = g.M) : WInv (within w g o F) g2 o2 w := by
  have h1 := h.ren f ho hE hd hM
  refine ⟨h1.objs, h1.dom, h1.apart, h1.mem, ⟨rfl, rfl, rfl, Nat.le_refl _, fun _ _ _ => rfl⟩, ?_, ?_, ?_⟩
  · intro a v ha; rw [hM]; exact ha
  · intro a ha hX; rw [hM]; rfl
  · intro m x2 b hm hl hb
    obtain ⟨n, x, hf, hn, rfl⟩ := ho m x2 hm
    rw [live_ren] at hl
    refine .inl ⟨n, x, hF n m x hf hn, hn, hl, ?_⟩
    rw [← hb]; simp [blkOf, hE n m hf]

def over (F : Nat → Bool) {α : Type} (a b : Nat → α) : Nat → α := fun n => if F n then a n else b n

/-- the part comes back into the whole -/
theorem WInv.merge {B : Base} {g g' : G} {o o' : Objs} {w w' : World} (h : WInv B g o w) (F F' : Nat → Bool) (h' : WInv (within w g o F) g' o' w')
    (hFF : ∀ n, F n = true → F' n = true) (hE : ∀ n u, F' n = true → g.E n = some u → g'.E n = some u) (hout : ∀ n, F' n = false → o' n = none) :
    WInv B ⟨g'.M, over F' g'.E g.E⟩ (over F' o' o) w' ∧ GE g ⟨g'.M, over F' g'.E g.E⟩ ∧ GE g' ⟨g'.M, over F' g'.E g.E⟩ := by
  have hg : GE g ⟨g'.M, over F' g'.E g.E⟩ := by
    refine ⟨fun a v ha => h'.grow a v ha, fun n u hn => ?_⟩
    simp only [over]
    split
    · rename_i hf; exact hE n u hf hn
    · exact hn
  have hg' : GE g' ⟨g'.M, over F' g'.E g.E⟩ := by
    refine ⟨fun a v ha => ha, fun n u hn => ?_⟩
    simp only [over]
    split
    · exact hn
    · rename_i hf
      rw [h'.dom n (hout n (by simpa using hf))] at hn; cases hn
  have hb1 : ∀ n, F' n = true → blkOf ⟨g'.M, over F' g'.E g.E⟩ n = blkOf g' n := fun n hn => by simp [blkOf, over, hn]
  have hb2 : ∀ n, F' n = false → blkOf ⟨g'.M, over F' g'.E g.E⟩ n = blkOf g n := fun n hn => by simp [blkOf, over, hn]
  -- a block of what stays outside
  have hnX : ∀ n x b, F' n = false → o n = some x → live x = true → blkOf g n = some b → ¬ (within w g o F).X b := by
    rintro n x b hn hx hl hb ⟨n0, x0, hF0, hx0, hl0, hb0⟩
    refine h.apart n0 n x0 x ?_ hx0 hx hl0 hl b hb0 hb
    intro e; subst e; rw [hFF _ hF0] at hn; cases hn
  have hlt : ∀ n x b, o n = some x → live x = true → blkOf g n = some b → b < w.heap.size := fun n x b hx hl hb => OR_blk (h.objs n x hx) hl b hb
  have cross : ∀ n m x y b, F' n = true → F' m = false → o' n = some x → o m = some y → live x = true → live y = true → blkOf g' n = some b → blkOf g m ≠ some b := by
    intro n m x y b hn hm hx hy hlx hly hbn hbm
    rcases h'.mine n x b hx hlx hbn with k | k
    · exact hnX m y b hm hy hly hbm k
    · have := hlt m y b hy hly hbm
      have : w.heap.size ≤ b := k
      omega
  refine ⟨⟨?_, ?_, ?_, ?_, ?_, ?_, ?_, ?_⟩, hg, hg'⟩
  · intro n x hn
    by_cases hf : F' n = true
    · simp only [over, hf, if_true] at hn
      refine OR_keep (h'.objs n x hn) hg' fun b hb hl => ⟨rfl, fun a ha => rfl⟩
    · simp only [over, hf, if_false] at hn
      have hf' : F' n = false := by simpa using hf
      refine OR_keep (h.objs n x hn) hg fun b hb hl => ?_
      have hX := hnX n x b hf' hn hl hb
      have hl2 := hlt n x b hn hl hb
      exact ⟨h'.ext.block b hl2 hX, fun a ha => h'.old a (by rw [ha]; exact hl2) (by rw [ha]; exact hX)⟩
  · intro n hn
    by_cases hf : F' n = true
    · simp only [over, hf, if_true] at hn ⊢
      exact h'.dom n hn
    · simp only [over, hf, if_false] at hn ⊢
      exact h.dom n hn
  · intro n m x y hne hn hm hlx hly b hbn hbm
    by_cases hf : F' n = true <;> by_cases hf2 : F' m = true
    · simp only [over, hf, hf2, if_true] at hn hm
      rw [hb1 n hf] at hbn; rw [hb1 m hf2] at hbm
      exact h'.apart n m x y hne hn hm hlx hly b hbn hbm
    · have hf2' : F' m = false := by simpa using hf2
      simp only [over, hf, hf2', if_true] at hn hm
      rw [hb1 n hf] at hbn; rw [hb2 m hf2'] at hbm
      exact cross n m x y b hf hf2' hn hm hlx hly hbn hbm
    · have hf' : F' n = false := by simpa using hf
      simp only [over, hf', hf2, if_true] at hn hm
      rw [hb2 n hf'] at hbn; rw [hb1 m hf2] at hbm
      exact cross m n y x b hf2 hf' hm hn hly hlx hbm hbn
    · have hf' : F' n = false := by simpa using hf
      have hf2' : F' m = false := by simpa using hf2
      simp only [over, hf', hf2'] at hn hm
      rw [hb2 n hf'] at hbn; rw [hb2 m hf2'] at hbm
      exact h.apart n m x y hne hn hm hlx hly b hbn hbm
  · exact h'.mem
  · refine ⟨h'.ext.os.trans h.ext.os, h'.ext.tape.trans h.ext.tape, h'.ext.output.trans h.ext.output, Nat.le_trans h.ext.size h'.ext.size, fun b hb hX => ?_⟩
    refine (h'.ext.block b (Nat.lt_of_lt_of_le hb h.ext.size) ?_).trans (h.ext.block b hb hX)
    rintro ⟨n0, x0, hF0, hx0, hl0, hb0⟩
    rcases h.mine n0 x0 b hx0 hl0 hb0 with k | k
    · exact hX k
    · omega
  · intro a v ha
    exact h'.grow a v (h.grow a v ha)
  · intro a ha hX
    refine (h'.old a (Nat.lt_of_lt_of_le ha h.ext.size) ?_).trans (h.old a ha hX)
    rintro ⟨n0, x0, hF0, hx0, hl0, hb0⟩
    rcases h.mine n0 x0 _ hx0 hl0 hb0 with k | k
    · exact hX k
    · omega
  · intro n x b hn hl hb
    by_cases hf : F' n = true
    · simp only [over, hf, if_true] at hn
      rw [hb1 n hf] at hb
      rcases h'.mine n x b hn hl hb with ⟨n0, x0, hF0, hx0, hl0, hb0⟩ | k
      · exact h.mine n0 x0 b hx0 hl0 hb0
      · exact .inr (Nat.le_trans h.ext.size k)
    · have hf' : F' n = false := by simpa using hf
      simp only [over, hf'] at hn
      rw [hb2 n hf'] at hb
      exact h.mine n x b hn hl hb
end Go.Den
