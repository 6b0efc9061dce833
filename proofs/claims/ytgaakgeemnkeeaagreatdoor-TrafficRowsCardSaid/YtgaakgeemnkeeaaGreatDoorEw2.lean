/- The evaluator, Ev2. -/
import Derived.Test.YtgaakgeemnkeeaaGreatDoorEw1
import Derived.Laws.AppendOwn
import Derived.WalkKit
import Derived.Laws.MakeOwn
import Derived.Great.BuildSlice
import Derived.Lib.AppendStr
import Derived.Laws.CopyRow
import Derived.DataElems
import Derived.Great.FillDense
import Derived.Lib.ConvBytes
import Derived.Laws.Tables
import Derived.Laws.StructEq
set_option linter.unusedVariables false
set_option linter.unusedSimpArgs false
namespace Go.Den
abbrev Mem := Addr → Option Value
def CR (M : Mem) : (t : Ty) → t.I → List Value → Prop
 | .bool, b, vs => vs = [.bool b]
 | .int k, n, vs => vs = [.int k n]
 | .str, s, vs => vs = [.string s]
 | .sl t, l, vs => ∃ A c, vs = [.slice A l.length c] ∧ l.length ≤ c ∧ ∀ i x, l[i]? = some x → ∃ ad ws, A = some ad ∧ CR M t x ws ∧ ∀ j v, ws[j]? = some v → M (ad.add (i * t.sz + j)) = some v
 | .arr _ _, _, _ => False
 | .unit, _, _ => False
 | .pair a b, x, vs => ∃ v1 v2, vs = v1 ++ v2 ∧ CR M a x.1 v1 ∧ CR M b x.2 v2
def RR (M : Mem) (t : Ty) : List t.I → List Value → Prop
 | [], ws => ws = []
 | x :: l, ws => ∃ a b, ws = a ++ b ∧ CR M t x a ∧ RR M t l b
def DV (M : Mem) : (t : Ty) → t.I → Value → Prop
 | .bool, b, v => v = .bool b
 | .int k, n, v => v = .int k n
 | .str, s, v => v = .string s
 | .sl t, l, v => t.flat = true ∧ CR M (.sl t) l [v]
 | .arr n t, l, v => t.flat = true ∧ l.length = n ∧ ∃ ws : List Value, v = .agg ws.toArray ∧ RR M t l ws
 | .unit, _, _ => False
 | .pair _ _, _, _ => False
structure G where
 M : Mem
 E : Nat → Option (Value × Nat)
def baseOf : Value → Option Addr
 | .pointer a => a
 | .slice a _ _ => a
 | _ => none
mutual
def VR (g : G) : AV → Value → Prop
 | .d t x, v => DV g.M t x v
 | .ptr n off, v => ∃ p z, g.E n = some (.pointer (some p), z) ∧ v = .pointer (some (p.add off))
 | .eptr n i off, v => ∃ p z u, g.E n = some (u, z) ∧ baseOf u = some p ∧ v = .pointer (some (p.add (i.toNat * z + off)))
 | .dp cs, v => ∃ ad ws, v = .pointer (some ad) ∧ VRL g cs ws ∧ ∀ j u, ws[j]? = some u → g.M (ad.add j) = some u
 | .pnil, v => v = .pointer none
 | .nilsl, v => v = .slice none 0 0
 | .nilf, v => v = .nilFunc
 | .nili, v => v = .nilIface
 | .row n, v => ∃ z, g.E n = some (v, z) ∧ v.oneCell' = true
 | .win n a b, v => ∃ A len cap z A', g.E n = some (.slice A len cap, z) ∧ a ≤ b ∧ b ≤ cap ∧ (a = 0 → A' = A) ∧ (0 < a → a < cap → A' = A.map (·.add (a * z))) ∧ v = .slice A' (b - a) (cap - a)
 | .fn f a b, v => ∃ a' b' : List Value, v = .func f a'.toArray b'.toArray ∧ VRL g a a' ∧ VRL g b b'
 | .agg cs, v => ∃ ws : List Value, v = .agg ws.toArray ∧ VRL g cs ws ∧ ∀ u ∈ ws, u.oneCell' = true
 | .tup cs, v => ∃ ws : List Value, v = .tuple ws.toArray ∧ VRL g cs ws
 | .glob n, v => v = .pointer (some ⟨n, 0, none⟩)
 | .dead, _ => True
def VRL (g : G) : List AV → List Value → Prop
 | [], [] => True
 | a :: as, v :: vs => VR g a v ∧ VRL g as vs
 | [], _ :: _ => False
 | _ :: _, [] => False
end
structure GE (g g' : G) : Prop where
 M : ∀ a v, g.M a = some v → g'.M a = some v
 E : ∀ n u, g.E n = some u → g'.E n = some u
theorem GE.refl (g : G) : GE g g := ⟨fun _ _ h => h, fun _ _ h => h⟩
theorem GE.trans {g g' g'' : G} (h : GE g g') (k : GE g' g'') : GE g g'' := ⟨fun a v x => k.M a v (h.M a v x), fun n u x => k.E n u (h.E n u x)⟩
theorem CR_mono {M M' : Mem} (h : ∀ a v, M a = some v → M' a = some v) : ∀ (t : Ty) (x : t.I) (vs : List Value), CR M t x vs → CR M' t x vs := by
 intro t
 induction t with
 | bool => intro x vs hx; exact hx
 | int k => intro x vs hx; exact hx
 | str => intro x vs hx; exact hx
 | sl t ih =>
  rintro l vs ⟨A, c, e, hc, hx⟩
  refine ⟨A, c, e, hc, fun i x hi => ?_⟩
  obtain ⟨ad, ws, ha, hw, hm⟩ := hx i x hi
  exact ⟨ad, ws, ha, ih x ws hw, fun j v hj => h _ _ (hm j v hj)⟩
 | arr n t ih => intro x vs hx; exact hx
 | unit => intro x vs hx; exact hx
 | pair a b iha ihb =>
  rintro x vs ⟨v1, v2, e, h1, h2⟩
  exact ⟨v1, v2, e, iha _ _ h1, ihb _ _ h2⟩
theorem RR_mono {M M' : Mem} (h : ∀ a v, M a = some v → M' a = some v) (t : Ty) : ∀ (l : List t.I) (ws : List Value), RR M t l ws → RR M' t l ws
 | [], ws, hx => hx
 | x :: l, ws, ⟨a, b, e, h1, h2⟩ => ⟨a, b, e, CR_mono h t x a h1, RR_mono h t l b h2⟩
theorem DV_mono {M M' : Mem} (h : ∀ a v, M a = some v → M' a = some v) (t : Ty) (x : t.I) (v : Value) (hx : DV M t x v) : DV M' t x v := by
 cases t with
 | bool => exact hx
 | int k => exact hx
 | str => exact hx
 | sl t => exact ⟨hx.1, CR_mono h (.sl t) x _ hx.2⟩
 | arr n t => obtain ⟨hf, hl, ws, e, hr⟩ := hx; exact ⟨hf, hl, ws, e, RR_mono h t _ _ hr⟩
 | unit => exact hx
 | pair a b => exact hx
mutual
theorem VR_mono {g g' : G} (h : GE g g') : ∀ (a : AV) (v : Value), VR g a v → VR g' a v
 | .d t x, v, hx => DV_mono h.M t x v hx
 | .ptr n off, v, ⟨p, z, he, hv⟩ => ⟨p, z, h.E _ _ he, hv⟩
 | .eptr n i off, v, ⟨p, z, u, he, hb, hv⟩ => ⟨p, z, u, h.E _ _ he, hb, hv⟩
 | .dp cs, v, ⟨ad, ws, hv, hc, hm⟩ => ⟨ad, ws, hv, VRL_mono h cs ws hc, fun j u hj => h.M _ _ (hm j u hj)⟩
 | .pnil, v, hx => hx
 | .nilsl, v, hx => hx
 | .nilf, v, hx => hx
 | .nili, v, hx => hx
 | .glob n, v, hx => hx
 | .row n, v, ⟨z, he, h1⟩ => ⟨z, h.E _ _ he, h1⟩
 | .win n a b, v, ⟨A, len, cap, z, A', he, h1⟩ => ⟨A, len, cap, z, A', h.E _ _ he, h1⟩
 | .fn f a b, v, ⟨a', b', hv, ha, hb⟩ => ⟨a', b', hv, VRL_mono h a a' ha, VRL_mono h b b' hb⟩
 | .agg cs, v, ⟨ws, hv, hc, h1⟩ => ⟨ws, hv, VRL_mono h cs ws hc, h1⟩
 | .tup cs, v, ⟨ws, hv, hc⟩ => ⟨ws, hv, VRL_mono h cs ws hc⟩
 | .dead, v, hx => hx
theorem VRL_mono {g g' : G} (h : GE g g') : ∀ (as : List AV) (vs : List Value), VRL g as vs → VRL g' as vs
 | [], [], hx => hx
 | a :: as, v :: vs, ⟨h1, h2⟩ => ⟨VR_mono h a v h1, VRL_mono h as vs h2⟩
 | [], _ :: _, hx => hx.elim
 | _ :: _, [], hx => hx.elim
end
theorem VRL_length {g : G} : ∀ {as : List AV} {vs : List Value}, VRL g as vs → as.length = vs.length
 | [], [], _ => rfl
 | _ :: as, _ :: vs, ⟨_, h⟩ => by simp [VRL_length h]
 | [], _ :: _, h => h.elim
 | _ :: _, [], h => h.elim
theorem VRL_get {g : G} : ∀ {as : List AV} {vs : List Value}, VRL g as vs → ∀ (i : Nat) (a : AV), as[i]? = some a → ∃ v, vs[i]? = some v ∧ VR g a v
 | [], [], _, i, a, h => by simp at h
 | x :: as, v :: vs, ⟨h1, h2⟩, 0, a, h => by simp at h; subst h; exact ⟨v, by simp, h1⟩
 | x :: as, v :: vs, ⟨h1, h2⟩, i + 1, a, h => by simpa using VRL_get h2 i a (by simpa using h)
 | [], _ :: _, h, _, _, _ => h.elim
 | _ :: _, [], h, _, _, _ => h.elim
theorem VRL_drop {g : G} : ∀ {as : List AV} {vs : List Value} (n : Nat), VRL g as vs → VRL g (as.drop n) (vs.drop n)
 | [], [], n, h => by simpa using h
 | _ :: as, _ :: vs, 0, h => by simpa using h
 | _ :: as, _ :: vs, n + 1, ⟨_, h⟩ => by simpa using VRL_drop n h
 | [], _ :: _, _, h => h.elim
 | _ :: _, [], _, h => h.elim
theorem VRL_take {g : G} : ∀ {as : List AV} {vs : List Value} (n : Nat), VRL g as vs → VRL g (as.take n) (vs.take n)
 | [], [], n, h => by simpa using h
 | _ :: as, _ :: vs, 0, h => by simp [VRL]
 | _ :: as, _ :: vs, n + 1, ⟨h1, h⟩ => by simp only [List.take_succ_cons]; exact ⟨h1, VRL_take n h⟩
 | [], _ :: _, _, h => h.elim
 | _ :: _, [], _, h => h.elim
theorem VRL_append {g : G} : ∀ {as bs : List AV} {vs us : List Value}, VRL g as vs → VRL g bs us → VRL g (as ++ bs) (vs ++ us)
 | [], _, [], _, _, h => by simpa using h
 | _ :: as, _, _ :: vs, _, ⟨h1, h⟩, k => ⟨h1, VRL_append h k⟩
 | [], _, _ :: _, _, h, _ => h.elim
 | _ :: _, _, [], _, h, _ => h.elim
theorem VRL_set {g : G} : ∀ {as : List AV} {vs : List Value} (i : Nat) (a : AV) (v : Value), VRL g as vs → VR g a v → VRL g (as.set i a) (vs.set i v)
 | [], [], i, a, v, h, _ => by simpa using h
 | _ :: as, _ :: vs, 0, a, v, ⟨_, h⟩, hv => ⟨hv, h⟩
 | _ :: as, _ :: vs, i + 1, a, v, ⟨h1, h⟩, hv => ⟨h1, VRL_set i a v h hv⟩
 | [], _ :: _, _, _, _, h, _ => h.elim
 | _ :: _, [], _, _, _, h, _ => h.elim
theorem VRL_replicate {g : G} (n : Nat) (v : Value) : VRL g (List.replicate n .dead) (List.replicate n v) := by
 induction n with
 | zero => simp [VRL]
 | succ n ih => simp only [List.replicate_succ]; exact ⟨trivial, ih⟩
theorem CR_length {M : Mem} : ∀ (t : Ty) (x : t.I) (vs : List Value), CR M t x vs → vs.length = t.sz := by
 intro t
 induction t with
 | bool => intro x vs h; rw [show vs = _ from h]; rfl
 | int k => intro x vs h; rw [show vs = _ from h]; rfl
 | str => intro x vs h; rw [show vs = _ from h]; rfl
 | sl t ih => rintro l vs ⟨A, c, e, _⟩; rw [e]; rfl
 | arr n t ih => intro x vs h; exact h.elim
 | unit => intro x vs h; exact h.elim
 | pair a b iha ihb => rintro x vs ⟨v1, v2, e, h1, h2⟩; rw [e, List.length_append, iha _ _ h1, ihb _ _ h2]; rfl
theorem CR_one {M : Mem} : ∀ (t : Ty) (x : t.I) (vs : List Value), CR M t x vs → ∀ v ∈ vs, v.oneCell' = true := by
 intro t
 induction t with
 | bool => intro x vs h; rw [show vs = _ from h]; simp [Value.oneCell']
 | int k => intro x vs h; rw [show vs = _ from h]; simp [Value.oneCell']
 | str => intro x vs h; rw [show vs = _ from h]; simp [Value.oneCell']
 | sl t ih => rintro l vs ⟨A, c, e, _⟩; rw [e]; simp [Value.oneCell']
 | arr n t ih => intro x vs h; exact h.elim
 | unit => intro x vs h; exact h.elim
 | pair a b iha ihb =>
  rintro x vs ⟨v1, v2, e, h1, h2⟩ v hv
  rw [e] at hv
  rcases List.mem_append.1 hv with h | h
  ·exact iha _ _ h1 v h
  ·exact ihb _ _ h2 v h
theorem RR_length {M : Mem} (t : Ty) : ∀ (l : List t.I) (ws : List Value), RR M t l ws → ws.length = l.length * t.sz
 | [], ws, h => by rw [show ws = [] from h]; simp
 | x :: l, ws, ⟨a, b, e, h1, h2⟩ => by rw [e, List.length_append, CR_length t x a h1, RR_length t l b h2, List.length_cons, Nat.add_mul]; omega
theorem RR_one {M : Mem} (t : Ty) : ∀ (l : List t.I) (ws : List Value), RR M t l ws → ∀ v ∈ ws, v.oneCell' = true
 | [], ws, h => by rw [show ws = [] from h]; simp
 | x :: l, ws, ⟨a, b, e, h1, h2⟩ => by
  intro v hv
  rw [e] at hv
  rcases List.mem_append.1 hv with h | h
  ·exact CR_one t x a h1 v h
  ·exact RR_one t l b h2 v h
theorem RR_append {M : Mem} (t : Ty) : ∀ (l : List t.I) (ws : List Value) (l' : List t.I) (ws' : List Value), RR M t l ws → RR M t l' ws' → RR M t (l ++ l') (ws ++ ws')
 | [], ws, l', ws', h, k => by rw [show ws = [] from h]; exact k
 | x :: l, ws, l', ws', ⟨a, b, e, h1, h2⟩, k => ⟨a, b ++ ws', by rw [e, List.append_assoc], h1, RR_append t l b l' ws' h2 k⟩
theorem RR_get {M : Mem} (t : Ty) : ∀ (l : List t.I) (ws : List Value), RR M t l ws → ∀ (i : Nat) (x : t.I), l[i]? = some x → ∃ a, CR M t x a ∧ a.length = t.sz ∧ (ws.drop (i * t.sz)).take t.sz = a
 | [], ws, h, i, x, hi => by simp at hi
 | y :: l, ws, ⟨a, b, e, h1, h2⟩, 0, x, hi => by
  simp at hi
  subst hi
  have := CR_length t y a h1
  exact ⟨a, h1, this, by rw [e]; simp [← this]⟩
 | y :: l, ws, ⟨a, b, e, h1, h2⟩, i + 1, x, hi => by
  obtain ⟨c, hc, hl, hd⟩ := RR_get t l b h2 i x (by simpa using hi)
  refine ⟨c, hc, hl, ?_⟩
  have ha := CR_length t y a h1
  rw [e, Nat.add_mul, Nat.one_mul, Nat.add_comm, ← List.drop_drop]
  rw [← ha, List.drop_left, ha]
  exact hd
theorem RR_cell {M : Mem} (t : Ty) (l : List t.I) (ws : List Value) (h : RR M t l ws) (i : Nat) (x : t.I) (hi : l[i]? = some x) : ∃ a, CR M t x a ∧ ∀ j v, a[j]? = some v → ws[i * t.sz + j]? = some v := by
 obtain ⟨a, hc, hl, hd⟩ := RR_get t l ws h i x hi
 refine ⟨a, hc, fun j v hj => ?_⟩
 have hlt : j < a.length := (List.getElem?_eq_some_iff.1 hj).1
 rw [← hd, List.getElem?_take_of_lt (by omega), List.getElem?_drop] at hj
 exact hj
theorem leaves_VRL {g : G} : ∀ (t : Ty) (x : t.I) (vs : List Value), t.flat = true → CR g.M t x vs → VRL g (leaves t x) vs := by
 intro t
 induction t with
 | bool => intro x vs _ h; rw [show vs = _ from h]; exact ⟨rfl, trivial⟩
 | int k => intro x vs _ h; rw [show vs = _ from h]; exact ⟨rfl, trivial⟩
 | str => intro x vs _ h; rw [show vs = _ from h]; exact ⟨rfl, trivial⟩
 | sl t ih =>
  intro l vs hf h
  have h' := h
  obtain ⟨A, c, e, _⟩ := h
  subst e
  exact ⟨⟨by simpa [Ty.flat] using hf, h'⟩, trivial⟩
 | arr n t ih => intro x vs _ h; exact h.elim
 | unit => intro x vs _ h; exact h.elim
 | pair a b iha ihb =>
  rintro x vs hf ⟨v1, v2, e, h1, h2⟩
  simp only [Ty.flat, Bool.and_eq_true] at hf
  rw [e]
  exact VRL_append (iha _ _ hf.1 h1) (ihb _ _ hf.2 h2)
theorem leaves_length : ∀ (t : Ty) (x : t.I), t.flat = true → (leaves t x).length = t.sz := by
 intro t
 induction t with
 | bool => intro x _; rfl
 | int k => intro x _; rfl
 | str => intro x _; rfl
 | sl t ih => intro x _; rfl
 | arr n t ih => intro x h; simp [Ty.flat] at h
 | unit => intro x h; simp [Ty.flat] at h
 | pair a b iha ihb =>
  intro x hf
  simp only [Ty.flat, Bool.and_eq_true] at hf
  simp [leaves, iha _ hf.1, ihb _ hf.2, Ty.sz]
theorem leafK_sound {R : Type} {g : G} (t : Ty) (h1 : ∀ (x : t.I) (v : Value), DV g.M t x v → CR g.M t x [v]) (cs : List AV) (vs : List Value) (κ : t.I → List AV → Option R) (r : R)
  (h : leafK t cs κ = some r) (hc : VRL g cs vs) : ∃ x cs' v1 v2, κ x cs' = some r ∧ vs = v1 ++ v2 ∧ CR g.M t x v1 ∧ VRL g cs' v2 := by
 unfold leafK at h
 split at h
 ·rename_i t' x rest
  split at h
  ·rename_i ht
   subst ht
   cases vs with
   | nil => exact hc.elim
   | cons v vs =>
    obtain ⟨hv, hr⟩ := hc
    exact ⟨x, rest, [v], vs, h, rfl, h1 x v hv, hr⟩
  ·cases h
 ·cases h
theorem packK_sound {R : Type} {g : G} : ∀ (t : Ty) (cs : List AV) (vs : List Value) (κ : t.I → List AV → Option R) (r : R), t.flat = true →
  packK t cs κ = some r → VRL g cs vs → ∃ x cs' v1 v2, κ x cs' = some r ∧ vs = v1 ++ v2 ∧ CR g.M t x v1 ∧ VRL g cs' v2 := by
 intro t
 induction t with
 | bool => intro cs vs κ r _ h hc; exact leafK_sound .bool (fun x v hv => by rw [show v = _ from hv]; rfl) cs vs κ r (by simpa [packK] using h) hc
 | int k => intro cs vs κ r _ h hc; exact leafK_sound (.int k) (fun x v hv => by rw [show v = _ from hv]; rfl) cs vs κ r (by simpa [packK] using h) hc
 | str => intro cs vs κ r _ h hc; exact leafK_sound .str (fun x v hv => by rw [show v = _ from hv]; rfl) cs vs κ r (by simpa [packK] using h) hc
 | sl t ih =>
  intro cs vs κ r _ h hc
  rw [show packK (.sl t) cs κ = slK t cs κ from rfl] at h
  unfold slK at h
  split at h
  ·rename_i rest
   cases vs with
   | nil => exact hc.elim
   | cons v vs =>
    obtain ⟨hv, hr⟩ := hc
    exact ⟨[], rest, [v], vs, h, rfl, ⟨none, 0, by rw [show v = _ from hv]; rfl, Nat.le_refl _, fun i x hi => by simp at hi⟩, hr⟩
  ·exact leafK_sound (.sl t) (fun x v hv => hv.2) _ vs κ r h hc
 | arr n t ih => intro cs vs κ r hf; simp [Ty.flat] at hf
 | unit => intro cs vs κ r hf; simp [Ty.flat] at hf
 | pair a b iha ihb =>
  intro cs vs κ r hf h hc
  simp only [Ty.flat, Bool.and_eq_true] at hf
  unfold packK at h
  obtain ⟨x, cs1, v1, v2, hk, e, hx, hr⟩ := iha cs vs _ r hf.1 h hc
  obtain ⟨y, cs2, v3, v4, hk2, e2, hy, hr2⟩ := ihb cs1 v2 _ r hf.2 hk hr
  exact ⟨(x, y), cs2, v1 ++ v3, v4, hk2, by rw [e, e2, List.append_assoc], ⟨v1, v3, rfl, hx, hy⟩, hr2⟩
end Go.Den
set_option linter.unusedVariables false
set_option linter.unusedSimpArgs false
namespace Go.Den
def okFz (fz : Nat × Nat) (n : Nat) : Prop := fz = (0, 0) ∨ n ≤ fz.1
def _root_.Go.World.ownsR (w : World) (base : Nat) (e : TypeId) (size : Nat) (v : Value) (n : Nat) (xs : List Value) : Prop :=
 xs.length = n * size ∧
 ((v = .slice none 0 0 ∧ n = 0) ∨
 ∃ g cap cur fz, v = .slice (some ⟨g, 0, none⟩) n cap ∧ base ≤ g ∧ w.heap[g]? = some (.cells cur e fz) ∧ okFz fz cur.size ∧ n ≤ cap ∧ cap ≤ maxLen ∧ cur.size = cap * size ∧ cur.toList.take (n * size) = xs)
theorem _root_.Go.World.ownsR_nil (w : World) (base : Nat) (e : TypeId) (size : Nat) : w.ownsR base e size (.slice none 0 0) 0 [] := ⟨by simp, .inl ⟨rfl, rfl⟩⟩
theorem _root_.Go.World.ownsR.cells {w : World} {base : Nat} {e : TypeId} {size : Nat} {v : Value} {n : Nat} {xs : List Value} (h : w.ownsR base e size v n xs) {g : Nat} (hg : v.ownBlock = some g) : ∀ j u, xs[j]? = some u → w.cell? ((⟨g, 0, none⟩ : Addr).add j) = some u := by
 intro j u hu
 rcases h.2 with ⟨rfl, _⟩ | ⟨g', cap, cur, fz, rfl, _, hgg, _, _, _, _, htake⟩
 ·simp [Value.ownBlock] at hg
 ·simp [Value.ownBlock] at hg
  subst hg
  have hadd : (⟨g', 0, none⟩ : Addr).add j = ⟨g', j, none⟩ := by unfold Addr.add; split <;> simp_all
  rw [hadd]
  have hc : cur[j]? = some u := by
   rw [← htake, List.getElem?_take] at hu
   split at hu
   ·simpa using hu
   ·cases hu
  simp [World.cell?, hgg, hc]
theorem _root_.Go.World.ownsR.lt {w : World} {base : Nat} {e : TypeId} {size : Nat} {v : Value} {n : Nat} {xs : List Value} (h : w.ownsR base e size v n xs) : ∀ k, v.ownBlock = some k → base ≤ k ∧ k < w.heap.size := by
 intro k hk
 rcases h.2 with ⟨rfl, _⟩ | ⟨g, cap, cur, fz, rfl, hb, hg, _⟩
 ·simp [Value.ownBlock] at hk
 ·simp [Value.ownBlock] at hk
  subst hk
  exact ⟨hb, (Array.getElem?_eq_some_iff.1 hg).1⟩
def blkOf (g : G) (n : Nat) : Option Nat := (g.E n).bind fun u => (baseOf u.1).map (·.block)
def OR (g : G) (w : World) (n : Nat) : Obj → Prop
 | .box cs => ∃ b ws ty, g.E n = some (.pointer (some ⟨b, 0, none⟩), 1) ∧ w.heap[b]? = some (.cells (List.toArray ws) ty (0, 0)) ∧ VRL g cs ws ∧ (∀ u ∈ ws, u.oneCell' = true) ∧ ∀ a, a.block = b → g.M a = none
 | .row e t l frz => ∃ v ws, g.E n = some (v, t.sz) ∧ t.flat = true ∧ w.ownsR 0 e t.sz v l.length ws ∧ RR g.M t l ws ∧ ∀ a, v.ownBlock = some a.block → (frz = false ∨ l.length * t.sz ≤ a.off ∨ a.spot.isSome) → g.M a = none
 | .arr m t l => ∃ b ws ty, g.E n = some (.pointer (some ⟨b, 0, none⟩), t.sz) ∧ (t.flat = true ∧ l.length = m) ∧ w.heap[b]? = some (.cells (List.toArray ws) ty (0, 0)) ∧ RR g.M t l ws ∧ ∀ a, a.block = b → g.M a = none
 | .bld T c => ∃ b p v, g.E n = some (.pointer (some ⟨b, 0, none⟩), 1) ∧ w.heap[b]? = some (.cells #[p, v] T (0, 0)) ∧ (p = .pointer none ∨ p = .pointer (some ⟨b, 0, none⟩)) ∧ VR g c v ∧ v.oneCell' = true ∧ ∀ a, a.block = b → g.M a = none
 | .gone => (g.E n).isSome = true
structure Ext (w0 : World) (X : Nat → Prop) (w : World) : Prop where
 os : w.os = w0.os
 tape : w.tape = w0.tape
 output : w.output = w0.output
 size : w0.heap.size ≤ w.heap.size
 block : ∀ b, b < w0.heap.size → ¬ X b → w.heap[b]? = w0.heap[b]?
structure Base where
 w0 : World
 M0 : Mem
 X : Nat → Prop
structure GlobOk (B : Base) : Prop where
 tab : ∀ n k l, gtab n = some (k, l) → ∀ j x, l[j]? = some x → B.M0 ⟨n, j, none⟩ = some (.int k x)
 far : ∀ n, n ∈ gblk → n < B.w0.heap.size ∧ ¬ B.X n
 ok : gok (gblk.map fun n => B.w0.heap[n]?)
structure WInv (B : Base) (g : G) (o : Objs) (w : World) : Prop where
 objs : ∀ n x, o n = some x → OR g w n x
 dom : ∀ n, o n = none → g.E n = none
 apart : ∀ n m x y, n ≠ m → o n = some x → o m = some y → live x = true → live y = true → ∀ b, blkOf g n = some b → blkOf g m ≠ some b
 mem : ∀ a v, g.M a = some v → w.cell? a = some v ∧ v.oneCell' = true
 ext : Ext B.w0 B.X w
 grow : ∀ a v, B.M0 a = some v → g.M a = some v
 old : ∀ a, a.block < B.w0.heap.size → ¬ B.X a.block → g.M a = B.M0 a
 mine : ∀ n x b, o n = some x → live x = true → blkOf g n = some b → B.X b ∨ B.w0.heap.size ≤ b
 glob : GlobOk B
theorem WInv.gok {B : Base} {g : G} {o : Objs} {w : World} (h : WInv B g o w) : Den.gok (gblk.map fun n => w.heap[n]?) := by
 have e : (gblk.map fun n => w.heap[n]?) = gblk.map fun n => B.w0.heap[n]? := List.map_congr_left fun n hn => h.ext.block n (h.glob.far n hn).1 (h.glob.far n hn).2
 rw [e]
 exact h.glob.ok
theorem ownsRow_keep {w w' : World} {base : Nat} {e size : Nat} {v : Value} {n : Nat} {xs : List Value} (h : w.ownsR base e size v n xs) (hb : ∀ b, v.ownBlock = some b → w'.heap[b]? = w.heap[b]?) : w'.ownsR base e size v n xs := by
 refine ⟨h.1, ?_⟩
 rcases h.2 with h2 | ⟨g, cap, cur, fz, rfl, h3, h4, h5⟩
 ·exact .inl h2
 ·exact .inr ⟨g, cap, cur, fz, rfl, h3, (hb g rfl).trans h4, h5⟩
theorem ownBlock_base {w : World} {base : Nat} {e size : Nat} {v : Value} {n : Nat} {xs : List Value} (h : w.ownsR base e size v n xs) : (baseOf v).map (·.block) = v.ownBlock := by
 rcases h.2 with ⟨rfl, _⟩ | ⟨g, cap, cur, fz, rfl, _⟩ <;> rfl
theorem OR_keep {g g' : G} {w w' : World} {n : Nat} {x : Obj} (h : OR g w n x) (hg : GE g g')
  (hb : ∀ b, blkOf g n = some b → live x = true → w'.heap[b]? = w.heap[b]? ∧ ∀ a, a.block = b → g'.M a = g.M a) : OR g' w' n x := by
 cases x with
 | box cs =>
  obtain ⟨b, ws, ty, hE, hh, hc, h1, hm⟩ := h
  obtain ⟨k1, k2⟩ := hb b (by simp [blkOf, hE, baseOf]) rfl
  exact ⟨b, ws, ty, hg.E _ _ hE, k1.trans hh, VRL_mono hg cs ws hc, h1, fun a ha => (k2 a ha).trans (hm a ha)⟩
 | row e t l frz =>
  obtain ⟨v, ws, hE, hf, ho, hr, hm⟩ := h
  have hk : ∀ b, v.ownBlock = some b → w'.heap[b]? = w.heap[b]? ∧ ∀ a, a.block = b → g'.M a = g.M a := fun b hvb => hb b (by simp only [blkOf, hE, Option.bind_some]; rw [ownBlock_base ho]; exact hvb) rfl
  exact ⟨v, ws, hg.E _ _ hE, hf, ownsRow_keep ho fun b hvb => (hk b hvb).1, RR_mono hg.M t l ws hr, fun a ha hc => ((hk _ ha).2 a rfl).trans (hm a ha hc)⟩
 | arr m t l =>
  obtain ⟨b, ws, ty, hE, hf, hh, hr, hm⟩ := h
  obtain ⟨k1, k2⟩ := hb b (by simp [blkOf, hE, baseOf]) rfl
  exact ⟨b, ws, ty, hg.E _ _ hE, hf, k1.trans hh, RR_mono hg.M t l ws hr, fun a ha => (k2 a ha).trans (hm a ha)⟩
 | bld T c =>
  obtain ⟨b, p, v, hE, hh, hp, hc, h1, hm⟩ := h
  obtain ⟨k1, k2⟩ := hb b (by simp [blkOf, hE, baseOf]) rfl
  exact ⟨b, p, v, hg.E _ _ hE, k1.trans hh, hp, VR_mono hg c v hc, h1, fun a ha => (k2 a ha).trans (hm a ha)⟩
 | gone =>
  simp only [OR] at h ⊢
  cases hE : g.E n with
  | none => rw [hE] at h; cases h
  | some u => rw [hg.E _ _ hE]; rfl
theorem OR_blk {g : G} {w : World} {n : Nat} {x : Obj} (h : OR g w n x) (hl : live x = true) : ∀ b, blkOf g n = some b → b < w.heap.size := by
 intro b hb
 cases x with
 | box cs =>
  obtain ⟨b', ws, ty, hE, hh, _⟩ := h
  simp [blkOf, hE, baseOf] at hb
  subst hb
  exact (Array.getElem?_eq_some_iff.1 hh).1
 | row e t l frz =>
  obtain ⟨v, ws, hE, _, ho, _⟩ := h
  have hb' : v.ownBlock = some b := by
   simp only [blkOf, hE, Option.bind_some] at hb
   rw [ownBlock_base ho] at hb
   exact hb
  exact (ho.lt b hb').2
 | arr m t l =>
  obtain ⟨b', ws, ty, hE, _, hh, _⟩ := h
  simp [blkOf, hE, baseOf] at hb
  subst hb
  exact (Array.getElem?_eq_some_iff.1 hh).1
 | bld T c =>
  obtain ⟨b', p, v, hE, hh, _⟩ := h
  simp [blkOf, hE, baseOf] at hb
  subst hb
  exact (Array.getElem?_eq_some_iff.1 hh).1
 | gone => cases hl
theorem WInv.some_dom {B : Base} {g : G} {o : Objs} {w : World} (h : WInv B g o w) {n : Nat} {u : Value × Nat} (hE : g.E n = some u) : ∃ x, o n = some x := by
 cases ho : o n with
 | some x => exact ⟨x, rfl⟩
 | none => rw [h.dom n ho] at hE; cases hE
theorem OR_some {g : G} {w : World} {n : Nat} {x : Obj} (h : OR g w n x) : (g.E n).isSome = true := by
 cases x with
 | box cs => obtain ⟨b, ws, ty, hE, _⟩ := h; rw [hE]; rfl
 | row e t l frz => obtain ⟨v, ws, hE, _⟩ := h; rw [hE]; rfl
 | arr m t l => obtain ⟨b, ws, ty, hE, _⟩ := h; rw [hE]; rfl
 | bld T c => obtain ⟨b, p, v, hE, _⟩ := h; rw [hE]; rfl
 | gone => exact h
theorem WInv.drawn {B : Base} {g : G} {o : Objs} {w : World} (h : WInv B g o w) (k : Nat) : WInv B g o { w with drawn := k } :=
 ⟨fun n x hn => OR_keep (h.objs n x hn) (GE.refl g) (fun _ _ _ => ⟨rfl, fun _ _ => rfl⟩), h.dom, h.apart, h.mem, ⟨h.ext.os, h.ext.tape, h.ext.output, h.ext.size, h.ext.block⟩, h.grow, h.old, h.mine, h.glob⟩
theorem WInv.put {B : Base} {g g' : G} {o : Objs} {w w' : World} (h : WInv B g o w) (n0 : Nat) (x' : Obj) (hg : GE g g')
  (hE : ∀ n, n ≠ n0 → g'.E n = g.E n)
  (hx : OR g' w' n0 x')
  (hw : w'.os = w.os ∧ w'.tape = w.tape ∧ w'.output = w.output ∧ w.heap.size ≤ w'.heap.size)
  (hblk : ∀ b, b < w.heap.size → (∀ x, o n0 = some x → live x = true → blkOf g n0 ≠ some b) → w'.heap[b]? = w.heap[b]?)
  (hM : g'.M = g.M)
  (hsafe : ∀ b a v, (∃ x, o n0 = some x ∧ live x = true ∧ blkOf g n0 = some b) → a.block = b → g.M a = some v → w'.cell? a = some v)
  (hnew : ∀ b, live x' = true → blkOf g' n0 = some b → w.heap.size ≤ b ∨ ∃ x, o n0 = some x ∧ live x = true ∧ blkOf g n0 = some b)
  : WInv B g' (upd o n0 x') w' := by
 have hsub : ∀ n, n ≠ n0 → blkOf g' n = blkOf g n := fun n hn => by simp [blkOf, hE n hn]
 refine ⟨?_, ?_, ?_, ?_, ?_, ?_, ?_, ?_, h.glob⟩
 ·intro n x hn
  unfold upd at hn
  split at hn
  ·rename_i e; subst e; cases hn; exact hx
  ·rename_i hne
   refine OR_keep (h.objs n x hn) hg fun b hb hl => ⟨hblk b (OR_blk (h.objs n x hn) hl b hb) ?_, fun a ha => by rw [hM]⟩
   intro y hy hly hb'
   exact h.apart n n0 x y hne hn hy hl hly b hb hb'
 ·intro n hn
  unfold upd at hn
  split at hn
  ·cases hn
  ·rename_i hne; rw [hE n hne]; exact h.dom n hn
 ·intro n m x y hnm hn hm hlx hly b hbn hbm
  unfold upd at hn hm
  split at hn
  ·rename_i e; subst e; cases hn
   split at hm
   ·rename_i e; exact hnm e.symm
   ·rename_i hne
    rw [hsub m hne] at hbm
    rcases hnew b hlx hbn with hge | ⟨x0, hx0, hl0, hb0⟩
    ·have := OR_blk (h.objs m y hm) hly b hbm; omega
    ·exact h.apart n m x0 y hnm hx0 hm hl0 hly b hb0 hbm
  ·rename_i hne
   rw [hsub n hne] at hbn
   split at hm
   ·rename_i e; subst e; cases hm
    rcases hnew b hly hbm with hge | ⟨x0, hx0, hl0, hb0⟩
    ·have := OR_blk (h.objs n x hn) hlx b hbn; omega
    ·exact h.apart n m x x0 hnm hn hx0 hlx hl0 b hbn hb0
   ·rename_i hne2
    rw [hsub m hne2] at hbm
    exact h.apart n m x y hnm hn hm hlx hly b hbn hbm
 ·intro a v ha
  rw [hM] at ha
  obtain ⟨hc, h1⟩ := h.mem a v ha
  refine ⟨?_, h1⟩
  by_cases hb : ∃ x, o n0 = some x ∧ live x = true ∧ blkOf g n0 = some a.block
  ·exact hsafe a.block a v hb rfl ha
  ·rw [World.cell?_of_block (hblk a.block (World.block_lt_of_cell? w a hc) fun x hx hl hb' => hb ⟨x, hx, hl, hb'⟩)]
   exact hc
 ·refine ⟨hw.1.trans h.ext.os, hw.2.1.trans h.ext.tape, hw.2.2.1.trans h.ext.output, Nat.le_trans h.ext.size hw.2.2.2, fun b hb hX => ?_⟩
  refine (hblk b (Nat.lt_of_lt_of_le hb h.ext.size) ?_).trans (h.ext.block b hb hX)
  intro x hx hl hb'
  rcases h.mine n0 x b hx hl hb' with k | k
  ·exact hX k
  ·omega
 ·intro a v ha; rw [hM]; exact h.grow a v ha
 ·intro a ha hX; rw [hM]; exact h.old a ha hX
 ·intro n x b hn hl hb
  unfold upd at hn
  split at hn
  ·rename_i e; subst e; cases hn
   rcases hnew b hl hb with k | ⟨x0, hx0, hl0, hb0⟩
   ·exact .inr (Nat.le_trans h.ext.size k)
   ·exact h.mine n x0 b hx0 hl0 hb0
  ·rename_i hne
   rw [hsub n hne] at hb
   exact h.mine n x b hn hl hb
theorem WInv.learn {B : Base} {g : G} {o : Objs} {w : World} (h : WInv B g o w) (M' : Mem) (n0 : Nat) (o' : Objs)
  (hgrow : ∀ a v, g.M a = some v → M' a = some v)
  (hmem : ∀ a v, M' a = some v → w.cell? a = some v ∧ v.oneCell' = true)
  (hobj : ∀ n x, n ≠ n0 → o n = some x → live x = true → ∀ b a, blkOf g n = some b → a.block = b → M' a = g.M a)
  (hsame : ∀ n, n ≠ n0 → o' n = o n)
  (h0 : ∀ x, o' n0 = some x → OR ⟨M', g.E⟩ w n0 x ∧ (live x = true → ∃ y, o n0 = some y ∧ live y = true))
  (h0n : o' n0 = none → o n0 = none)
  (hold : ∀ a, a.block < B.w0.heap.size → ¬ B.X a.block → M' a = g.M a) : WInv B ⟨M', g.E⟩ o' w := by
 have hg : GE g ⟨M', g.E⟩ := ⟨hgrow, fun _ _ e => e⟩
 have hbk : ∀ n, blkOf ⟨M', g.E⟩ n = blkOf g n := fun _ => rfl
 have hlive : ∀ n x, o' n = some x → live x = true → ∃ y, o n = some y ∧ live y = true := by
  intro n x hn hl
  by_cases e : n = n0
  ·subst e; exact (h0 x hn).2 hl
  ·rw [hsame n e] at hn; exact ⟨x, hn, hl⟩
 refine ⟨?_, ?_, ?_, ?_, ?_, ?_, ?_, ?_, h.glob⟩
 ·intro n x hn
  by_cases e : n = n0
  ·subst e; exact (h0 x hn).1
  ·rw [hsame n e] at hn
   exact OR_keep (h.objs n x hn) hg fun b hb hl => ⟨rfl, fun a ha => hobj n x e hn hl b a hb ha⟩
 ·intro n hn
  by_cases e : n = n0
  ·subst e; exact h.dom n (h0n hn)
  ·rw [hsame n e] at hn; exact h.dom n hn
 ·intro n m x y hnm hn hm hlx hly b hb hb'
  obtain ⟨x', hx', hlx'⟩ := hlive n x hn hlx
  obtain ⟨y', hy', hly'⟩ := hlive m y hm hly
  exact h.apart n m x' y' hnm hx' hy' hlx' hly' b hb hb'
 ·exact hmem
 ·exact h.ext
 ·exact fun a v ha => hgrow a v (h.grow a v ha)
 ·exact fun a ha hX => (hold a ha hX).trans (h.old a ha hX)
 ·intro n x b hn hl hb
  obtain ⟨x', hx', hlx'⟩ := hlive n x hn hl
  exact h.mine n x' b hx' hlx' hb
end Go.Den
set_option linter.unusedVariables false
set_option linter.unusedSimpArgs false
namespace Go.Den
def zOk : Ty → List Value → Option (List Value)
 | .bool, .bool false :: r => some r
 | .int k, .int k' n :: r => if k = k' ∧ n = 0 then some r else none
 | .str, .string s :: r => if s.data.toList.length = 0 then some r else none
 | .sl _, .slice none 0 0 :: r => some r
 | .pair a b, vs => (zOk a vs).bind fun vs => zOk b vs
 | _, _ => none
def zOkN : Nat → Ty → List Value → Option (List Value)
 | 0, _, vs => some vs
 | n + 1, t, vs => (zOk t vs).bind fun vs => zOkN n t vs
def chkMore (P : Program) (d : TypeDesc) (z : List Value) : Bool :=
 match d with
 | .struct fs => fs.toList.all fun f => (P.info? f.type).isSome
 | .array n e => match tyOf P 40 e with
  | some te => te.flat && (match zOkN n te z with | some [] => true | _ => false)
  | none => true
 | _ => true
def tdChk (P : Program) (t : TypeId) (d : TD) : Bool :=
 (P.underlying t).isSome && match P.info? t with
 | some i => match i.zero with
  | some z => chkMore P ((P.underlying t).getD .invalid) z.cells.toList && z.cells.size == i.size && z.cells.toList.all (·.oneCell') && (match d.ty with
   | some ty => ty.flat && ty.sz == i.size && (match zOk ty z.cells.toList with | some [] => true | _ => false)
   | none => true)
  | none => false
 | none => false
def tdNone : TD := { k := .other, sz := 0, nb := 0, ty := none, zero := [], eq := false }
theorem zOk_CR {M : Mem} : ∀ (t : Ty) (vs r : List Value), t.flat = true → zOk t vs = some r → ∃ v1, vs = v1 ++ r ∧ CR M t (zeroI t) v1 := by
 intro t
 induction t with
 | bool =>
  intro vs r _ h
  unfold zOk at h
  split at h <;> simp_all
  subst h
  exact ⟨[.bool false], rfl, rfl⟩
 | int k =>
  intro vs r _ h
  unfold zOk at h
  split at h
  ·simp_all
  ·rename_i k0 k' n r' heq
   cases heq
   split at h
   ·rename_i hc
    obtain ⟨rfl, rfl⟩ := hc
    cases h
    exact ⟨[.int k 0], rfl, rfl⟩
   ·cases h
  all_goals simp_all
 | str =>
  intro vs r _ h
  unfold zOk at h
  split at h
  ·simp_all
  ·simp_all
  ·rename_i s r' heq
   split at h
   ·rename_i hs
    cases h
    have : s = (⟨#[]⟩ : ByteArray) := by
     cases s with
     | mk d =>
      have : d = #[] := by
       apply Array.eq_empty_of_size_eq_zero
       simpa using hs
      rw [this]
    exact ⟨[.string ⟨#[]⟩], by rw [this]; rfl, rfl⟩
   ·cases h
  all_goals simp_all
 | sl t ih =>
  intro vs r _ h
  unfold zOk at h
  split at h <;> simp_all
  subst h
  exact ⟨[.slice none 0 0], rfl, none, 0, rfl, Nat.le_refl _, fun i x hi => by simp [zeroI] at hi⟩
 | arr n t ih => intro vs r hf; simp [Ty.flat] at hf
 | unit => intro vs r hf; simp [Ty.flat] at hf
 | pair a b iha ihb =>
  intro vs r hf h
  simp only [Ty.flat, Bool.and_eq_true] at hf
  have h' : (zOk a vs).bind (fun vs => zOk b vs) = some r := by simpa [zOk] using h
  cases ha : zOk a vs with
  | none => rw [ha] at h'; cases h'
  | some vs1 =>
   rw [ha] at h'
   obtain ⟨v1, e1, c1⟩ := iha vs vs1 hf.1 ha
   obtain ⟨v2, e2, c2⟩ := ihb vs1 r hf.2 h'
   exact ⟨v1 ++ v2, by rw [e1, e2, List.append_assoc], v1, v2, rfl, c1, c2⟩
theorem zOkN_RR {M : Mem} (t : Ty) (hf : t.flat = true) : ∀ (n : Nat) (vs r : List Value), zOkN n t vs = some r → ∃ v1, vs = v1 ++ r ∧ RR M t (List.replicate n (zeroI t)) v1
 | 0, vs, r, h => ⟨[], by cases h; rfl, rfl⟩
 | n + 1, vs, r, h => by
  unfold zOkN at h
  cases hz : zOk t vs with
  | none => rw [hz] at h; cases h
  | some vs1 =>
   rw [hz] at h
   obtain ⟨v1, e1, c1⟩ := zOk_CR (M := M) t vs vs1 hf hz
   obtain ⟨v2, e2, c2⟩ := zOkN_RR t hf n vs1 r h
   exact ⟨v1 ++ v2, by rw [e1, e2, List.append_assoc], v1, v2, rfl, c1, c2⟩
structure TRow (P : Program) (t : TypeId) (d : TD) : Prop where
 row : ∃ i dd z, P.info? t = some i ∧ P.underlying t = some dd ∧ d.k = kOf dd ∧ d.sz = i.size ∧ d.nb = i.bytes ∧ i.zero = some z ∧ d.zero = z.cells.toList.map zeroAV ∧ z.cells.size = i.size ∧ (∀ u ∈ z.cells.toList, u.oneCell' = true) ∧
  ∀ ty, d.ty = some ty → ty.flat = true ∧ ty.sz = i.size ∧ ∀ M : Mem, CR M ty (zeroI ty) z.cells.toList
 tyEq : d.ty = tyOf P 40 t
 fields : ∀ fs, P.underlying t = some (.struct fs) → ∀ f ∈ fs.toList, (P.info? f.type).isSome = true
 arr : ∀ n e te i z, P.underlying t = some (.array n e) → tyOf P 40 e = some te → P.info? t = some i → i.zero = some z → te.flat = true ∧ ∀ M : Mem, RR M te (List.replicate n (zeroI te)) z.cells.toList
 eq : d.eq = true → ∃ fs, P.underlying t = some (.struct fs) ∧ P.eqGuardType P.depth t = false ∧ P.stoodInHeld t = false ∧ ∀ f ∈ fs.toList, f.name ≠ "_"
def TOk (P : Program) (Θ : Nat → TD) : Prop := ∀ t, Θ t = tdNone ∨ TRow P t (Θ t)
theorem tRow_of (P : Program) (t : TypeId) (d : TD) (h : tdOf P t = d) (hc : tdChk P t d = true) : TRow P t d := by
 unfold tdChk at hc
 rw [Bool.and_eq_true] at hc
 obtain ⟨hu, hc⟩ := hc
 obtain ⟨dd, hu⟩ := Option.isSome_iff_exists.1 hu
 split at hc
 ·rename_i i hi
  split at hc
  ·rename_i z hz
   simp only [Bool.and_eq_true, beq_iff_eq] at hc
   obtain ⟨⟨⟨h0, h1⟩, h2⟩, h3⟩ := hc
   unfold tdOf at h
   rw [hi] at h
   rw [hu] at h h0
   simp only [hz] at h
   simp only [Option.getD_some] at h0
   subst h
   refine ⟨⟨i, dd, z, hi, hu, rfl, rfl, rfl, hz, rfl, h1, fun u hu => List.all_eq_true.1 h2 u hu, fun ty hty => ?_⟩, rfl, ?_, ?_, ?_⟩
   ·simp only at hty h3
    rw [hty] at h3
    simp only [Bool.and_eq_true, beq_iff_eq] at h3
    obtain ⟨⟨h4, h5⟩, h6⟩ := h3
    refine ⟨h4, h5, fun M => ?_⟩
    split at h6
    ·rename_i hzz
     obtain ⟨v1, e, c⟩ := zOk_CR (M := M) ty _ _ h4 hzz
     rw [List.append_nil] at e
     rw [e]; exact c
    ·cases h6
   ·intro fs hfs f hf
    rw [hu] at hfs
    cases hfs
    exact List.all_eq_true.1 h0 f hf
   ·intro n e te i' z' hue hte hi' hz'
    rw [hu] at hue
    cases hue
    rw [hi] at hi'
    cases hi'
    rw [hz] at hz'
    cases hz'
    simp only [chkMore, hte, Bool.and_eq_true] at h0
    refine ⟨h0.1, fun M => ?_⟩
    have h6 := h0.2
    split at h6
    ·rename_i hzz
     obtain ⟨v1, e, c⟩ := zOkN_RR (M := M) te h0.1 n _ _ hzz
     rw [List.append_nil] at e
     rw [e]; exact c
    ·cases h6
   ·intro he
    simp only at he
    unfold eqD at he
    split at he
    ·rename_i fs
     simp only [Bool.and_eq_true, Bool.not_eq_true'] at he
     exact ⟨fs, hu, he.1.1, he.1.2, fun f hf => by simpa using List.all_eq_true.1 he.2 f hf⟩
    ·cases he
  ·cases hc
 ·cases hc
end Go.Den
set_option linter.unusedVariables false
set_option linter.unusedSimpArgs false
namespace Go.Den
variable {P : Program}
theorem add_add (a : Addr) (m n : Nat) : (a.add m).add n = a.add (m + n) := by
 unfold Addr.add
 by_cases h1 : m = 0
 ·subst h1; simp
 ·by_cases h2 : n = 0
  ·subst h2; simp [h1]
  ·have : m + n ≠ 0 := by omega
   simp [h1, h2, this, Nat.add_assoc]
theorem add_at (b m : Nat) : (⟨b, 0, none⟩ : Addr).add m = ⟨b, m, none⟩ := by unfold Addr.add; split <;> simp_all
def aggD : TypeDesc → Bool
 | .struct _ => true
 | .array _ _ => true
 | _ => false
theorem run_isAggD {t : TypeId} {d : TypeDesc} (hu : P.underlying t = some d) (w : World) : (isAgg t).run P w = .ok (aggD d) w := by
 unfold isAgg
 rw [Sem.run_bind, run_underlying hu w]
 cases d <;> rfl
theorem run_sizeD {t : TypeId} {i : TypeInfo} (hi : P.info? t = some i) (w : World) : (sizeOf t).run P w = .ok i.size w := by
 simp [sizeOf, typeInfo, hi]
theorem run_zeroD {t : TypeId} {i : TypeInfo} {z : Value} (hi : P.info? t = some i) (hz : i.zero = some z) (w : World) : (zeroValue t).run P w = .ok z w := by
 simp [zeroValue, typeInfo, hi, hz]
theorem run_loadVar_agg {t : TypeId} {d : TypeDesc} {i : TypeInfo} (w : World) (hi : P.info? t = some i) (hu : P.underlying t = some d) (hd : aggD d = true) (a : Addr) (cs : List Value) (hl : cs.length = i.size)
  (h : ∀ j v, cs[j]? = some v → w.cell? (a.add j) = some v) : (loadVar t a).run P w = .ok (.agg cs.toArray) w := by
 have h1 := run_loadCells_list (P := P) w a cs h
 rw [hl] at h1
 simp [loadVar, Sem.run_bind, run_isAggD hu, hd, run_sizeD hi, h1]
theorem run_loadVar_one {t : TypeId} {d : TypeDesc} (w : World) (hu : P.underlying t = some d) (hd : aggD d = false) (a : Addr) (v : Value) (h : w.cell? a = some v) : (loadVar t a).run P w = .ok v w := by
 simp [loadVar, Sem.run_bind, run_isAggD hu, hd, load, Sem.run, h]
theorem TOk.get {Θ : Nat → TD} (h : TOk P Θ) (t : Nat) (hk : (Θ t).k ≠ .other) : TRow P t (Θ t) := by
 rcases h t with e | e
 ·rw [e] at hk; exact absurd rfl hk
 ·exact e
theorem TOk.ty {Θ : Nat → TD} (h : TOk P Θ) {t : Nat} {ty : Ty} (hk : (Θ t).ty = some ty) : TRow P t (Θ t) := by
 rcases h t with e | e
 ·rw [e] at hk; cases hk
 ·exact e
theorem fromCells_sound {R : Type} {Θ : Nat → TD} (hΘ : TOk P Θ) {g : G} {w : World} (t : Nat) (cs : List AV) (ws : List Value) (ad : Addr) (κ : AV → Option R) (r : R)
  (h : fromCells Θ t cs κ = some r) (hc : VRL g cs ws) (h1 : ∀ u ∈ ws, u.oneCell' = true) (hm : ∀ j v, ws[j]? = some v → w.cell? (ad.add j) = some v) :
  ∃ av v, κ av = some r ∧ VR g av v ∧ (loadVar t ad).run P w = .ok v w := by
 have hne : (Θ t).k ≠ .other := by intro e; unfold fromCells at h; rw [e] at h; cases h
 obtain ⟨i, d, z, hi, hu, hk, hs, hn, hz, hzz, hzs, hz1, hty⟩ := (hΘ.get t hne).row
 have one : ∀ (hd : aggD d = false), headK cs κ = some r → ∃ av v, κ av = some r ∧ VR g av v ∧ (loadVar t ad).run P w = .ok v w := by
  intro hd h
  cases cs with
  | nil => cases h
  | cons c cs =>
   cases ws with
   | nil => exact hc.elim
   | cons v ws => exact ⟨c, v, h, hc.1, run_loadVar_one w hu hd ad v (by have := hm 0 v rfl; simpa [Addr.add] using this)⟩
 unfold fromCells at h
 cases d with
 | struct fs =>
  rw [hk] at h
  simp only [kOf] at h
  split at h
  ·rename_i hle
   refine ⟨_, .agg (ws.take (Θ t).sz).toArray, h, ⟨_, rfl, VRL_take _ hc, fun u hu => h1 u (List.mem_of_mem_take hu)⟩, ?_⟩
   refine run_loadVar_agg w hi hu rfl ad _ (by rw [List.length_take, ← VRL_length hc, hs]; omega) fun j v hj => ?_
   refine hm j v ?_
   rw [List.getElem?_take] at hj
   split at hj
   ·exact hj
   ·cases hj
  ·cases h
 | array n e =>
  rw [hk] at h
  simp only [kOf] at h
  split at h
  case h_2 => cases h
  split at h
  ·rename_i hle
   refine ⟨_, .agg (ws.take (Θ t).sz).toArray, h, ⟨_, rfl, VRL_take _ hc, fun u hu => h1 u (List.mem_of_mem_take hu)⟩, ?_⟩
   refine run_loadVar_agg w hi hu rfl ad _ (by rw [List.length_take, ← VRL_length hc, hs]; omega) fun j v hj => ?_
   refine hm j v ?_
   rw [List.getElem?_take] at hj
   split at hj
   ·exact hj
   ·cases hj
  ·cases h
 | bool => rw [hk] at h; exact one rfl h
 | int k => rw [hk] at h; exact one rfl h
 | string => rw [hk] at h; exact one rfl h
 | pointer e => rw [hk] at h; exact one rfl h
 | slice e => rw [hk] at h; exact one rfl h
 | func a b c => rw [hk] at h; exact one rfl h
 | invalid => rw [hk] at hne; exact absurd rfl hne
 | float k => rw [hk] at hne; exact absurd rfl hne
 | complex k => rw [hk] at hne; exact absurd rfl hne
 | unsafePointer => rw [hk] at hne; exact absurd rfl hne
 | map a b => rw [hk] at hne; exact absurd rfl hne
 | chan a b => rw [hk] at hne; exact absurd rfl hne
 | interface m => rw [hk] at hne; exact absurd rfl hne
 | tuple m => rw [hk] at hne; exact absurd rfl hne
 | named a b => rw [hk] at hne; exact absurd rfl hne
theorem row_elem {g : G} {w : World} {t : Ty} {l : List t.I} {ws : List Value} {base e : Nat} {v : Value} {i : Int} {x : t.I}
  (ho : w.ownsR base e t.sz v l.length ws) (hr : RR g.M t l ws) (hi : idx l i = some x) :
  ∃ p us, baseOf v = some p ∧ CR g.M t x us ∧ ∀ j u, us[j]? = some u → w.cell? (p.add (i.toNat * t.sz + j)) = some u := by
 unfold idx at hi
 split at hi
 ·obtain ⟨us, hc, hu⟩ := RR_cell t l ws hr i.toNat x hi
  have hlt : i.toNat < l.length := (List.getElem?_eq_some_iff.1 hi).1
  rcases ho.2 with ⟨rfl, h0⟩ | ⟨b, cap, cur, fz, rfl, hb⟩
  ·omega
  ·exact ⟨⟨b, 0, none⟩, us, rfl, hc, fun j u hj => ho.cells rfl _ _ (hu j u hj)⟩
 ·cases hi
theorem arr_elem {g : G} {w : World} {t : Ty} {l : List t.I} {ws : List Value} {b : Nat} {ty : TypeId} {fr : Nat × Nat} {i : Int} {x : t.I}
  (hh : w.heap[b]? = some (.cells ws.toArray ty fr)) (hr : RR g.M t l ws) (hi : idx l i = some x) :
  ∃ us, CR g.M t x us ∧ ∀ j u, us[j]? = some u → w.cell? ((⟨b, 0, none⟩ : Addr).add (i.toNat * t.sz + j)) = some u := by
 unfold idx at hi
 split at hi
 ·obtain ⟨us, hc, hu⟩ := RR_cell t l ws hr i.toNat x hi
  refine ⟨us, hc, fun j u hj => ?_⟩
  rw [add_at, cell_of_row w b _ _ ty fr hh]
  simpa using hu j u hj
 ·cases hi
theorem loadK_sound {R : Type} {Θ : Nat → TD} (hΘ : TOk P Θ) {B : Base} {g : G} {o : Objs} {w : World} (hw : WInv B g o w) (t : Nat) (x : AV) (v : Value) (κ : AV → Option R) (r : R)
  (h : loadK Θ t x o κ = some r) (hx : VR g x v) : ∃ av u, κ av = some r ∧ VR g av u ∧ (Instr.loadAt t v).run P w = .ok u w := by
 have key : ∀ (ad : Addr), v = .pointer (some ad) → (Instr.loadAt t v).run P w = (loadVar t ad).run P w := by
  intro ad e; subst e; simp [Instr.loadAt, Instr.sureAddr]
 unfold loadK at h
 split at h
 ·rename_i n off
  obtain ⟨p, z, hE, rfl⟩ := hx
  rw [key _ rfl]
  split at h
  ·rename_i cs hn
   obtain ⟨b, ws, ty, hE2, hh, hc, h1, hm⟩ := hw.objs n _ hn
   rw [hE2] at hE
   cases hE
   refine fromCells_sound hΘ t (cs.drop off) (ws.drop off) _ κ r h (VRL_drop off hc) (fun u hu => h1 u (List.mem_of_mem_drop hu)) fun j u hj => ?_
   rw [add_add, add_at, cell_of_row w b _ _ ty _ hh]
   rw [List.getElem?_drop] at hj
   simpa using hj
  ·rename_i m e l hn
   obtain ⟨b, ws, ty, hE2, ⟨hf, hlm⟩, hh, hr, hm⟩ := hw.objs n _ hn
   rw [hE2] at hE
   cases hE
   split at h
   ·rename_i m' el hk
    split at h
    ·rename_i hc
     obtain ⟨rfl, hsz⟩ := hc
     obtain ⟨i, d, zz, hi, hu, hk2, hs, _⟩ := (hΘ.get t (by rw [hk]; simp)).row
     have hd : aggD d = true := by rw [hk] at hk2; cases d <;> simp [kOf] at hk2 <;> rfl
     refine ⟨_, .agg ws.toArray, h, ⟨hf, hlm, ws, rfl, hr⟩, ?_⟩
     refine run_loadVar_agg w hi hu hd _ ws (by rw [RR_length e l ws hr, hlm, ← hs, hsz]) fun j u hj => ?_
     rw [add_add, add_at, cell_of_row w b _ _ ty _ hh]
     simpa using hj
    ·cases h
   ·cases h
  ·rename_i T c hn
   obtain ⟨b, q, v1, hE2, hh, hq, hc, h1, hm⟩ := hw.objs n _ hn
   rw [hE2] at hE
   cases hE
   split at h
   case isFalse => cases h
   rename_i hoff
   subst hoff
   refine fromCells_sound hΘ t [c] [v1] _ κ r h ⟨hc, trivial⟩ (fun u hu => by rw [List.mem_singleton.1 hu]; exact h1) fun j u hj => ?_
   rw [add_add, add_at, cell_of_row w b _ _ T _ hh]
   match j, hj with
   | 0, hj => simpa using hj
   | j + 1, hj => simp at hj
  ·cases h
 ·rename_i cs
  obtain ⟨ad, ws, rfl, hc, hm⟩ := hx
  rw [key _ rfl]
  exact fromCells_sound hΘ t cs ws ad κ r h hc (fun u hu => by
   obtain ⟨j, hj⟩ := List.getElem?_of_mem hu
   exact (hw.mem _ _ (hm j u hj)).2) fun j u hj => (hw.mem _ _ (hm j u hj)).1
 ·rename_i n i off
  obtain ⟨p, z, u0, hE, hb, rfl⟩ := hx
  rw [key _ rfl]
  split at h
  ·rename_i e t' l frz hn
   obtain ⟨v', ws, hE2, hf, ho, hr, hm⟩ := hw.objs n _ hn
   rw [hE2] at hE
   cases hE
   split at h
   ·rename_i x hi
    obtain ⟨p', us, hb', hc, hu⟩ := row_elem ho hr hi
    rw [hb] at hb'
    cases hb'
    refine fromCells_sound hΘ t _ (us.drop off) _ κ r h (VRL_drop off (leaves_VRL t' x us hf hc)) (fun u hu => CR_one t' x us hc u (List.mem_of_mem_drop hu)) fun j u hj => ?_
    rw [List.getElem?_drop] at hj
    rw [add_add, Nat.add_assoc]
    exact hu _ _ hj
   ·cases h
  ·rename_i m t' l hn
   obtain ⟨b, ws, ty, hE2, ⟨hf, hlm⟩, hh, hr, hm⟩ := hw.objs n _ hn
   rw [hE2] at hE
   cases hE
   cases hb
   split at h
   ·rename_i x hi
    obtain ⟨us, hc, hu⟩ := arr_elem hh hr hi
    refine fromCells_sound hΘ t _ (us.drop off) _ κ r h (VRL_drop off (leaves_VRL t' x us hf hc)) (fun u hu => CR_one t' x us hc u (List.mem_of_mem_drop hu)) fun j u hj => ?_
    rw [List.getElem?_drop] at hj
    rw [add_add, Nat.add_assoc]
    exact hu _ _ hj
   ·cases h
  ·cases h
 ·cases h
end Go.Den
set_option linter.unusedVariables false
set_option linter.unusedSimpArgs false
namespace Go.Den
variable {P : Program}
theorem slice_one (A : Option Addr) (n c : Nat) : (Value.slice A n c).oneCell' = true := rfl
theorem freeze_sound {B : Base} {g : G} {o : Objs} {w : World} (hw : WInv B g o w) {n e : Nat} {t : Ty} {l : List t.I} {frz : Bool} (hn : o n = some (.row e t l frz)) {v : Value} {z : Nat} (hE : g.E n = some (v, z)) :
  ∃ M', WInv B ⟨M', g.E⟩ (upd o n (.row e t l true)) w ∧ GE g ⟨M', g.E⟩ ∧ t.flat = true ∧ CR M' (.sl t) l [v] := by
 obtain ⟨v', ws, hE', hf, ho, hr, hm⟩ := hw.objs n _ hn
 rw [hE'] at hE
 cases hE
 have hlen := RR_length t l ws hr
 let M' : Mem := fun a => if v.ownBlock = some a.block ∧ a.spot = none ∧ a.off < l.length * t.sz then w.cell? a else g.M a
 have hbk : ∀ b, v.ownBlock = some b → blkOf g n = some b := fun b hb => by
  simp only [blkOf, hE', Option.bind_some]; rw [ownBlock_base ho]; exact hb
 have hcell : ∀ a : Addr, v.ownBlock = some a.block → a.spot = none → a.off < l.length * t.sz → ∃ u, w.cell? a = some u ∧ u ∈ ws := by
  intro a hb hs hlt
  have hj : a.off < ws.length := by rw [hlen]; exact hlt
  refine ⟨ws[a.off], ?_, List.getElem_mem hj⟩
  have := ho.cells hb a.off _ (List.getElem?_eq_getElem hj)
  rw [add_at] at this
  rw [← this]
  cases a with
  | mk b off sp => simp at hs; subst hs; rfl
 have hgrow : ∀ a u, g.M a = some u → M' a = some u := by
  intro a u ha
  simp only [M']
  split
  ·exact (hw.mem a u ha).1
  ·exact ha
 have hgE : GE g ⟨M', g.E⟩ := ⟨hgrow, fun _ _ e => e⟩
 have hcr : CR M' (.sl t) l [v] := by
  rcases ho.2 with ⟨rfl, h0⟩ | ⟨b, cap, cur, fz, rfl, _, hh, _, hnc, _⟩
  ·have : l = [] := List.eq_nil_of_length_eq_zero h0
   subst this
   exact ⟨none, 0, rfl, Nat.le_refl _, fun i x hi => by simp at hi⟩
  ·refine ⟨some ⟨b, 0, none⟩, cap, rfl, hnc, fun i x hi => ?_⟩
   obtain ⟨us, hc, hu⟩ := RR_cell t l ws hr i x hi
   refine ⟨⟨b, 0, none⟩, us, rfl, CR_mono hgrow t x us hc, fun j u hj => ?_⟩
   have hk := hu j u hj
   have hlt : i * t.sz + j < ws.length := (List.getElem?_eq_some_iff.1 hk).1
   have hc2 := ho.cells (g := b) rfl _ _ hk
   rw [add_at] at hc2 ⊢
   simp only [M', Value.ownBlock]
   rw [if_pos ⟨trivial, trivial, by omega⟩]
   exact hc2
 refine ⟨M', ?_, hgE, hf, hcr⟩
 refine hw.learn M' n (upd o n (.row e t l true)) hgrow ?_ ?_ ?_ ?_ ?_ ?_
 ·intro a u ha
  simp only [M'] at ha
  split at ha
  ·rename_i hc
   obtain ⟨u', hu', hmem⟩ := hcell a hc.1 hc.2.1 hc.2.2
   rw [hu'] at ha
   cases ha
   exact ⟨hu', RR_one t l ws hr _ hmem⟩
  ·exact hw.mem a u ha
 ·intro m x hne hmo hl b a hb hab
  simp only [M']
  rw [if_neg]
  rintro ⟨hc, _⟩
  exact hw.apart m n x _ hne hmo hn hl rfl b hb (by rw [hbk _ hc, hab])
 ·intro m hne; simp [upd, hne]
 ·intro x hx
  simp [upd] at hx
  subst hx
  refine ⟨⟨v, ws, hE', hf, ho, RR_mono hgrow t l ws hr, fun a ha hc => ?_⟩, fun _ => ⟨_, hn, rfl⟩⟩
  have hc' : l.length * t.sz ≤ a.off ∨ a.spot.isSome = true := by
   rcases hc with h | h | h
   ·cases h
   ·exact .inl h
   ·exact .inr h
  simp only [M']
  rw [if_neg]
  ·exact hm a ha (.inr hc')
  ·rintro ⟨_, hs, hlt⟩
   rcases hc' with h | h
   ·omega
   ·rw [hs] at h; cases h
 ·intro hx; simp [upd] at hx
 ·intro a ha hX
  simp only [M']
  rw [if_neg]
  rintro ⟨hc, _⟩
  rcases hw.mine n _ _ hn rfl (hbk _ hc) with h | h
  ·exact hX h
  ·omega
theorem resolveK_sound {R : Type} {B : Base} {w : World} : ∀ (cs : List AV) (vs : List Value) (g : G) (o : Objs) (κ : List AV → Objs → Option R) (r : R),
  resolveK cs o κ = some r → VRL g cs vs → WInv B g o w → ∃ cs' o' g', κ cs' o' = some r ∧ VRL g' cs' vs ∧ WInv B g' o' w ∧ GE g g' ∧ g'.E = g.E
 | [], vs, g, o, κ, r, h, hc, hw => ⟨[], o, g, h, hc, hw, GE.refl g, rfl⟩
 | c :: rest, [], g, o, κ, r, h, hc, hw => hc.elim
 | c :: rest, v :: vs, g, o, κ, r, h, hc, hw => by
  obtain ⟨hv, hr⟩ := hc
  have plain : resolveK rest o (fun cs o => κ (c :: cs) o) = some r → ∃ cs' o' g', κ cs' o' = some r ∧ VRL g' cs' (v :: vs) ∧ WInv B g' o' w ∧ GE g g' ∧ g'.E = g.E := by
   intro h
   obtain ⟨cs', o', g', hk, hc', hw', hg, hE⟩ := resolveK_sound rest vs g o _ r h hr hw
   exact ⟨c :: cs', o', g', hk, ⟨VR_mono hg c v hv, hc'⟩, hw', hg, hE⟩
  cases c with
  | row n =>
   unfold resolveK at h
   split at h
   ·rename_i e t l frz hn
    obtain ⟨z, hE, h1⟩ := hv
    obtain ⟨M', hw', hg, hf, hcr⟩ := freeze_sound hw hn hE
    obtain ⟨cs', o', g', hk, hc', hw2, hg2, hE2⟩ := resolveK_sound rest vs _ _ _ r h (VRL_mono hg rest vs hr) hw'
    exact ⟨_, o', g', hk, ⟨⟨hf, CR_mono hg2.M (.sl t) l [v] hcr⟩, hc'⟩, hw2, hg.trans hg2, hE2⟩
   ·cases h
  | d t x => exact plain h
  | ptr n off => exact plain h
  | eptr n i off => exact plain h
  | dp cs => exact plain h
  | pnil => exact plain h
  | nilsl => exact plain h
  | nilf => exact plain h
  | nili => exact plain h
  | fn f a b => exact plain h
  | agg cs => exact plain h
  | tup cs => exact plain h
  | dead => exact plain h
  | glob n => exact plain h
  | win n a b => exact plain h
theorem leaf1_one {g : G} {a : AV} {v : Value} (h : VR g a v) (hl : leaf1 a = true) : v.oneCell' = true := by
 cases a with
 | d t x =>
  cases t with
  | bool => rw [show v = _ from h]; rfl
  | int k => rw [show v = _ from h]; rfl
  | str => rw [show v = _ from h]; rfl
  | sl t => obtain ⟨_, A, c, e, _⟩ := h; cases e; rfl
  | arr n t => simp [leaf1] at hl
  | unit => exact h.elim
  | pair a b => exact h.elim
 | ptr n off => obtain ⟨p, z, _, rfl⟩ := h; rfl
 | eptr n i off => obtain ⟨p, z, u, _, _, rfl⟩ := h; rfl
 | dp cs => obtain ⟨ad, ws, rfl, _⟩ := h; rfl
 | pnil => rw [show v = _ from h]; rfl
 | nilsl => rw [show v = _ from h]; rfl
 | nilf => rw [show v = _ from h]; rfl
 | nili => rw [show v = _ from h]; rfl
 | row n => obtain ⟨z, _, h1⟩ := h; exact h1
 | fn f a b => obtain ⟨a', b', rfl, _⟩ := h; rfl
 | agg cs => simp [leaf1] at hl
 | tup cs => simp [leaf1] at hl
 | dead => simp [leaf1] at hl
 | glob n => simp [leaf1] at hl
 | win n a b => simp [leaf1] at hl
theorem cells_one {v : Value} (h : v.oneCell' = true) : v.cells = #[v] := by cases v <;> first | rfl | simp [Value.oneCell'] at h
theorem leaves1 {g : G} : ∀ (cs : List AV) (vs : List Value), VRL g cs vs → cs.all leaf1 = true → ∀ u ∈ vs, u.oneCell' = true
 | [], [], _, _ => by simp
 | c :: cs, v :: vs, ⟨h1, h2⟩, ha => by
  simp only [List.all_cons, Bool.and_eq_true] at ha
  intro u hu
  rcases List.mem_cons.1 hu with rfl | hu
  ·exact leaf1_one h1 ha.1
  ·exact leaves1 cs vs h2 ha.2 u hu
 | [], _ :: _, h, _ => h.elim
 | _ :: _, [], h, _ => h.elim
theorem cellsOf_sound {g : G} {a : AV} {v : Value} (h : VR g a v) (hl : (cellsOf a).all leaf1 = true) : VRL g (cellsOf a) v.cells.toList ∧ ∀ u ∈ v.cells.toList, u.oneCell' = true := by
 cases a with
 | agg cs =>
  obtain ⟨ws, rfl, hc, h1⟩ := h
  exact ⟨by simpa [cellsOf, Value.cells] using hc, by simpa [Value.cells] using h1⟩
 | _ =>
  all_goals
   simp only [cellsOf, List.all_cons, List.all_nil, Bool.and_true] at hl
   have h1 := leaf1_one h hl
   rw [cells_one h1]
   exact ⟨⟨h, trivial⟩, by simpa using h1⟩
theorem putCells_sound {g : G} : ∀ (cs : List AV) (ws : List Value) (off : Nat) (vs : List AV) (us : List Value), VRL g cs ws → VRL g vs us → off + vs.length ≤ cs.length →
  VRL g (putCells cs off vs) (ws.take off ++ us ++ ws.drop (off + us.length))
 | cs, ws, off, [], us, hc, hv, hl => by
  cases us with
  | nil => simpa [putCells] using hc
  | cons => exact hv.elim
 | [], ws, off, v :: vs, us, hc, hv, hl => by simp at hl
 | c :: cs, ws, 0, v :: vs, us, hc, hv, hl => by
  cases ws with
  | nil => exact hc.elim
  | cons w ws =>
   cases us with
   | nil => exact hv.elim
   | cons u us =>
    have ih := putCells_sound cs ws 0 vs us hc.2 hv.2 (by simp at hl ⊢; omega)
    simp only [putCells, List.take_zero, List.nil_append, Nat.zero_add, List.length_cons, List.cons_append, List.drop_succ_cons] at ih ⊢
    exact ⟨hv.1, ih⟩
 | c :: cs, ws, n + 1, v :: vs, us, hc, hv, hl => by
  cases ws with
  | nil => exact hc.elim
  | cons w ws =>
   have ih := putCells_sound cs ws n (v :: vs) us hc.2 hv (by simp at hl ⊢; omega)
   have e : n + 1 + us.length = n + us.length + 1 := by omega
   simp only [putCells, List.take_succ_cons, List.cons_append, e, List.drop_succ_cons]
   exact ⟨hc.1, ih⟩
theorem putCells_length : ∀ (cs : List AV) (off : Nat) (vs : List AV), off + vs.length ≤ cs.length → (putCells cs off vs).length = cs.length
 | cs, off, [], hl => by simp [putCells]
 | [], off, v :: vs, hl => by simp at hl
 | c :: cs, 0, v :: vs, hl => by simp only [putCells, List.length_cons]; rw [putCells_length cs 0 vs (by simp at hl ⊢; omega)]
 | c :: cs, n + 1, v :: vs, hl => by simp only [putCells, List.length_cons]; rw [putCells_length cs n (v :: vs) (by simp at hl ⊢; omega)]
theorem run_storeCells_fz (g o : Nat) (t : TypeId) (fz : Nat × Nat) : ∀ (vs : List Value) (i : Nat) (cur : Array Value) (w : World), w.heap[g]? = some (.cells cur t fz) → okFz fz cur.size → o + i + vs.length ≤ cur.size → (∀ v ∈ vs, v.oneCell' = true) →
  (storeCells ⟨g, o, none⟩ vs i).run P w = .ok () (w.setRow g (cur.toList.take (o + i) ++ vs ++ cur.toList.drop (o + i + vs.length)).toArray)
 | [], i, cur, w, hg, _, _, _ => by
  simp only [storeCells, List.append_nil, List.length_nil, Nat.add_zero, List.take_append_drop, Array.toArray_toList]
  rw [setRow_self w g cur t fz hg]
  rfl
 | v :: rest, i, cur, w, hg, hfz, hl, h1 => by
  have hi : o + i < cur.size := by simp at hl; omega
  have hadd : (⟨g, o, none⟩ : Addr).add i = ⟨g, o + i, none⟩ := by unfold Addr.add; split <;> simp_all
  have hcell : w.cell? ⟨g, o + i, none⟩ = some cur[o + i] := by simp [World.cell?, hg, hi]
  have hfro : w.frozen? ⟨g, o + i, none⟩ = false := by
   rcases hfz with rfl | hfz
   ·simp [World.frozen?, hg]
   ·obtain ⟨f1, f2⟩ := fz
    simp only [World.frozen?, hg]
    have : ¬ f1 ≤ o + i := by dsimp only at hfz; omega
    simp
    omega
  have hst : (store ((⟨g, o, none⟩ : Addr).add i) v).run P w = .ok () (w.setRow g (cur.setIfInBounds (o + i) v)) := by
   rw [hadd, run_store P w _ v _ (h1 v (by simp)), hcell]
   simp [hfro, setCell_eq_setRow w g (o + i) cur t fz v hg]
  have ih := run_storeCells_fz g o t fz rest (i + 1) (cur.setIfInBounds (o + i) v) (w.setRow g (cur.setIfInBounds (o + i) v)) (setRow_heap w g cur _ t _ hg) (by simpa using hfz) (by simp at hl ⊢; omega) (fun x hx => h1 x (by simp [hx]))
  simp only [storeCells, Sem.run_bind, hst, Result.andThen_ok, ih, setRow_setRow]
  congr 3
  have e := list_seg_step cur.toList (o + i) v rest (by simp at hl ⊢; omega)
  simpa [Array.toList_setIfInBounds, Nat.add_assoc] using e
theorem run_storeAt {t : TypeId} {i : TypeInfo} {w : World} (hi : P.info? t = some i) (b o : Nat) (ty : TypeId) (cur : Array Value) (v : Value) {fz : Nat × Nat} (hh : w.heap[b]? = some (.cells cur ty fz)) (hfz : okFz fz cur.size)
  (hs : v.cells.size = i.size) (hl : o + v.cells.size ≤ cur.size) (h1 : ∀ u ∈ v.cells.toList, u.oneCell' = true) :
  (Instr.storeAt t (.pointer (some ⟨b, o, none⟩)) v).run P w = .ok () (w.setRow b (cur.toList.take o ++ v.cells.toList ++ cur.toList.drop (o + v.cells.size)).toArray) := by
 have := run_storeCells_fz (P := P) b o ty fz v.cells.toList 0 cur w hh hfz (by simpa using hl) h1
 simp only [Nat.add_zero, Array.length_toList] at this
 simp [Instr.storeAt, Instr.sureAddr, storeVar, run_sizeD hi, hs, this]
theorem setRow_same (w : World) (b : Nat) (cs : Array Value) : (w.setRow b cs).os = w.os ∧ (w.setRow b cs).tape = w.tape ∧ (w.setRow b cs).output = w.output ∧ w.heap.size ≤ (w.setRow b cs).heap.size := by
 refine ⟨rfl, rfl, rfl, by simp⟩
theorem box_store {B : Base} {g : G} {o : Objs} {w : World} (hw : WInv B g o w) {n : Nat} {cs : List AV} (hn : o n = some (.box cs)) (off : Nat) (vs : List AV) (us : List Value)
  (hv : VRL g vs us) (h1 : ∀ u ∈ us, u.oneCell' = true) (hl : off + vs.length ≤ cs.length) :
  ∃ b ws ty, g.E n = some (.pointer (some ⟨b, 0, none⟩), 1) ∧ w.heap[b]? = some (.cells (List.toArray ws) ty (0, 0)) ∧ ws.length = cs.length ∧
   WInv B g (upd o n (.box (putCells cs off vs))) (w.setRow b (ws.take off ++ us ++ ws.drop (off + us.length)).toArray) := by
 obtain ⟨b, ws, ty, hE, hh, hc, hone, hm⟩ := hw.objs n _ hn
 have hlen := VRL_length hc
 have hlen2 := VRL_length hv
 refine ⟨b, ws, ty, hE, hh, hlen.symm, ?_⟩
 have hb : blkOf g n = some b := by simp [blkOf, hE, baseOf]
 have hnew : (w.setRow b (ws.take off ++ us ++ ws.drop (off + us.length)).toArray).heap[b]? = some (.cells (ws.take off ++ us ++ ws.drop (off + us.length)).toArray ty (0, 0)) := setRow_heap w b _ _ ty (0, 0) hh
 refine hw.put n (.box (putCells cs off vs)) (GE.refl g) (fun _ _ => rfl) ?_ (setRow_same w b _) ?_ rfl ?_ ?_
 ·refine ⟨b, _, ty, hE, hnew, putCells_sound cs ws off vs us hc hv hl, fun u hu => ?_, hm⟩
  simp only [List.mem_append] at hu
  rcases hu with (hu | hu) | hu
  ·exact hone u (List.mem_of_mem_take hu)
  ·exact h1 u hu
  ·exact hone u (List.mem_of_mem_drop hu)
 ·intro k hk hx
  exact setRow_other w b k _ (fun e => hx _ hn rfl (by rw [hb, e]))
 ·rintro k a v ⟨x, _, _, hk⟩ hab ha
  rw [hb] at hk
  cases hk
  rw [hm a hab] at ha
  cases ha
 ·intro k _ hk
  exact .inr ⟨_, hn, rfl, hk⟩
theorem RR_set {M : Mem} (t : Ty) : ∀ (l : List t.I) (ws : List Value) (i : Nat) (y : t.I) (a : List Value), RR M t l ws → CR M t y a → i < l.length →
  RR M t (l.set i y) (ws.take (i * t.sz) ++ a ++ ws.drop (i * t.sz + t.sz))
 | [], ws, i, y, a, h, hy, hi => by simp at hi
 | x :: l, ws, 0, y, a, ⟨u, v, e, h1, h2⟩, hy, hi => by
  have hu := CR_length t x u h1
  refine ⟨a, v, ?_, hy, h2⟩
  rw [e]
  simp [← hu]
 | x :: l, ws, i + 1, y, a, ⟨u, v, e, h1, h2⟩, hy, hi => by
  have hu := CR_length t x u h1
  refine ⟨u, _, ?_, h1, RR_set t l v i y a h2 hy (by simpa using hi)⟩
  have e1 : (i + 1) * t.sz = u.length + i * t.sz := by rw [Nat.add_mul, hu]; omega
  rw [e, e1, List.take_append, List.take_of_length_le (by omega), Nat.add_sub_cancel_left, List.append_assoc, List.append_assoc]
  rw [Nat.add_assoc, List.drop_append, List.drop_of_length_le (by omega), List.nil_append, Nat.add_sub_cancel_left, List.append_assoc]
theorem seg_eq (ws us : List Value) (i sz off : Nat) (hi : i * sz + sz ≤ ws.length) (ho : off + us.length ≤ sz) :
  ws.take (i * sz) ++ (((ws.drop (i * sz)).take sz).take off ++ us ++ ((ws.drop (i * sz)).take sz).drop (off + us.length)) ++ ws.drop (i * sz + sz) =
  ws.take (i * sz + off) ++ us ++ ws.drop (i * sz + off + us.length) := by
 have e1 : ((ws.drop (i * sz)).take sz).take off = (ws.drop (i * sz)).take off := by rw [List.take_take, Nat.min_eq_left (by omega)]
 have e2 : ((ws.drop (i * sz)).take sz).drop (off + us.length) ++ ws.drop (i * sz + sz) = ws.drop (i * sz + off + us.length) := by
  rw [List.drop_take, List.drop_drop]
  have e3 : ws.drop (i * sz + sz) = (ws.drop (i * sz + (off + us.length))).drop (sz - (off + us.length)) := by
   rw [List.drop_drop]; congr 1; omega
  rw [e3, List.take_append_drop, Nat.add_assoc]
 rw [e1, List.append_assoc, List.append_assoc, List.append_assoc, e2, ← List.append_assoc, ← List.take_add]
 simp [List.append_assoc]
theorem TOk.ok {Θ : Nat → TD} (h : TOk P Θ) {t : Nat} (hk : okK (Θ t).k = true) : TRow P t (Θ t) := h.get t (by intro e; rw [e] at hk; cases hk)
theorem row_store {B : Base} {g : G} {o : Objs} {w : World} (hw : WInv B g o w) {n e : Nat} {t : Ty} {l : List t.I} (hn : o n = some (.row e t l false)) {x : t.I} {i : Int} (hi : idx l i = some x)
  (off : Nat) (vs : List AV) (us : List Value) (hv : VRL g vs us) (h1 : ∀ u ∈ us, u.oneCell' = true) (hl : off + vs.length ≤ t.sz) (y : t.I) {R : Type} (κ : t.I → List AV → Option R) (r : R)
  (hp : packK t (putCells (leaves t x) off vs) κ = some r) :
  ∃ y rest b cap cur fz, κ y rest = some r ∧ g.E n = some (.slice (some ⟨b, 0, none⟩) l.length cap, t.sz) ∧ w.heap[b]? = some (.cells cur e fz) ∧ okFz fz cur.size ∧ i.toNat * t.sz + off + us.length ≤ cur.size ∧
   WInv B g (upd o n (.row e t (l.set i.toNat y) false)) (w.setRow b (cur.toList.take (i.toNat * t.sz + off) ++ us ++ cur.toList.drop (i.toNat * t.sz + off + us.length)).toArray) := by
 obtain ⟨v', ws, hE, hf, ho, hr, hm⟩ := hw.objs n _ hn
 have hlen := RR_length t l ws hr
 have hul := VRL_length hv
 unfold idx at hi
 split at hi
 case isFalse => cases hi
 rename_i h0
 have hlt : i.toNat < l.length := (List.getElem?_eq_some_iff.1 hi).1
 have hmul : i.toNat * t.sz + t.sz ≤ l.length * t.sz := by
  have : (i.toNat + 1) * t.sz ≤ l.length * t.sz := Nat.mul_le_mul_right _ hlt
  rw [Nat.add_mul] at this; omega
 obtain ⟨a, hca, hal, had⟩ := RR_get t l ws hr i.toNat x hi
 have hlv := leaves_VRL t x a hf hca
 have hll := leaves_length t x hf
 have hput := putCells_sound (leaves t x) a off vs us hlv hv (by omega)
 obtain ⟨y, rest, v1, v2, hk, e1, hcy, hrest⟩ := packK_sound t _ _ κ r hf hp hput
 have hv2 : v2 = [] := by
  have h3 := CR_length t y v1 hcy
  have h4 : (v1 ++ v2).length = t.sz := by rw [← e1]; simp; omega
  rw [List.length_append, h3] at h4
  exact List.eq_nil_of_length_eq_zero (by omega)
 rw [hv2, List.append_nil] at e1
 rcases ho.2 with ⟨rfl, h00⟩ | ⟨b, cap, cur, fz, rfl, _, hh, hfz, hnc, hcm, hcs, htk⟩
 ·omega
 have hws : ws.length ≤ cur.size := by rw [hlen, hcs]; exact Nat.mul_le_mul_right _ hnc
 refine ⟨y, rest, b, cap, cur, fz, hk, hE, hh, hfz, by omega, ?_⟩
 have hb : blkOf g n = some b := by simp [blkOf, hE, baseOf]
 have hseg := seg_eq ws us i.toNat t.sz off (by omega) (by omega)
 have hset := RR_set t l ws i.toNat y v1 hr hcy hlt
 rw [← e1, had.symm, hseg] at hset
 have hnew := setRow_heap w b cur (cur.toList.take (i.toNat * t.sz + off) ++ us ++ cur.toList.drop (i.toNat * t.sz + off + us.length)).toArray e fz hh
 refine hw.put n _ (GE.refl g) (fun _ _ => rfl) ?_ (setRow_same w b _) ?_ rfl ?_ ?_
 ·refine ⟨.slice (some ⟨b, 0, none⟩) l.length cap, _, hE, hf, ?_, hset, ?_⟩
  ·rw [List.length_set]
   refine ⟨by simp; omega, .inr ⟨b, cap, _, fz, rfl, Nat.zero_le _, hnew, by rw [show (cur.toList.take (i.toNat * t.sz + off) ++ us ++ cur.toList.drop (i.toNat * t.sz + off + us.length)).toArray.size = cur.size from by simp; omega]; exact hfz, hnc, hcm, ?_, ?_⟩⟩
   ·simp; omega
   ·obtain ⟨tl, hc⟩ : ∃ tl, cur.toList = ws ++ tl := ⟨cur.toList.drop (l.length * t.sz), by rw [← htk, List.take_append_drop]⟩
    have hc2 : cur.toList.take (i.toNat * t.sz + off) ++ us ++ cur.toList.drop (i.toNat * t.sz + off + us.length) = (ws.take (i.toNat * t.sz + off) ++ us ++ ws.drop (i.toNat * t.sz + off + us.length)) ++ tl := by
     rw [hc, List.take_append_of_le_length (by omega), List.drop_append_of_le_length (by omega)]
     simp only [List.append_assoc]
    simp only [hc2]
    rw [List.take_left' (by simp; omega)]
  ·intro a ha hc
   rw [List.length_set] at hc
   exact hm a ha (.inl rfl)
 ·intro k hk hx
  exact setRow_other w b k _ (fun e => hx _ hn rfl (by rw [hb, e]))
 ·rintro k a v ⟨x, _, _, hk⟩ hab ha
  rw [hb] at hk
  cases hk
  rw [hm a (by simp [Value.ownBlock, hab]) (.inl rfl)] at ha
  cases ha
 ·intro k _ hk
  exact .inr ⟨_, hn, rfl, hk⟩
theorem arr_put {B : Base} {g : G} {o : Objs} {w : World} (hw : WInv B g o w) {n m : Nat} {t : Ty} {l : List t.I} (hn : o n = some (.arr m t l)) {b : Nat} {ws : List Value} {ty : TypeId}
  (hE : g.E n = some (.pointer (some ⟨b, 0, none⟩), t.sz)) (hf : t.flat = true) (hh : w.heap[b]? = some (.cells ws.toArray ty (0, 0))) (hm : ∀ a : Addr, a.block = b → g.M a = none)
  (l' : List t.I) (ws' : List Value) (hl : l'.length = m) (hr : RR g.M t l' ws') : WInv B g (upd o n (.arr m t l')) (w.setRow b ws'.toArray) := by
 have hb : blkOf g n = some b := by simp [blkOf, hE, baseOf]
 refine hw.put n _ (GE.refl g) (fun _ _ => rfl) ⟨b, ws', ty, hE, ⟨hf, hl⟩, setRow_heap w b _ _ ty (0, 0) hh, hr, hm⟩ (setRow_same w b _) ?_ rfl ?_ ?_
 ·intro k hk hx
  exact setRow_other w b k _ (fun e => hx _ hn rfl (by rw [hb, e]))
 ·rintro k a v ⟨x, _, _, hk⟩ hab ha
  rw [hb] at hk
  cases hk
  rw [hm a hab] at ha
  cases ha
 ·intro k _ hk
  exact .inr ⟨_, hn, rfl, hk⟩
theorem bld_put {B : Base} {g : G} {o : Objs} {w : World} (hw : WInv B g o w) {n T : Nat} {c : AV} (hn : o n = some (.bld T c)) {b : Nat} {q v0 : Value}
  (hE : g.E n = some (.pointer (some ⟨b, 0, none⟩), 1)) (hh : w.heap[b]? = some (.cells #[q, v0] T (0, 0))) (hm : ∀ a : Addr, a.block = b → g.M a = none)
  (q' : Value) (hq : q' = .pointer none ∨ q' = .pointer (some ⟨b, 0, none⟩)) (c' : AV) (v' : Value) (hc : VR g c' v') (h1 : v'.oneCell' = true) : WInv B g (upd o n (.bld T c')) (w.setRow b #[q', v']) := by
 have hb : blkOf g n = some b := by simp [blkOf, hE, baseOf]
 refine hw.put n _ (GE.refl g) (fun _ _ => rfl) ⟨b, q', v', hE, setRow_heap w b _ _ T (0, 0) hh, hq, hc, h1, hm⟩ (setRow_same w b _) ?_ rfl ?_ ?_
 ·intro k hk hx
  exact setRow_other w b k _ (fun e => hx _ hn rfl (by rw [hb, e]))
 ·rintro k a v ⟨x, _, _, hk⟩ hab ha
  rw [hb] at hk
  cases hk
  rw [hm a hab] at ha
  cases ha
 ·intro k _ hk
  exact .inr ⟨_, hn, rfl, hk⟩
theorem storeK_sound {R : Type} {Θ : Nat → TD} (hΘ : TOk P Θ) {B : Base} {g : G} {o : Objs} {w : World} (hw : WInv B g o w) (t : Nat) (x a : AV) (xv v : Value) (κ : Objs → Option R) (r : R)
  (h : storeK Θ t x a o κ = some r) (hx : VR g x xv) (ha : VR g a v) : ∃ o' g' w', κ o' = some r ∧ WInv B g' o' w' ∧ GE g g' ∧ (Instr.storeAt t xv v).run P w = .ok () w' := by
 unfold storeK at h
 split at h
 ·rename_i n off
  obtain ⟨p, z, hE, rfl⟩ := hx
  split at h
  ·rename_i cs hn
   split at h
   ·rename_i hc
    obtain ⟨hok, hsz, hle, hl1⟩ := hc
    obtain ⟨hv, h1⟩ := cellsOf_sound ha hl1
    obtain ⟨b, ws, ty, hE2, hh, hlen, hw'⟩ := box_store hw hn off _ _ hv h1 hle
    rw [hE2] at hE
    cases hE
    have hvl := VRL_length hv
    obtain ⟨i, d, z, hi, hu, hk, hs, _⟩ := (hΘ.ok hok).row
    refine ⟨_, g, _, h, hw', GE.refl g, ?_⟩
    have := run_storeAt (P := P) (t := t) hi b off ty ws.toArray v hh (.inl rfl) (by rw [← hs, ← hsz, hvl]; simp) (by simp at hvl ⊢; omega) h1
    rw [add_at, this]
    simp
   ·cases h
  ·rename_i m e l hn
   split at h
   ·rename_i m' e' l'
    split at h
    ·rename_i he
     subst he
     split at h
     ·rename_i hc
      obtain ⟨hok, rfl, hsz, rfl⟩ := hc
      obtain ⟨b, ws, ty, hE2, ⟨hf, hlm⟩, hh, hr, hm⟩ := hw.objs n _ hn
      rw [hE2] at hE
      cases hE
      obtain ⟨_, hlm', ws', rfl, hr'⟩ := ha
      obtain ⟨i, d, z, hi, hu, hk, hs, _⟩ := (hΘ.ok hok).row
      have hlw := RR_length _ l ws hr
      have hlw' := RR_length _ l' ws' hr'
      refine ⟨_, g, _, h, arr_put hw hn hE2 hf hh hm l' ws' hlm' hr', GE.refl g, ?_⟩
      have := run_storeAt (P := P) (t := t) hi b 0 ty ws.toArray (.agg ws'.toArray) hh (.inl rfl) (by rw [← hs, hsz, ← hlm', ← hlw']; simp [Value.cells]) (by simp [Value.cells]; rw [hlw', hlw, hlm, hlm']; omega) (by simpa [Value.cells] using RR_one _ l' ws' hr')
      rw [add_at, this]
      have e3 : ws.length ≤ ws'.length := by rw [hlw', hlw, hlm, hlm']; omega
      simp [Value.cells, List.drop_of_length_le e3]
     ·cases h
    ·cases h
   ·cases h
  ·rename_i T c hn
   split at h
   case h_2 => cases h
   rename_i k
   split at h
   case isFalse => cases h
   rename_i hcc
   obtain ⟨hok, hsz, rfl⟩ := hcc
   obtain ⟨b, q, v0, hE2, hh, hq, hc0, h10, hm⟩ := hw.objs n _ hn
   rw [hE2] at hE
   cases hE
   obtain ⟨hv, h1⟩ := cellsOf_sound ha (show (cellsOf (.row k)).all leaf1 = true from rfl)
   obtain ⟨u, hu, hur⟩ : ∃ u, v.cells.toList = [u] ∧ VR g (.row k) u := by
    have hv' : VRL g [AV.row k] v.cells.toList := hv
    revert hv'
    cases v.cells.toList with
    | nil => intro h; exact h.elim
    | cons u l =>
     cases l with
     | nil => rintro ⟨h, _⟩; exact ⟨u, rfl, h⟩
     | cons _ _ => rintro ⟨_, h⟩; exact h.elim
   obtain ⟨i, d, z, hi, hu2, hk, hs, _⟩ := (hΘ.ok hok).row
   have hvs : v.cells.size = 1 := by simpa using congrArg List.length hu
   refine ⟨_, g, _, h, bld_put hw hn hE2 hh hm q hq (.row k) u hur (h1 u (by rw [hu]; simp)), GE.refl g, ?_⟩
   have := run_storeAt (P := P) (t := t) hi b 1 T #[q, v0] v hh (.inl rfl) (by rw [← hs, hsz, hvs]) (by simp [hvs]) h1
   rw [add_at, this]
   simp [hu, hvs]
  ·cases h
 ·rename_i n i off
  obtain ⟨p, z, u0, hE, hb, rfl⟩ := hx
  split at h
  case isFalse => cases h
  rename_i hl1
  obtain ⟨hv, h1⟩ := cellsOf_sound ha hl1
  obtain ⟨cs', o', g', hk, hv', hw', hg, hgE⟩ := resolveK_sound _ _ g o _ r h hv hw
  have hvl := VRL_length hv'
  split at hk
  ·rename_i el e l hn
   split at hk
   ·rename_i x hi
    split at hk
    ·rename_i hc
     obtain ⟨hok, hsz, hle⟩ := hc
     obtain ⟨y, rest, b, cap, cur, fz, hk2, hE2, hh, hfz, hlt, hw2⟩ := row_store hw' hn hi off cs' _ hv' h1 hle x _ r hk
     rw [hgE, hE] at hE2
     cases hE2
     cases hb
     obtain ⟨ii, d, z, hii, hu, hkk, hs, _⟩ := (hΘ.ok hok).row
     refine ⟨_, g', _, hk2, hw2, hg, ?_⟩
     have := run_storeAt (P := P) (t := t) hii b (i.toNat * e.sz + off) el cur v hh hfz (by rw [← hs, ← hsz, hvl]; simp) (by simpa using hlt) h1
     rw [add_at, this]
     simp
    ·cases hk
   ·cases hk
  ·rename_i m e l hn
   split at hk
   ·rename_i x hi
    split at hk
    ·rename_i hc
     obtain ⟨hok, hsz, hle⟩ := hc
     obtain ⟨b, ws, ty, hE2, ⟨hf, hlm⟩, hh, hr, hm⟩ := hw'.objs n _ hn
     have hE3 := hE2
     rw [hgE, hE] at hE3
     cases hE3
     cases hb
     unfold idx at hi
     split at hi
     case isFalse => cases hi
     have hlt : i.toNat < l.length := (List.getElem?_eq_some_iff.1 hi).1
     obtain ⟨a', hca, hal, had⟩ := RR_get e l ws hr i.toNat x hi
     have hll := leaves_length e x hf
     have hput := putCells_sound (leaves e x) a' off cs' _ (leaves_VRL e x a' hf hca) hv' (by omega)
     obtain ⟨y, rest, v1, v2, hk2, e1, hcy, hrest⟩ := packK_sound e _ _ _ r hf hk hput
     have hv2 : v2 = [] := by
      have h3 := CR_length e y v1 hcy
      have h4 : (v1 ++ v2).length = e.sz := by rw [← e1]; simp at hvl ⊢; omega
      rw [List.length_append, h3] at h4
      exact List.eq_nil_of_length_eq_zero (by omega)
     rw [hv2, List.append_nil] at e1
     have hlen := RR_length e l ws hr
     have hmul : i.toNat * e.sz + e.sz ≤ l.length * e.sz := by
      have : (i.toNat + 1) * e.sz ≤ l.length * e.sz := Nat.mul_le_mul_right _ hlt
      rw [Nat.add_mul] at this; omega
     have hset := RR_set e l ws i.toNat y v1 hr hcy hlt
     have hseg := seg_eq ws v.cells.toList i.toNat e.sz off (by omega) (by omega)
     rw [← e1, had.symm, hseg] at hset
     obtain ⟨ii, d, z, hii, hu, hkk, hs, _⟩ := (hΘ.ok hok).row
     refine ⟨_, g', _, hk2, arr_put hw' hn hE2 hf hh hm _ _ (by rw [List.length_set]; exact hlm) hset, hg, ?_⟩
     have := run_storeAt (P := P) (t := t) hii b (i.toNat * e.sz + off) ty ws.toArray v hh (.inl rfl) (by rw [← hs, ← hsz, hvl]; simp) (by simp at hvl ⊢; omega) h1
     rw [add_at, this]
     simp
    ·cases hk
   ·cases hk
  ·cases hk
 ·cases h
end Go.Den
set_option linter.unusedVariables false
set_option linter.unusedSimpArgs false
namespace Go.Den
variable {P : Program}
theorem WInv.put2 {B : Base} {g g' : G} {o : Objs} {w w' : World} (h : WInv B g o w) (n0 : Nat) (x' : Obj) (hg : GE g g')
  (hE : ∀ n, n ≠ n0 → g'.E n = g.E n) (hM : g'.M = g.M)
  (hx : OR g' w' n0 x')
  (hw : w'.os = w.os ∧ w'.tape = w.tape ∧ w'.output = w.output ∧ w.heap.size ≤ w'.heap.size)
  (hobj : ∀ m x b, m ≠ n0 → o m = some x → live x = true → blkOf g m = some b → w'.heap[b]? = w.heap[b]?)
  (hmem : ∀ a v, g.M a = some v → w'.cell? a = some v)
  (hfor : ∀ b, b < B.w0.heap.size → ¬ B.X b → w'.heap[b]? = w.heap[b]?)
  (hnew : ∀ b, live x' = true → blkOf g' n0 = some b → (∀ m x, m ≠ n0 → o m = some x → live x = true → blkOf g m ≠ some b) ∧ (B.X b ∨ B.w0.heap.size ≤ b))
  : WInv B g' (upd o n0 x') w' := by
 have hsub : ∀ n, n ≠ n0 → blkOf g' n = blkOf g n := fun n hn => by simp [blkOf, hE n hn]
 refine ⟨?_, ?_, ?_, ?_, ?_, ?_, ?_, ?_, h.glob⟩
 ·intro n x hn
  unfold upd at hn
  split at hn
  ·rename_i e; subst e; cases hn; exact hx
  ·rename_i hne
   exact OR_keep (h.objs n x hn) hg fun b hb hl => ⟨hobj n x b hne hn hl hb, fun a ha => by rw [hM]⟩
 ·intro n hn
  unfold upd at hn
  split at hn
  ·cases hn
  ·rename_i hne; rw [hE n hne]; exact h.dom n hn
 ·intro n m x y hnm hn hm hlx hly b hbn hbm
  unfold upd at hn hm
  split at hn
  ·rename_i e; subst e; cases hn
   split at hm
   ·rename_i e; exact hnm e.symm
   ·rename_i hne
    rw [hsub m hne] at hbm
    exact (hnew b hlx hbn).1 m y hne hm hly hbm
  ·rename_i hne
   rw [hsub n hne] at hbn
   split at hm
   ·rename_i e; subst e; cases hm
    exact (hnew b hly hbm).1 n x hne hn hlx hbn
   ·rename_i hne2
    rw [hsub m hne2] at hbm
    exact h.apart n m x y hnm hn hm hlx hly b hbn hbm
 ·intro a v ha
  rw [hM] at ha
  exact ⟨hmem a v ha, (h.mem a v ha).2⟩
 ·exact ⟨hw.1.trans h.ext.os, hw.2.1.trans h.ext.tape, hw.2.2.1.trans h.ext.output, Nat.le_trans h.ext.size hw.2.2.2, fun b hb hX => (hfor b hb hX).trans (h.ext.block b hb hX)⟩
 ·intro a v ha; rw [hM]; exact h.grow a v ha
 ·intro a ha hX; rw [hM]; exact h.old a ha hX
 ·intro n x b hn hl hb
  unfold upd at hn
  split at hn
  ·rename_i e; subst e; cases hn; exact (hnew b hl hb).2
  ·rename_i hne
   rw [hsub n hne] at hb
   exact h.mine n x b hn hl hb
def setE (g : G) (n : Nat) (u : Value × Nat) : G := ⟨g.M, fun m => if m = n then some u else g.E m⟩
theorem setE_ge {B : Base} {g : G} {o : Objs} {w : World} (h : WInv B g o w) {n : Nat} (hn : o n = none) (u : Value × Nat) : GE g (setE g n u) :=
 ⟨fun _ _ e => e, fun m x hm => by
  unfold setE
  by_cases e : m = n
  ·subst e; rw [h.dom m hn] at hm; cases hm
  ·simp [e, hm]⟩
theorem setE_at (g : G) (n : Nat) (u : Value × Nat) : (setE g n u).E n = some u := by simp [setE]
theorem setE_ne (g : G) {n m : Nat} (u : Value × Nat) (h : m ≠ n) : (setE g n u).E m = g.E m := by simp [setE, h]
theorem new_put {B : Base} {g : G} {o : Objs} {w w' : World} (h : WInv B g o w) {n : Nat} (hn : o n = none) (u : Value × Nat) (x' : Obj)
  (hx : OR (setE g n u) w' n x') (hw : w.grownBy w' none) (hb : ∀ b, (baseOf u.1).map (·.block) = some b → w.heap.size ≤ b) : WInv B (setE g n u) (upd o n x') w' := by
 refine h.put2 n x' (setE_ge h hn u) (fun m hm => setE_ne g u hm) rfl hx ⟨hw.os, hw.tape, hw.output, hw.size⟩ ?_ ?_ ?_ ?_
 ·intro m x b hm hmo hl hbm
  exact hw.block b (OR_blk (h.objs m x hmo) hl b hbm) (by simp)
 ·intro a v ha
  have hc := (h.mem a v ha).1
  rw [World.cell?_of_block (hw.block a.block (World.block_lt_of_cell? w a hc) (by simp))]
  exact hc
 ·intro b hb _
  exact hw.block b (Nat.lt_of_lt_of_le hb h.ext.size) (by simp)
 ·intro b hl hbk
  have hge : w.heap.size ≤ b := hb b (by simpa [blkOf, setE_at] using hbk)
  refine ⟨fun m x hm hmo hl hbm => ?_, .inr (Nat.le_trans h.ext.size hge)⟩
  have := OR_blk (h.objs m x hmo) hl b hbm
  omega
theorem grown_alloc (w : World) (c : Array Value) (t : TypeId) : w.grownBy (w.alloc (.cells c t)) none :=
 ⟨rfl, rfl, rfl, by simp, fun k hk _ => heap_alloc_old w _ hk⟩
theorem M_new {B : Base} {g : G} {o : Objs} {w : World} (h : WInv B g o w) : ∀ a : Addr, w.heap.size ≤ a.block → g.M a = none := by
 intro a ha
 cases hm : g.M a with
 | none => rfl
 | some v =>
  have := World.block_lt_of_cell? w a (h.mem a v hm).1
  omega
theorem new_box {B : Base} {g : G} {o : Objs} {w : World} (h : WInv B g o w) {n : Nat} (hn : o n = none) (cs : List AV) (ws : List Value) (ty : TypeId) (hc : VRL g cs ws) (h1 : ∀ u ∈ ws, u.oneCell' = true) :
  WInv B (setE g n (.pointer (some ⟨w.heap.size, 0, none⟩), 1)) (upd o n (.box cs)) (w.alloc (.cells ws.toArray ty)) := by
 refine new_put h hn _ _ ⟨w.heap.size, ws, ty, setE_at g n _, heap_alloc_new w _, VRL_mono (setE_ge h hn _) cs ws hc, h1, fun a ha => M_new h a (by omega)⟩ (grown_alloc w _ _) ?_
 intro b hb
 simp [baseOf] at hb
 omega
theorem new_arr {B : Base} {g : G} {o : Objs} {w : World} (h : WInv B g o w) {n m : Nat} (hn : o n = none) (t : Ty) (l : List t.I) (ws : List Value) (ty : TypeId) (hf : t.flat = true) (hl : l.length = m) (hr : RR g.M t l ws) :
  WInv B (setE g n (.pointer (some ⟨w.heap.size, 0, none⟩), t.sz)) (upd o n (.arr m t l)) (w.alloc (.cells ws.toArray ty)) := by
 refine new_put h hn _ _ ⟨w.heap.size, ws, ty, setE_at g n _, ⟨hf, hl⟩, heap_alloc_new w _, hr, fun a ha => M_new h a (by omega)⟩ (grown_alloc w _ _) ?_
 intro b hb
 simp [baseOf] at hb
 omega
theorem new_row {B : Base} {g : G} {o : Objs} {w w' : World} (h : WInv B g o w) {n : Nat} (hn : o n = none) (e : Nat) (t : Ty) (l : List t.I) (ws : List Value) (v : Value) (frz : Bool) (hf : t.flat = true) (hr : RR g.M t l ws)
  (ho : w'.ownsR 0 e t.sz v l.length ws) (hw : w.grownBy w' none) (hv : v = .slice none 0 0 ∨ v.ownBlock = some w.heap.size) : WInv B (setE g n (v, t.sz)) (upd o n (.row e t l frz)) w' := by
 refine new_put h hn _ _ ⟨v, ws, setE_at g n _, hf, ho, hr, fun a ha hc => ?_⟩ hw ?_
 ·rcases hv with rfl | hv
  ·simp [Value.ownBlock] at ha
  ·rw [hv] at ha
   exact M_new h a (by simp at ha; omega)
 ·intro b hb
  rw [ownBlock_base ho] at hb
  rcases hv with rfl | hv
  ·simp [Value.ownBlock] at hb
  ·rw [hv] at hb; simp at hb; omega
theorem gone_put {B : Base} {g : G} {o : Objs} {w : World} (h : WInv B g o w) {n : Nat} {x : Obj} (hn : o n = some x) : WInv B g (upd o n .gone) w := by
 refine h.put2 n .gone (GE.refl g) (fun _ _ => rfl) rfl (OR_some (h.objs n x hn)) ⟨rfl, rfl, rfl, Nat.le_refl _⟩ (fun _ _ _ _ _ _ _ => rfl) (fun a v ha => (h.mem a v ha).1) (fun _ _ _ => rfl) ?_
 intro b hl
 cases hl
theorem run_app (w : World) (t t1 ty e : TypeId) (i : TypeInfo) (z : Value) (d1 : TypeDesc) (ht : P.underlying t = some (.slice e)) (hi : P.info? e = some i) (hz : i.zero = some z) (hzs : z.cells.size = i.size)
  (ht1 : P.underlying t1 = some d1) (hd1 : d1 = .string ∨ ∃ e', d1 = .slice e') (hsz : 0 < i.size)
  (v : Value) (n : Nat) (xs : List Value) (hown : w.ownsR 0 e i.size v n xs) (y : Value) (m : Nat) (news : List Value) (hl : news.length = m * i.size)
  (hlen : ∀ w, (Builtin.lenOf y).run P w = .ok m w) (hy : ∀ k, (Builtin.firstCells i.size m y).run P { w with drawn := k } = .ok news.toArray { w with drawn := k })
  (h1 : ∀ u ∈ news, u.oneCell' = true) (h63 : n + m ≤ maxLen) (hbytes : (n + m) * i.bytes ≤ 140737488355328) :
  ∃ v' w', (Builtin.append_ #[t, t1] ty #[v, y]).run P w = .ok v' w' ∧ w'.ownsR 0 e i.size v' (n + m) (xs ++ news) ∧ v'.oneCell' = true ∧
   ((w.grownBy w' none ∧ (v' = .slice none 0 0 ∨ v'.ownBlock = some w.heap.size)) ∨ (∃ b, v.ownBlock = some b ∧ v'.ownBlock = some b ∧ w.grownBy w' (some b))) := by
 have hsmall : n + m ≤ 9223372036854775807 := by simp only [maxLen] at h63; omega
 have hllen : (xs ++ news).length = (n + m) * i.size := by rw [List.length_append, hown.1, hl, Nat.add_mul]
 have hy0 : (Builtin.firstCells i.size m y).run P w = .ok news.toArray w := hy w.drawn
 have hyd : (Builtin.firstCells i.size m y).run P w.drew = .ok news.toArray w.drew := hy _
 have grown : ∀ (old : Nat), old < n + m →
   (w.drew.alloc (.cells (xs.toArray ++ news.toArray ++ Builtin.zeroCells z.cells (grownCap w (n + m) old e - (n + m))) e)).ownsR 0 e i.size
    (.slice (some ⟨w.heap.size, 0, none⟩) (n + m) (grownCap w (n + m) old e)) (n + m) (xs ++ news) ∧
   w.grownBy (w.drew.alloc (.cells (xs.toArray ++ news.toArray ++ Builtin.zeroCells z.cells (grownCap w (n + m) old e - (n + m))) e)) none := by
  intro old ho
  have hge := grownCap_ge w (n + m) old e
  have hcm : grownCap w (n + m) old e ≤ maxLen := grownCap_le_maxLen w (n + m) old e h63
  refine ⟨⟨hllen, .inr ⟨w.heap.size, _, _, (0, 0), rfl, Nat.zero_le _, heap_alloc_new w.drew _, .inl rfl, hge, hcm, ?_, ?_⟩⟩, ⟨rfl, rfl, rfl, by simp, fun k hk _ => heap_alloc_old w.drew _ hk⟩⟩
  ·simp only [Array.size_append, List.size_toArray, size_zeroCells, hzs, hown.1, hl, ← Nat.add_mul]
   congr 1
   omega
  ·simp only [Array.toList_append, List.append_assoc]
   rw [← List.append_assoc, ← hllen]
   exact List.take_left
 rcases hown.2 with ⟨rfl, rfl⟩ | ⟨b, cap, cur, fz, rfl, _, hh, hfz, hnc, hcm, hcs, htk⟩
 ·have hx : xs = [] := List.eq_nil_of_length_eq_zero (by simpa using hown.1)
  subst hx
  by_cases hm : m = 0
  ·subst hm
   have hn : news = [] := List.eq_nil_of_length_eq_zero (by simpa using hl)
   subst hn
   refine ⟨.slice none 0 0, w, ?_, World.ownsR_nil w 0 e i.size, rfl, .inl ⟨⟨rfl, rfl, rfl, Nat.le_refl _, fun _ _ _ => rfl⟩, .inl rfl⟩⟩
   rcases hd1 with rfl | ⟨e', rfl⟩ <;> simp [Builtin.append_, run_underlying ht, run_underlying ht1, sizeOf, typeInfo, hi, hlen, hy0]
  ·have hgr := grown 0 (by omega)
   have h48 : m * i.bytes ≤ 281474976710656 := by simp only [Nat.zero_add] at hbytes; omega
   have hn : m ≠ 0 := by omega
   have h63' : ¬ (9223372036854775807 < (m : Int)) := by omega
   have h48' : ¬ (281474976710656 < Builtin.nextslicecap m 0 * i.bytes) := by rw [nextslicecap_zero (by omega)]; omega
   simp only [Nat.zero_add, List.nil_append, Array.empty_append] at hgr ⊢
   refine ⟨_, _, ?_, hgr.1, rfl, .inl ⟨hgr.2, .inr rfl⟩⟩
   rcases hd1 with rfl | ⟨e', rfl⟩ <;> simp [Builtin.append_, run_underlying ht, run_underlying ht1, sizeOf, typeInfo, zeroValue, hi, hz, hlen, hn, h63', h48', Question.forced, run_firstCells_none, hyd, newRow, grownCap]
 ·by_cases hroom : n + m ≤ cap
  ·have hfit : n * i.size + news.length ≤ cur.size := by rw [hl, hcs, ← Nat.add_mul]; exact Nat.mul_le_mul_right _ hroom
   have hst := run_storeCells_fz (P := P) b (n * i.size) e fz news 0 cur w hh hfz (by simpa using hfit) h1
   simp only [Nat.add_zero] at hst
   refine ⟨.slice (some ⟨b, 0, none⟩) (n + m) cap, w.setRow b (cur.toList.take (n * i.size) ++ news ++ cur.toList.drop (n * i.size + news.length)).toArray, ?_, ?_, rfl, .inr ⟨b, rfl, rfl, ⟨rfl, rfl, rfl, by simp, fun k _ hk => setRow_other w b k _ (fun e => hk (by simp [e]))⟩⟩⟩
   ·rcases hd1 with rfl | ⟨e', rfl⟩ <;> simp [Builtin.append_, run_underlying ht, run_underlying ht1, sizeOf, typeInfo, hi, hlen, hy0, hroom, Addr.add_lit, hst]
   ·refine ⟨hllen, .inr ⟨b, cap, _, fz, rfl, Nat.zero_le _, setRow_heap w b cur _ e _ hh, by rw [show (cur.toList.take (n * i.size) ++ news ++ cur.toList.drop (n * i.size + news.length)).toArray.size = cur.size from by simp; omega]; exact hfz, hroom, hcm, ?_, ?_⟩⟩
    ·simp only [List.size_toArray, List.length_append, List.length_take, List.length_drop, Array.length_toList]
     omega
    ·rw [htk, ← hllen]
     exact List.take_left
  ·have holds : ∀ j u, xs[j]? = some u → w.cell? ((⟨b, 0, none⟩ : Addr).add j) = some u := hown.cells (g := b) rfl
   have hgr := grown cap (by omega)
   have hn : ¬ (n + m ≤ cap) := by omega
   have h63' : ¬ (9223372036854775807 < ((n : Int) + (m : Int))) := by omega
   have h48' : ¬ (281474976710656 < Builtin.nextslicecap (n + m) cap * i.bytes) := by have := growslice_fits (need := n + m) (old := cap) (bytes := i.bytes) (by omega) hbytes; omega
   have hfo := run_firstCells_some (P := P) w.drew i.size n ⟨b, 0, none⟩ n cap xs hown.1 (by simpa using holds)
   refine ⟨_, _, ?_, hgr.1, rfl, .inl ⟨hgr.2, .inr rfl⟩⟩
   rcases hd1 with rfl | ⟨e', rfl⟩ <;>
   ·simp [Builtin.append_, run_underlying ht, run_underlying ht1, sizeOf, typeInfo, zeroValue, hi, hz, hlen, hn, h63', h48', Question.forced, hyd, hfo, newRow, grownCap]
    congr 2
    apply Array.ext'
    simp [List.append_assoc]
end Go.Den
set_option linter.unusedVariables false
set_option linter.unusedSimpArgs false
namespace Go.Den
variable {P : Program}
theorem flat_pos : ∀ (t : Ty), t.flat = true → 0 < t.sz := by
 intro t
 induction t with
 | bool => simp [Ty.sz]
 | int k => simp [Ty.sz]
 | str => simp [Ty.sz]
 | sl t _ => simp [Ty.sz]
 | arr n t _ => intro h; simp [Ty.flat] at h
 | unit => intro h; simp [Ty.flat] at h
 | pair a b iha ihb =>
  intro h
  simp only [Ty.flat, Bool.and_eq_true] at h
  have := iha h.1
  simp only [Ty.sz]
  omega
theorem elemTy_ok {Θ : Nat → TD} (hΘ : TOk P Θ) {t e : Nat} {ty : Ty} (h : elemTy Θ t = some (e, ty)) :
  ∃ i z, P.underlying t = some (.slice e) ∧ P.info? e = some i ∧ i.zero = some z ∧ z.cells.size = i.size ∧ i.size = ty.sz ∧ ty.flat = true ∧ (Θ e).nb = i.bytes ∧ 0 < i.bytes ∧ 0 < i.size ∧ (Θ e).sz = i.size ∧
   (∀ M : Mem, CR M ty (zeroI ty) z.cells.toList) := by
 unfold elemTy at h
 split at h
 ·rename_i e' hk
  split at h
  ·rename_i te hty
   split at h
   ·rename_i hc
    cases h
    obtain ⟨i, d, z, hi, hu, hk2, _⟩ := (hΘ.get t (by rw [hk]; simp)).row
    have hd : d = .slice e := by rw [hk] at hk2; cases d <;> simp [kOf] at hk2; rw [hk2]
    subst hd
    obtain ⟨ie, de, ze, hie, hue, hke, hse, hne, hze, hzz, hzs, hz1, htt⟩ := (hΘ.ty hty).row
    obtain ⟨hf, hsz, hzero⟩ := htt ty hty
    exact ⟨ie, ze, hu, hie, hze, hzs, hsz.symm, hf, hne, by rw [← hne]; exact hc.2, by rw [← hsz]; exact flat_pos ty hf, hse, hzero⟩
   ·cases h
  ·cases h
 ·cases h
theorem cells_of_list {M : Mem} (t : Ty) (A : Option Addr) : ∀ (l : List t.I) (k : Nat), (∀ i x, l[i]? = some x → ∃ ad ws, A = some ad ∧ CR M t x ws ∧ ∀ j v, ws[j]? = some v → M (ad.add ((k + i) * t.sz + j)) = some v) →
  ∃ news, RR M t l news ∧ ∀ ad, A = some ad → ∀ j v, news[j]? = some v → M (ad.add (k * t.sz + j)) = some v
 | [], k, h => ⟨[], rfl, fun ad _ j v hj => by simp at hj⟩
 | x :: l, k, h => by
  obtain ⟨ad, ws, hA, hc, hm⟩ := h 0 x rfl
  obtain ⟨news, hr, hn⟩ := cells_of_list t A l (k + 1) (fun i y hi => by
   obtain ⟨ad, ws, hA, hc, hm⟩ := h (i + 1) y (by simpa using hi)
   exact ⟨ad, ws, hA, hc, fun j v hj => by have := hm j v hj; rw [show k + 1 + i = k + (i + 1) by omega]; exact this⟩)
  refine ⟨ws ++ news, ⟨ws, news, rfl, hc, hr⟩, fun ad' hA' j v hj => ?_⟩
  rw [hA] at hA'
  cases hA'
  have hwl := CR_length t x ws hc
  by_cases hlt : j < ws.length
  ·rw [List.getElem?_append_left hlt] at hj
   exact hm j v hj
  ·rw [List.getElem?_append_right (by omega)] at hj
   have := hn ad hA _ _ hj
   rw [show (k + 1) * t.sz + (j - ws.length) = k * t.sz + j by rw [Nat.add_mul, hwl]; omega] at this
   exact this
theorem CR_cells {M : Mem} (t : Ty) (l : List t.I) (v : Value) (h : CR M (.sl t) l [v]) : ∃ A c news, v = .slice A l.length c ∧ RR M t l news ∧ ∀ ad, A = some ad → ∀ j u, news[j]? = some u → M (ad.add j) = some u := by
 obtain ⟨A, c, e, hc, hx⟩ := h
 cases e
 obtain ⟨news, hr, hn⟩ := cells_of_list t A l 0 (fun i x hi => by simpa using hx i x hi)
 exact ⟨A, c, news, rfl, hr, fun ad hA j u hj => by simpa using hn ad hA j u hj⟩
theorem RR_bytes {M : Mem} : ∀ (l : List UInt8), RR M (.int .u8) (l.map fun b => (b.toNat : Int)) (l.map fun b => .int .u8 b.toNat)
 | [] => rfl
 | x :: l => ⟨[.int .u8 x.toNat], l.map fun b => .int .u8 b.toNat, rfl, rfl, RR_bytes l⟩
theorem firstCells_nil (size n len cap : Nat) (w : World) : (Builtin.firstCells size n (.slice none len cap)).run P w = .ok #[] w := run_firstCells_none w size n len cap
theorem RR_drop {M : Mem} (t : Ty) : ∀ (l : List t.I) (ws : List Value) (k : Nat), RR M t l ws → k ≤ l.length → RR M t (l.drop k) (ws.drop (k * t.sz))
 | l, ws, 0, h, _ => by simpa using h
 | [], ws, k + 1, h, hk => by simp at hk
 | x :: l, ws, k + 1, ⟨a, b, e, hc, hr⟩, hk => by
  have ha := CR_length t x a hc
  have h0 := RR_drop t l b k hr (by simpa using hk)
  subst e
  have h1 : a.drop ((k + 1) * t.sz) = [] := List.drop_of_length_le (by rw [ha, Nat.add_mul]; omega)
  have h2 : (k + 1) * t.sz - a.length = k * t.sz := by rw [ha, Nat.add_mul]; omega
  rw [List.drop_succ_cons, List.drop_append, h1, h2, List.nil_append]
  exact h0
theorem RR_take {M : Mem} (t : Ty) : ∀ (l : List t.I) (ws : List Value) (k : Nat), RR M t l ws → k ≤ l.length → RR M t (l.take k) (ws.take (k * t.sz))
 | l, ws, 0, h, _ => by simp [RR]
 | [], ws, k + 1, h, hk => by simp at hk
 | x :: l, ws, k + 1, ⟨a, b, e, hc, hr⟩, hk => by
  have ha := CR_length t x a hc
  have h0 := RR_take t l b k hr (by simpa using hk)
  subst e
  refine ⟨a, b.take (k * t.sz), ?_, hc, h0⟩
  rw [List.take_append, List.take_of_length_le (by rw [ha, Nat.add_mul]; omega), show (k + 1) * t.sz - a.length = k * t.sz from by rw [ha, Nat.add_mul]; omega]
theorem RR_win {M : Mem} (t : Ty) (l : List t.I) (ws : List Value) (a b : Nat) (h : RR M t l ws) (hab : a ≤ b) (hb : b ≤ l.length) : RR M t ((l.take b).drop a) ((ws.take (b * t.sz)).drop (a * t.sz)) :=
 RR_drop t _ _ a (RR_take t l ws b h hb) (by simp; omega)
theorem row_over {B : Base} {g : G} {o : Objs} {w : World} (hw : WInv B g o w) {n e : Nat} {t : Ty} {l : List t.I} (hn : o n = some (.row e t l false)) {b len cap : Nat} (hE2 : g.E n = some (.slice (some ⟨b, 0, none⟩) len cap, t.sz))
  (a : Nat) (ys : List t.I) (news : List Value) (hr : RR g.M t ys news) (hle : a + ys.length ≤ l.length) :
  ∃ cur fz, len = l.length ∧ l.length ≤ cap ∧ cap ≤ maxLen ∧ w.heap[b]? = some (.cells cur e fz) ∧ okFz fz cur.size ∧ cur.size = cap * t.sz ∧
   WInv B g (upd o n (.row e t (l.take a ++ ys ++ l.drop (a + ys.length)) false)) (w.setRow b (cur.toList.take (a * t.sz) ++ news ++ cur.toList.drop (a * t.sz + news.length)).toArray) := by
 obtain ⟨v, ws, hE, hf, ho, hrl, hm⟩ := hw.objs n _ hn
 rw [hE2] at hE
 cases hE
 rcases ho.2 with ⟨he, _⟩ | ⟨b', cap', cur, fz, he, _, hh, hfz, hnc, hcm, hcs, htk⟩
 ·cases he
 cases he
 have hnl := RR_length t ys news hr
 have hlen2 := RR_length t l ws hrl
 have hl' : (l.take a ++ ys ++ l.drop (a + ys.length)).length = l.length := by simp; omega
 have hrr : RR g.M t (l.take a ++ ys ++ l.drop (a + ys.length)) (ws.take (a * t.sz) ++ news ++ ws.drop ((a + ys.length) * t.sz)) :=
  RR_append t _ _ _ _ (RR_append t _ _ _ _ (RR_take t l ws a hrl (by omega)) hr) (RR_drop t l ws (a + ys.length) hrl hle)
 have hws : ws.length ≤ cur.size := by rw [hlen2, hcs]; exact Nat.mul_le_mul_right _ hnc
 have hmul : (a + ys.length) * t.sz ≤ l.length * t.sz := Nat.mul_le_mul_right _ hle
 rw [Nat.add_mul] at hmul
 refine ⟨cur, fz, rfl, hnc, hcm, hh, hfz, hcs, ?_⟩
 have hb : blkOf g n = some b := by simp [blkOf, hE2, baseOf]
 have hnew := setRow_heap w b cur (cur.toList.take (a * t.sz) ++ news ++ cur.toList.drop (a * t.sz + news.length)).toArray e fz hh
 have hsz : (cur.toList.take (a * t.sz) ++ news ++ cur.toList.drop (a * t.sz + news.length)).toArray.size = cur.size := by simp; omega
 refine hw.put n _ (GE.refl g) (fun _ _ => rfl) ?_ (setRow_same w b _) ?_ rfl ?_ ?_
 ·refine ⟨.slice (some ⟨b, 0, none⟩) l.length cap, _, hE2, hf, ?_, hrr, ?_⟩
  ·rw [hl']
   refine ⟨by simp [Nat.add_mul]; omega, .inr ⟨b, cap, _, fz, rfl, Nat.zero_le _, hnew, by rw [hsz]; exact hfz, hnc, hcm, by rw [hsz, hcs], ?_⟩⟩
   obtain ⟨tl, hct⟩ : ∃ tl, cur.toList = ws ++ tl := ⟨cur.toList.drop (l.length * t.sz), by rw [← htk, List.take_append_drop]⟩
   have hc2 : cur.toList.take (a * t.sz) ++ news ++ cur.toList.drop (a * t.sz + news.length) = (ws.take (a * t.sz) ++ news ++ ws.drop ((a + ys.length) * t.sz)) ++ tl := by
    rw [hct, List.take_append_of_le_length (by omega), List.drop_append_of_le_length (by omega), Nat.add_mul, hnl]
    simp only [List.append_assoc]
   simp only [hc2]
   rw [List.take_left' (by simp [Nat.add_mul]; omega)]
  ·intro a' ha hc
   rw [hl'] at hc
   exact hm a' ha (.inl rfl)
 ·intro k hk hx
  exact setRow_other w b k _ (fun e => hx _ hn rfl (by rw [hb, e]))
 ·rintro k a' v ⟨x, _, _, hk⟩ hab ha
  rw [hb] at hk
  cases hk
  rw [hm a' (by simp [Value.ownBlock, hab]) (.inl rfl)] at ha
  cases ha
 ·intro k _ hk
  exact .inr ⟨_, hn, rfl, hk⟩
theorem win_ptr {A A' : Option Addr} {bk a z cap : Nat} (hA : A = some ⟨bk, 0, none⟩) (h0 : a = 0 → A' = A) (h1 : 0 < a → a < cap → A' = A.map (·.add (a * z))) (hc : a < cap) : A' = some ⟨bk, a * z, none⟩ := by
 subst hA
 by_cases ha : a = 0
 ·rw [h0 ha, ha, Nat.zero_mul]
 ·rw [h1 (by omega) hc]
  simp [Addr.add_lit]
theorem win_cells {B : Base} {g : G} {o : Objs} {w : World} (hw : WInv B g o w) {n e : Nat} {t : Ty} {l : List t.I} {frz : Bool} (hn : o n = some (.row e t l frz)) {a b : Nat} {v : Value} (hv : VR g (.win n a b) v) (hab : a ≤ b) (hb : b ≤ l.length) :
  ∃ news, RR g.M t ((l.take b).drop a) news ∧ (∀ w, (Builtin.lenOf v).run P w = .ok ((l.take b).drop a).length w) ∧ ∀ k, (Builtin.firstCells t.sz ((l.take b).drop a).length v).run P { w with drawn := k } = .ok news.toArray { w with drawn := k } := by
 obtain ⟨A, len, cap, z, A', hE, _, hcap, hA0, hA1, rfl⟩ := hv
 obtain ⟨v, ws, hE2, hf, ho, hr, hm⟩ := hw.objs n _ hn
 rw [hE2] at hE
 cases hE
 have hr2 := RR_win t l ws a b hr hab hb
 have hl2 : ((l.take b).drop a).length = b - a := by simp; omega
 refine ⟨_, hr2, fun w => by simp [Builtin.lenOf]; omega, fun k => ?_⟩
 have hlen := RR_length t _ _ hr2
 rcases ho.2 with ⟨he, h0⟩ | ⟨bk, cap', cur, fz, he, _⟩
 ·cases he
  have hb0 : b = 0 := by omega
  have ha0 : a = 0 := by omega
  subst hb0; subst ha0
  rw [hA0 rfl]
  simp
  exact firstCells_nil _ _ _ _ _
 ·cases he
  by_cases hc : b = a
  ·subst hc
   have hnil : (ws.take (b * t.sz)).drop (b * t.sz) = [] := List.drop_of_length_le (by simp; omega)
   have hl0 : ((l.take b).drop b).length = 0 := by rw [hl2]; omega
   rw [hnil, hl0]
   cases A' with
   | none => exact firstCells_nil _ _ _ _ _
   | some ad => exact run_firstCells_some _ _ _ _ _ _ [] (by simp) (fun j u hj => by simp at hj)
  ·rw [win_ptr rfl hA0 hA1 (by omega)]
   refine run_firstCells_some _ _ _ _ _ _ _ hlen fun j u hj => ?_
   have hj2 : ws[a * t.sz + j]? = some u := by
    rw [List.getElem?_drop, List.getElem?_take] at hj
    split at hj
    ·exact hj
    ·cases hj
   have hcell := ho.cells (g := bk) rfl _ u hj2
   rw [add_at] at hcell
   rw [Addr.add_lit]
   exact hcell
theorem elemsK_sound {R : Type} {B : Base} {g : G} {o : Objs} {w : World} (hw : WInv B g o w) (t : Ty) (y : AV) (yv : Value) (κ : List t.I → Option R) (r : R)
  (h : elemsK t y o κ = some r) (hy : VR g y yv) :
  ∃ ys news, κ ys = some r ∧ RR g.M t ys news ∧ (∀ w, (Builtin.lenOf yv).run P w = .ok ys.length w) ∧
   ∀ k, (Builtin.firstCells t.sz ys.length yv).run P { w with drawn := k } = .ok news.toArray { w with drawn := k } := by
 unfold elemsK at h
 split at h
 ·rename_i t' l
  split at h
  ·rename_i ht
   subst ht
   obtain ⟨hf, hc⟩ := hy
   obtain ⟨A, c, news, rfl, hr, hm⟩ := CR_cells t' l yv hc
   refine ⟨l, news, h, hr, fun w => by simp [Builtin.lenOf], fun k => ?_⟩
   cases A with
   | none =>
    have hl : l = [] := by
     cases l with
     | nil => rfl
     | cons x l =>
      obtain ⟨A, c', e, _, hx⟩ := hc
      obtain ⟨ad, ws, hA, _⟩ := hx 0 x rfl
      cases e
      cases hA
    subst hl
    rw [show news = [] from hr]
    exact firstCells_nil _ _ _ _ _
   | some ad =>
    refine run_firstCells_some _ _ _ ad _ c news (RR_length t' l news hr) fun j u hj => ?_
    exact (hw.mem _ _ (hm ad rfl j u hj)).1
  ·cases h
 ·rename_i n
  split at h
  ·rename_i e t' l frz hn
   split at h
   ·rename_i ht
    subst ht
    obtain ⟨z, hE, _⟩ := hy
    obtain ⟨v, ws, hE2, hf, ho, hr, hm⟩ := hw.objs n _ hn
    rw [hE2] at hE
    cases hE
    rcases ho.2 with ⟨rfl, h0⟩ | ⟨b, cap, cur, fz, rfl, _⟩
    ·have hl : l = [] := List.eq_nil_of_length_eq_zero h0
     subst hl
     refine ⟨[], ws, h, hr, fun w => by simp [Builtin.lenOf], fun k => ?_⟩
     rw [show ws = [] from hr]
     exact firstCells_nil _ _ _ _ _
    ·refine ⟨l, ws, h, hr, fun w => by simp [Builtin.lenOf], fun k => ?_⟩
     exact run_firstCells_some _ _ _ _ _ cap ws (RR_length t' l ws hr) fun j u hj => ho.cells rfl j u hj
   ·cases h
  ·cases h
 ·rename_i n a b
  split at h
  ·rename_i e t' l frz hn
   split at h
   ·rename_i ht
    subst ht
    split at h
    case isFalse => cases h
    rename_i hab
    obtain ⟨news, h1, h2, h3⟩ := win_cells (P := P) hw hn hy hab.1 hab.2
    exact ⟨_, news, h, h1, h2, h3⟩
   ·cases h
  ·cases h
 ·rw [show yv = _ from hy]
  exact ⟨[], [], h, rfl, fun w => by simp [Builtin.lenOf], fun k => firstCells_nil _ _ _ _ _⟩
 ·rename_i s
  split at h
  ·rename_i ht
   subst ht
   rw [show yv = _ from hy]
   refine ⟨bytesOf s, s.data.toList.map fun b => .int .u8 b.toNat, h, RR_bytes _, fun w => by simp [Builtin.lenOf, bytesOf], fun k => ?_⟩
   have := Lib.run_firstCells_string (P := P) { w with drawn := k } (Ty.int .u8).sz s
   simpa [bytesOf, Lib.strCells] using this
  ·cases h
 ·cases h
theorem appendK_sound {R : Type} {Θ : Nat → TD} (hΘ : TOk P Θ) {B : Base} {g : G} {o : Objs} {w : World} (hw : WInv B g o w) {t0 t1 e : Nat} {t : Ty} (het : elemTy Θ t0 = some (e, t)) (d1 : TypeDesc) (hu1 : P.underlying t1 = some d1) (hd1 : d1 = .string ∨ ∃ e', d1 = .slice e')
  (dst : Nat) (x y : AV) (xv yv : Value) (ty : TypeId) (κ : AV → Objs → Option R) (r : R) (h : appendK Θ e t dst x y o κ = some r) (hx : VR g x xv) (hy : VR g y yv) :
  ∃ av o' v' w' g', κ av o' = some r ∧ (Builtin.append_ #[t0, t1] ty #[xv, yv]).run P w = .ok v' w' ∧ WInv B g' o' w' ∧ GE g g' ∧ VR g' av v' := by
 obtain ⟨i, z, hu, hi, hz, hzs, hsz, hf, hnb, hb0, hs0, _, hzero⟩ := elemTy_ok hΘ het
 unfold appendK at h
 obtain ⟨ys, news, hk, hr, hlen, hcells⟩ := elemsK_sound (P := P) hw t y yv _ r h hy
 have hnl := RR_length t ys news hr
 have hn1 := RR_one t ys news hr
 split at hk
 ·split at hk
  case isFalse => cases hk
  rename_i hlim
  unfold newK at hk
  split at hk
  case h_2 => cases hk
  rename_i hfree
  rw [show xv = _ from hx]
  have hbytes : ys.length * i.bytes ≤ 1099511627776 := by rw [← hnb]; exact hlim
  have hle : ys.length ≤ ys.length * i.bytes := Nat.le_mul_of_pos_right _ hb0
  obtain ⟨v', w', hrun, hown, hone, hcase⟩ := run_app w t0 t1 ty e i z d1 hu hi hz hzs hu1 hd1 hs0 (.slice none 0 0) 0 [] (World.ownsR_nil w 0 e i.size) yv ys.length news (by rw [hsz]; exact hnl) hlen (by rw [hsz]; exact hcells) hn1
   (by simp only [maxLen]; omega) (by simp only [Nat.zero_add]; omega)
  have hcase' : w.grownBy w' none ∧ (v' = .slice none 0 0 ∨ v'.ownBlock = some w.heap.size) := by
   rcases hcase with hc | ⟨b, hb, _⟩
   ·exact hc
   ·simp [Value.ownBlock] at hb
  rw [Nat.zero_add, List.nil_append, hsz] at hown
  refine ⟨_, _, v', w', _, hk, hrun, new_row hw hfree e t ys news v' false hf hr hown hcase'.1 hcase'.2, setE_ge hw hfree _, ⟨t.sz, setE_at g _ _, hone⟩⟩
 ·rename_i n
  split at hk
  case h_2 => cases hk
  rename_i e' t' l frz hn
  split at hk
  case isFalse => cases hk
  rename_i ht
  subst ht
  split at hk
  case isFalse => cases hk
  rename_i he
  subst he
  split at hk
  case isFalse => cases hk
  rename_i hlim
  unfold newK at hk
  split at hk
  case h_2 => cases hk
  rename_i hfree
  obtain ⟨zz, hE, _⟩ := hx
  obtain ⟨v, ws, hE2, _, ho, hrl, hm⟩ := hw.objs n _ hn
  rw [hE2] at hE
  cases hE
  have hbytes : (l.length + ys.length) * i.bytes ≤ 1099511627776 := by rw [← hnb]; exact hlim
  have hle : l.length + ys.length ≤ (l.length + ys.length) * i.bytes := Nat.le_mul_of_pos_right _ hb0
  obtain ⟨v', w', hrun, hown, hone, hcase⟩ := run_app w t0 t1 ty e' i z d1 hu hi hz hzs hu1 hd1 hs0 xv l.length ws (by rw [hsz]; exact ho) yv ys.length news (by rw [hsz]; exact hnl) hlen (by rw [hsz]; exact hcells) hn1
   (by simp only [maxLen]; omega) (by omega)
  rw [hsz] at hown
  have hne : nm dst 0 ≠ n := by
   intro e
   rw [e] at hfree
   simp [upd] at hfree
  have hfree' : o (nm dst 0) = none := by simpa [upd, hne] using hfree
  have hw1 := gone_put hw hn
  have hrr := RR_append t' l ws ys news hrl hr
  have hllen : (l ++ ys).length = l.length + ys.length := List.length_append
  rcases hcase with ⟨hgr, hfresh⟩ | ⟨b, hvb, hvb', hgr⟩
  ·refine ⟨_, _, v', w', _, hk, hrun, new_row hw1 hfree e' t' (l ++ ys) (ws ++ news) v' frz hf hrr (by rw [hllen]; exact hown) hgr hfresh, setE_ge hw hfree' _, ⟨t'.sz, setE_at g _ _, hone⟩⟩
  ·have hbk : blkOf g n = some b := by simp only [blkOf, hE2, Option.bind_some]; rw [ownBlock_base ho]; exact hvb
   refine ⟨_, _, v', w', setE g (nm dst 0) (v', t'.sz), hk, hrun, ?_, setE_ge hw hfree' _, ⟨t'.sz, setE_at g _ _, hone⟩⟩
   have hother : ∀ m x bm, o m = some x → m ≠ n → live x = true → blkOf g m = some bm → bm ≠ b := by
    intro m x bm hm hmn hl hbm e
    exact hw.apart m n x _ hmn hm hn hl rfl bm hbm (by rw [hbk, e])
   refine hw1.put2 (nm dst 0) _ (setE_ge hw1 hfree _) (fun m hm => setE_ne g _ hm) rfl ⟨v', ws ++ news, setE_at g _ _, hf, by rw [hllen]; exact hown, hrr, ?_⟩ ⟨hgr.os, hgr.tape, hgr.output, hgr.size⟩ ?_ ?_ ?_ ?_
   ·intro a ha hc
    refine hm a (by rw [hvb]; rw [hvb'] at ha; exact ha) ?_
    rcases hc with h | h | h
    ·exact .inl h
    ·rw [hllen, Nat.add_mul] at h; exact .inr (.inl (by omega))
    ·exact .inr (.inr h)
   ·intro m x bm hm hmo hl hbm
    unfold upd at hmo
    split at hmo
    ·cases hmo; cases hl
    ·rename_i hmn
     exact hgr.block bm (OR_blk (hw.objs m x hmo) hl bm hbm) (by simp; exact hother m x bm hmo hmn hl hbm)
   ·intro a u ha
    obtain ⟨hc, _⟩ := hw.mem a u ha
    by_cases hab : a.block = b
    ·have hsp := World.cell?_spot hc
     have hlt : a.off < ws.length := by
      rcases Nat.lt_or_ge a.off ws.length with h | h
      ·exact h
      ·rw [RR_length t' l ws hrl] at h
       rw [hm a (by rw [hvb, hab]) (.inr (.inl h))] at ha
       cases ha
     have e1 := ho.cells hvb a.off _ (List.getElem?_eq_getElem hlt)
     have e2 := hown.cells hvb' a.off ws[a.off] (by rw [List.getElem?_append_left hlt, List.getElem?_eq_getElem hlt])
     rw [add_at] at e1 e2
     have ea : a = ⟨b, a.off, none⟩ := by cases a; simp at hsp hab; subst hsp; subst hab; rfl
     rw [ea] at hc ⊢
     rw [e2, ← e1]
     exact hc
    ·rw [World.cell?_of_block (hgr.block a.block (World.block_lt_of_cell? w a hc) (by simp; exact hab))]
     exact hc
   ·intro c hc hX
    refine hgr.block c (Nat.lt_of_lt_of_le hc hw.ext.size) ?_
    simp
    intro e
    subst e
    rcases hw.mine n _ _ hn rfl hbk with h | h
    ·exact hX h
    ·omega
   ·intro c hl hbc
    have hcb : c = b := by
     have : (baseOf v').map (·.block) = some c := by simpa [blkOf, setE_at] using hbc
     rw [ownBlock_base hown, hvb'] at this
     simpa using this.symm
    subst hcb
    refine ⟨fun m x hm hmo hl hbm => ?_, hw.mine n _ _ hn rfl hbk⟩
    unfold upd at hmo
    split at hmo
    ·cases hmo; cases hl
    ·rename_i hmn
     exact hother m x _ hmo hmn hl hbm rfl
 ·rename_i n a b
  split at hk
  case h_2 => cases hk
  rename_i e' t' l frz hn
  split at hk
  case isFalse => cases hk
  rename_i ht
  subst ht
  split at hk
  case isFalse => cases hk
  rename_i hc
  obtain ⟨rfl, rfl, rfl⟩ := hc
  split at hk
  case isFalse => cases hk
  rename_i hle
  obtain ⟨A, len, cap, zz, A', hE, _, hbc, hA0, hA1, rfl⟩ := hx
  obtain ⟨v, ws, hE2, _, ho, hrl, hm⟩ := hw.objs n _ hn
  rw [hE2] at hE
  cases hE
  rw [hA0 rfl]
  have hy0 : (Builtin.firstCells i.size ys.length yv).run P w = .ok news.toArray w := by rw [hsz]; exact hcells w.drawn
  rcases ho.2 with ⟨he2, h0⟩ | ⟨bk, cap', cur0, fz0, he2, _⟩
  ·cases he2
   have hl0 : l = [] := List.eq_nil_of_length_eq_zero h0
   have hb0 : b = 0 := by omega
   have hys : ys = [] := List.eq_nil_of_length_eq_zero (by omega)
   subst hl0
   subst hb0; subst hys
   have hnn : news = [] := hr
   subst hnn
   have hid : upd o n (.row e' t' (([] : List t'.I).take 0 ++ [] ++ ([] : List t'.I).drop (0 + ([] : List t'.I).length)) false) = o := by
    funext m
    unfold upd
    split
    ·rename_i e; subst e; rw [hn]; simp
    ·rfl
   rw [hid] at hk
   refine ⟨_, _, .slice none 0 0, w, g, hk, ?_, hw, GE.refl g, ⟨none, 0, 0, t'.sz, none, hE2, Nat.le_refl _, Nat.le_refl _, fun _ => rfl, fun h => absurd h (Nat.lt_irrefl _), rfl⟩⟩
   simp only [List.length_nil] at hy0 hlen
   rcases hd1 with rfl | ⟨e'', rfl⟩ <;> simp [Builtin.append_, run_underlying hu, run_underlying hu1, sizeOf, typeInfo, hi, hlen, hy0]
  ·cases he2
   obtain ⟨cur, fz, _, hnc, hcm, hh, hfz, hcs, hwi⟩ := row_over hw hn hE2 b ys news hr hle
   have hmul : (b + ys.length) * t'.sz ≤ cap * t'.sz := Nat.mul_le_mul_right _ (by omega)
   rw [Nat.add_mul] at hmul
   have hst := run_storeCells_fz (P := P) bk (b * i.size) e' fz news 0 cur w hh hfz (by rw [hsz]; omega) hn1
   simp only [Nat.add_zero] at hst
   have hroom : b + ys.length ≤ cap := by omega
   refine ⟨_, _, .slice (some ⟨bk, 0, none⟩) (b + ys.length) cap, w.setRow bk (cur.toList.take (b * i.size) ++ news ++ cur.toList.drop (b * i.size + news.length)).toArray, g, hk, ?_, by rw [hsz]; exact hwi, GE.refl g, ⟨some ⟨bk, 0, none⟩, l.length, cap, t'.sz, some ⟨bk, 0, none⟩, hE2, Nat.zero_le _, hroom, fun _ => rfl, fun h => absurd h (Nat.lt_irrefl _), rfl⟩⟩
   rcases hd1 with rfl | ⟨e'', rfl⟩ <;> simp [Builtin.append_, run_underlying hu, run_underlying hu1, sizeOf, typeInfo, hi, hlen, hy0, hroom, Addr.add_lit, hst]
 ·cases hk
theorem copyK_sound {R : Type} {Θ : Nat → TD} (hΘ : TOk P Θ) {B : Base} {g : G} {o : Objs} {w : World} (hw : WInv B g o w) {t0 t1 e : Nat} {t : Ty} (het : elemTy Θ t0 = some (e, t))
  (x y : AV) (xv yv : Value) (ty : TypeId) (κ : AV → Objs → Option R) (r : R) (h : copyK t x y o κ = some r) (hx : VR g x xv) (hy : VR g y yv) :
  ∃ av o' v' w' g', κ av o' = some r ∧ (Builtin.copy_ #[t0, t1] ty #[xv, yv]).run P w = .ok v' w' ∧ WInv B g' o' w' ∧ GE g g' ∧ VR g' av v' := by
 obtain ⟨i, z, hu, hi, hz, hzs, hsz, hf, hnb, hb0, hs0, _, hzero⟩ := elemTy_ok hΘ het
 unfold copyK at h
 obtain ⟨ys, news, hk, hr, hlen, hcells⟩ := elemsK_sound (P := P) hw t y yv _ r h hy
 have hnl := RR_length t ys news hr
 have hn1 := RR_one t ys news hr
 have hc0 : (Builtin.firstCells t.sz ys.length yv).run P w = .ok news.toArray w := hcells w.drawn
 have hsize : (sizeOf e).run P w = .ok t.sz w := by simp [sizeOf, typeInfo, hi, hsz]
 have nothing : ys.length = 0 → ∀ (b : Option Addr) (n c : Nat), (Builtin.copy_ #[t0, t1] ty #[.slice b n c, yv]).run P w = .ok (goInt ys.length) w := by
  intro h0 b n c
  have hnn : news = [] := List.eq_nil_of_length_eq_zero (by rw [hnl, h0, Nat.zero_mul])
  rw [hnn, h0] at hc0
  have h1 := hlen w
  rw [h0] at h1
  cases b <;> simp [Builtin.copy_, run_underlying hu, h1, hsize, hc0, storeCells, h0]
 unfold copK at hk
 split at hk
 ·rename_i n
  split at hk
  case h_2 => cases hk
  rename_i e' t' l frz hn
  split at hk
  case isFalse => cases hk
  rename_i ht
  subst ht
  split at hk
  case isFalse => cases hk
  rename_i hc
  obtain ⟨rfl, hle⟩ := hc
  obtain ⟨zz, hE, _⟩ := hx
  obtain ⟨v, ws, hE2, _, ho, hrl, hm⟩ := hw.objs n _ hn
  rw [hE2] at hE
  cases hE
  have hlen2 := RR_length t' l ws hrl
  have hl' : (ys ++ l.drop ys.length).length = l.length := by simp; omega
  have hrr := RR_append t' ys news (l.drop ys.length) (ws.drop (ys.length * t'.sz)) hr (RR_drop t' l ws ys.length hrl hle)
  rcases ho.2 with ⟨rfl, h0⟩ | ⟨b, cap, cur, fz, rfl, _, hh, hfz, hnc, hcm, hcs, htk⟩
  ·have hy0 : ys = [] := List.eq_nil_of_length_eq_zero (by omega)
   refine ⟨_, _, goInt ys.length, w, g, hk, nothing (by rw [hy0]; rfl) _ _ _, ?_, GE.refl g, rfl⟩
   subst hy0
   have hid : upd o n (.row e' t' ([] ++ l.drop ([] : List t'.I).length) false) = o := by
    funext m
    unfold upd
    split
    ·rename_i e; subst e; rw [hn]; simp
    ·rfl
   rw [hid]
   exact hw
  ·have hws : ws.length ≤ cur.size := by rw [hlen2, hcs]; exact Nat.mul_le_mul_right _ hnc
   have hmul : ys.length * t'.sz ≤ l.length * t'.sz := Nat.mul_le_mul_right _ hle
   have hst := run_storeCells_fz (P := P) b 0 e' fz news 0 cur w hh hfz (by omega) hn1
   have hmin : Nat.min ys.length l.length = ys.length := Nat.min_eq_left hle
   have h1 := hlen w
   refine ⟨_, _, goInt ys.length, w.setRow b (cur.toList.take (0 + 0) ++ news ++ cur.toList.drop (0 + 0 + news.length)).toArray, g, hk, ?_, ?_, GE.refl g, rfl⟩
   ·simp [Builtin.copy_, run_underlying hu, h1, hmin, hsize, hc0, hst]
   ·have hb : blkOf g n = some b := by simp [blkOf, hE2, baseOf]
    have hnew := setRow_heap w b cur (cur.toList.take (0 + 0) ++ news ++ cur.toList.drop (0 + 0 + news.length)).toArray e' fz hh
    refine hw.put n _ (GE.refl g) (fun _ _ => rfl) ?_ (setRow_same w b _) ?_ rfl ?_ ?_
    ·refine ⟨.slice (some ⟨b, 0, none⟩) l.length cap, _, hE2, hf, ?_, hrr, ?_⟩
     ·rw [hl']
      refine ⟨by simp; omega, .inr ⟨b, cap, _, fz, rfl, Nat.zero_le _, hnew, by rw [show (cur.toList.take (0 + 0) ++ news ++ cur.toList.drop (0 + 0 + news.length)).toArray.size = cur.size from by simp; omega]; exact hfz, hnc, hcm, ?_, ?_⟩⟩
      ·simp; omega
      ·obtain ⟨tl, hct⟩ : ∃ tl, cur.toList = ws ++ tl := ⟨cur.toList.drop (l.length * t'.sz), by rw [← htk, List.take_append_drop]⟩
       have hc2 : cur.toList.take (0 + 0) ++ news ++ cur.toList.drop (0 + 0 + news.length) = (news ++ ws.drop (ys.length * t'.sz)) ++ tl := by
        rw [hct, Nat.add_zero, List.take_zero, List.nil_append, Nat.zero_add, hnl, List.drop_append_of_le_length (by omega), List.append_assoc]
       simp only [hc2]
       rw [List.take_left' (by simp; omega)]
     ·intro a ha hc
      rw [hl'] at hc
      exact hm a ha (.inl rfl)
    ·intro k hk hx
     exact setRow_other w b k _ (fun e => hx _ hn rfl (by rw [hb, e]))
    ·rintro k a v ⟨x, _, _, hk⟩ hab ha
     rw [hb] at hk
     cases hk
     rw [hm a (by simp [Value.ownBlock, hab]) (.inl rfl)] at ha
     cases ha
    ·intro k _ hk
     exact .inr ⟨_, hn, rfl, hk⟩
 ·rename_i n a b
  split at hk
  case h_2 => cases hk
  rename_i e' t' l frz hn
  split at hk
  case isFalse => cases hk
  rename_i ht
  subst ht
  split at hk
  case isFalse => cases hk
  rename_i hf0
  subst hf0
  split at hk
  case isFalse => cases hk
  rename_i hc
  obtain ⟨hle, hbl⟩ := hc
  obtain ⟨A, len, cap, zz, A', hE, hab, hbc, hA0, hA1, rfl⟩ := hx
  obtain ⟨v, ws, hE2, _, ho, hrl, hm⟩ := hw.objs n _ hn
  rw [hE2] at hE
  cases hE
  by_cases hy : ys.length = 0
  ·have hy0 : ys = [] := List.eq_nil_of_length_eq_zero hy
   refine ⟨_, _, goInt ys.length, w, g, hk, nothing hy _ _ _, ?_, GE.refl g, rfl⟩
   subst hy0
   have hid : upd o n (.row e' t' (l.take a ++ [] ++ l.drop (a + ([] : List t'.I).length)) false) = o := by
    funext m
    unfold upd
    split
    ·rename_i e; subst e; rw [hn]; simp
    ·rfl
   rw [hid]
   exact hw
  ·rcases ho.2 with ⟨he2, h0⟩ | ⟨bk, cap', cur0, fz0, he2, _⟩
   ·cases he2
    omega
   ·cases he2
    obtain ⟨cur, fz, _, hnc, hcm, hh, hfz, hcs, hwi⟩ := row_over hw hn hE2 a ys news hr (by omega)
    have hmul : (a + ys.length) * t'.sz ≤ cap * t'.sz := Nat.mul_le_mul_right _ (by omega)
    rw [Nat.add_mul] at hmul
    have hst := run_storeCells_fz (P := P) bk (a * t'.sz) e' fz news 0 cur w hh hfz (by omega) hn1
    simp only [Nat.add_zero] at hst
    have h1 := hlen w
    have hmin : Nat.min ys.length (b - a) = ys.length := Nat.min_eq_left (by omega)
    rw [win_ptr rfl hA0 hA1 (by omega)]
    refine ⟨_, _, goInt ys.length, w.setRow bk (cur.toList.take (a * t'.sz) ++ news ++ cur.toList.drop (a * t'.sz + news.length)).toArray, g, hk, ?_, hwi, GE.refl g, rfl⟩
    simp [Builtin.copy_, run_underlying hu, h1, hmin, hsize, hc0, hst]
 ·split at hk
  case isFalse => cases hk
  rename_i h0
  rw [show xv = _ from hx]
  exact ⟨_, _, goInt ys.length, w, g, hk, nothing h0 _ _ _, hw, GE.refl g, rfl⟩
 ·cases hk
theorem zeroCells_flat (z : Array Value) (n : Nat) : (Builtin.zeroCells z n).toList = (List.replicate n z.toList).flatten := by
 induction n with
 | zero => simp [Builtin.zeroCells]
 | succ n ih =>
  have e : (Builtin.zeroCells z (n + 1)).toList = (Builtin.zeroCells z n).toList ++ z.toList := by
   unfold Builtin.zeroCells
   rw [Nat.add_mul, Nat.one_mul]
   apply List.ext_getElem
   ·simp
   ·intro i h1 h2
    simp at h1
    rw [List.getElem_append]
    split
    ·rename_i h3
     simp at h3
     simp
    ·rename_i h3
     simp at h3
     have hz : z.size ≠ 0 := by intro h0; rw [h0] at h1; omega
     have hlt : i - n * z.size < z.size := by omega
     have hmod : i % z.size = i - n * z.size := by
      conv => lhs; rw [show i = (i - n * z.size) + n * z.size from by omega]
      rw [Nat.add_mul_mod_self_right, Nat.mod_eq_of_lt hlt]
     simp [hmod]
     rw [getElem!_pos z (i - n * z.size) hlt]
  rw [e, ih, List.replicate_succ']
  simp
theorem RR_zeros {M : Mem} (t : Ty) (cs : List Value) (h : CR M t (zeroI t) cs) : ∀ n : Nat, RR M t (List.replicate n (zeroI t)) (List.replicate n cs).flatten
 | 0 => rfl
 | n + 1 => ⟨cs, _, by simp [List.replicate_succ], h, RR_zeros t cs h n⟩
theorem clearK_sound {R : Type} {Θ : Nat → TD} (hΘ : TOk P Θ) {B : Base} {g : G} {o : Objs} {w : World} (hw : WInv B g o w) {t0 e : Nat} {t : Ty} (het : elemTy Θ t0 = some (e, t))
  (x : AV) (xv : Value) (ty : TypeId) (κ : AV → Objs → Option R) (r : R) (h : clearK t x o κ = some r) (hx : VR g x xv) :
  ∃ av o' v' w' g', κ av o' = some r ∧ (Builtin.clear_ #[t0] ty #[xv]).run P w = .ok v' w' ∧ WInv B g' o' w' ∧ GE g g' ∧ VR g' av v' := by
 obtain ⟨i, z, hu, hi, hz, hzs, hsz, hf, hnb, hb0, hs0, _, hzero⟩ := elemTy_ok hΘ het
 unfold clearK at h
 split at h
 case h_2 => cases h
 rename_i n a b
 split at h
 case h_2 => cases h
 rename_i e' t' l frz hn
 split at h
 case isFalse => cases h
 rename_i ht
 subst ht
 split at h
 case isFalse => cases h
 rename_i hf0
 subst hf0
 split at h
 case isFalse => cases h
 rename_i hc
 obtain ⟨hab, hbl⟩ := hc
 obtain ⟨A, len, cap, zz, A', hE, _, hbc, hA0, hA1, rfl⟩ := hx
 obtain ⟨v, ws, hE2, _, ho, hrl, hm⟩ := hw.objs n _ hn
 rw [hE2] at hE
 cases hE
 have hzr := RR_zeros t' z.cells.toList (hzero g.M) (b - a)
 have hzl : (List.replicate (b - a) (zeroI t')).length = b - a := by simp
 have htup : VR g (.tup []) (.tuple #[]) := ⟨[], rfl, trivial⟩
 by_cases hy : b = a
 ·subst hy
  have hid : upd o n (.row e' t' (l.take b ++ List.replicate (b - b) (zeroI t') ++ l.drop b) false) = o := by
   funext m
   unfold upd
   split
   ·rename_i e; subst e; rw [hn]; simp
   ·rfl
  rw [hid] at h
  refine ⟨_, _, .tuple #[], w, g, h, ?_, hw, GE.refl g, htup⟩
  cases A' <;> simp [Builtin.clear_, run_underlying hu]
 ·rcases ho.2 with ⟨he2, h0⟩ | ⟨bk, cap', cur0, fz0, he2, _⟩
  ·cases he2
   omega
  ·cases he2
   have hn1 := RR_one t' _ _ hzr
   have hnl := RR_length t' _ _ hzr
   obtain ⟨cur, fz, _, hnc, hcm, hh, hfz, hcs, hwi⟩ := row_over hw hn hE2 a (List.replicate (b - a) (zeroI t')) _ hzr (by rw [hzl]; omega)
   rw [hzl, show a + (b - a) = b from by omega] at hwi
   have hmul : b * t'.sz ≤ cap * t'.sz := Nat.mul_le_mul_right _ (by omega)
   have hsub : a * t'.sz + (b - a) * t'.sz = b * t'.sz := by rw [← Nat.add_mul]; congr 1; omega
   rw [hzl] at hnl
   have hst := run_storeCells_fz (P := P) bk (a * t'.sz) e' fz _ 0 cur w hh hfz (by rw [hnl]; omega) hn1
   simp only [Nat.add_zero] at hst
   rw [win_ptr rfl hA0 hA1 (by omega)]
   obtain ⟨m, hm'⟩ : ∃ m, b - a = m + 1 := ⟨b - a - 1, by omega⟩
   have hzc : (Builtin.zeroCells z.cells (b - a)).toList = (List.replicate (b - a) z.cells.toList).flatten := zeroCells_flat z.cells (b - a)
   refine ⟨_, _, .tuple #[], _, g, h, ?_, hwi, GE.refl g, htup⟩
   rw [hm'] at hzc hst ⊢
   simp [Builtin.clear_, run_underlying hu, zeroValue, typeInfo, hi, hz, hzc, hst]
end Go.Den
set_option linter.unusedVariables false
set_option linter.unusedSimpArgs false
namespace Go.Den
variable {P : Program}
def SOk (P : Program) (B : Base) (g : G) (w : World) {R : Type} (κ : AV → Objs → Option R) (r : R) (s : Sem Value) : Prop :=
 ∃ av o' v' w' g', κ av o' = some r ∧ s.run P w = .ok v' w' ∧ WInv B g' o' w' ∧ GE g g' ∧ VR g' av v'
theorem SOk.quiet {B : Base} {g : G} {o : Objs} {w : World} {R : Type} {κ : AV → Objs → Option R} {r : R} {s : Sem Value} (hw : WInv B g o w) (av : AV) (v : Value) (h : κ av o = some r) (hr : s.run P w = .ok v w) (hv : VR g av v) : SOk P B g w κ r s :=
 ⟨av, o, v, w, g, h, hr, hw, GE.refl g, hv⟩
theorem constV_VR (g : G) (v : Value) : VR g (constV v) v := by
 unfold constV
 split
 case h_2 =>
  split
  ·exact congrArg _ (veil_eq _).symm
  ·rfl
 all_goals first | rfl | trivial
theorem zeroAV_VR (g : G) (v : Value) : VR g (zeroAV v) v := by
 unfold zeroAV
 split
 ·rfl
 ·exact constV_VR g v
theorem zeros_VRL (g : G) : ∀ vs : List Value, VRL g (vs.map zeroAV) vs
 | [] => trivial
 | v :: vs => ⟨zeroAV_VR g v, zeros_VRL g vs⟩
theorem getS_VR {g : G} {s : List AV} {tmps : Array Value} (h : VRL g s tmps.toList) (t : Nat) : VR g (getS s t) (tmps.getD t undef) := by
 unfold getS
 cases hs : s[t]? with
 | none => simp [List.getD, hs]; trivial
 | some a =>
  obtain ⟨v, hv, hr⟩ := VRL_get h t a hs
  have : tmps[t]? = some v := by simpa using hv
  simp [List.getD, hs, Array.getD_eq_getD_getElem?, this]
  exact hr
theorem rho_VR {g : G} {s : List AV} {a : Act} (h : VRL g s a.tmps.toList) (x : Operand) : VR g (rho s x) (a.eval x) := by
 cases x with
 | tmp t => exact getS_VR h t
 | const v => exact constV_VR g v
 | global n => rfl
 | func f => exact ⟨[], [], rfl, trivial, trivial⟩
theorem rhos_VRL {g : G} {s : List AV} {a : Act} (h : VRL g s a.tmps.toList) : ∀ xs : List Operand, VRL g (xs.map (rho s)) (xs.map a.eval)
 | [] => trivial
 | x :: xs => ⟨rho_VR h x, rhos_VRL h xs⟩
theorem run_newVar (w : World) (t : TypeId) (v : Value) : (newVar t v).run P w = .ok ⟨w.heap.size, 0, none⟩ (w.alloc (.cells v.cells t)) := by
 simp [newVar, newRow]
theorem alloc_sound {R : Type} {Θ : Nat → TD} (hΘ : TOk P Θ) {B : Base} {g : G} {o : Objs} {w : World} (hw : WInv B g o w) (t : Nat) (N : Nat) (κ : AV → Objs → Option R) (r : R)
  (hok : okK (Θ t).k = true) (h : newK o N (.box (Θ t).zero) (fun o => κ (.ptr N 0) o) = some r) : SOk P B g w κ r (Instr.alloc t true (.tuple #[])) := by
 obtain ⟨i, d, z, hi, hu, hk, hs, hn, hz, hzz, hzs, hz1, hty⟩ := (hΘ.ok hok).row
 unfold newK at h
 split at h
 case h_2 => cases h
 rename_i hfree
 refine ⟨_, _, .pointer (some ⟨w.heap.size, 0, none⟩), _, _, h, ?_, new_box hw hfree _ z.cells.toList t (by rw [hzz]; exact zeros_VRL g _) hz1, setE_ge hw hfree _, ⟨_, _, setE_at g _ _, rfl⟩⟩
 simp [Instr.alloc, run_zeroD hi hz, run_newVar]
theorem new_bld {B : Base} {g : G} {o : Objs} {w : World} (h : WInv B g o w) {n : Nat} (hn : o n = none) (T : Nat) (c : AV) (v : Value) (hc : VR g c v) (h1 : v.oneCell' = true) :
  WInv B (setE g n (.pointer (some ⟨w.heap.size, 0, none⟩), 1)) (upd o n (.bld T c)) (w.alloc (.cells #[.pointer none, v] T)) := by
 refine new_put h hn _ _ ⟨w.heap.size, .pointer none, v, setE_at g n _, heap_alloc_new w _, .inl rfl, VR_mono (setE_ge h hn _) c v hc, h1, fun a ha => M_new h a (by omega)⟩ (grown_alloc w _ _) ?_
 intro b hb
 simp [baseOf] at hb
 omega
theorem isBZ_eq {l : List AV} (h : isBZ l = true) : l = [.pnil, .nilsl] := by
 unfold isBZ at h
 split at h
 ·rfl
 ·cases h
theorem allocBld_sound {R : Type} {Θ : Nat → TD} (hΘ : TOk P Θ) {B : Base} {g : G} {o : Objs} {w : World} (hw : WInv B g o w) (t : Nat) (dst : Nat) (κ : AV → Objs → Option R) (r : R)
  (h : bldK Θ t dst o κ = some r) : SOk P B g w κ r (Instr.alloc t true (.tuple #[])) := by
 unfold bldK at h
 split at h
 case h_2 => cases h
 rename_i e te hb
 split at h
 case isFalse => cases h
 rename_i hc
 obtain ⟨hf, hbz⟩ := hc
 have hko : (Θ t).k ≠ .other := by
  intro e'
  unfold bldT at hb
  rw [e'] at hb
  cases hb
 obtain ⟨i, d, z, hi, hu, hk, hs, hn, hz, hzz, hzs, hz1, hty⟩ := (hΘ.get t hko).row
 unfold newK at h
 split at h
 case h_2 => cases h
 rename_i hfree
 dsimp only at h
 split at h
 case h_2 => cases h
 rename_i hfree2
 have hw1 := new_row (w' := w) hw hfree e te [] [] (.slice none 0 0) false hf rfl (World.ownsR_nil w 0 e te.sz) ⟨rfl, rfl, rfl, Nat.le_refl _, fun _ _ _ => rfl⟩ (.inl rfl)
 have hg1 := setE_ge hw hfree (Value.slice none 0 0, te.sz)
 have hzc : z.cells = #[.pointer none, .slice none 0 0] := by
  have hv : VRL g [AV.pnil, AV.nilsl] z.cells.toList := by
   have := zeros_VRL g z.cells.toList
   rw [← hzz, isBZ_eq hbz] at this
   exact this
  have e2 : z.cells.toList = [.pointer none, .slice none 0 0] := by
   revert hv
   cases z.cells.toList with
   | nil => intro h; exact h.elim
   | cons a l =>
    cases l with
    | nil => rintro ⟨_, h⟩; exact h.elim
    | cons b l =>
     cases l with
     | nil => rintro ⟨h1, h2, _⟩; rw [show a = _ from h1, show b = _ from h2]
     | cons _ _ => rintro ⟨_, _, h⟩; exact h.elim
  apply Array.ext'
  rw [e2]
 have hw2 := new_bld hw1 hfree2 t (.row (nm dst 1)) (.slice none 0 0) ⟨te.sz, setE_at _ _ _, rfl⟩ rfl
 refine ⟨_, _, .pointer (some ⟨w.heap.size, 0, none⟩), _, _, h, ?_, hw2, hg1.trans (setE_ge hw1 hfree2 _), ⟨_, _, setE_at _ _ _, rfl⟩⟩
 simp [Instr.alloc, run_zeroD hi hz, run_newVar, hzc]
theorem allocArr_sound {R : Type} {Θ : Nat → TD} (hΘ : TOk P Θ) {B : Base} {g : G} {o : Objs} {w : World} (hw : WInv B g o w) (t : Nat) (N : Nat) (κ : AV → Objs → Option R) (r : R)
  (h : arrK Θ t (fun n te => newK o N (.arr n te (List.replicate n (zeroI te))) (fun o => κ (.ptr N 0) o)) = some r) : SOk P B g w κ r (Instr.alloc t true (.tuple #[])) := by
 unfold arrK at h
 split at h
 case h_2 => cases h
 rename_i n e hk
 split at h
 case h_2 => cases h
 rename_i te hte
 split at h
 case isFalse => cases h
 have hrow := hΘ.get t (by rw [hk]; simp)
 obtain ⟨i, d, z, hi, hu, hk2, hs, hn, hz, hzz, hzs, hz1, hty⟩ := hrow.row
 have hd : d = .array n e := by rw [hk] at hk2; cases d <;> simp [kOf] at hk2; obtain ⟨rfl, rfl⟩ := hk2; rfl
 subst hd
 have hte2 : tyOf P 40 e = some te := by rw [← (hΘ.ty hte).tyEq]; exact hte
 obtain ⟨hf, hrr⟩ := hrow.arr n e te i z hu hte2 hi hz
 unfold newK at h
 split at h
 case h_2 => cases h
 rename_i hfree
 refine ⟨_, _, .pointer (some ⟨w.heap.size, 0, none⟩), _, _, h, ?_, new_arr hw hfree te _ z.cells.toList t hf (by simp) (hrr g.M), setE_ge hw hfree _, ⟨_, _, setE_at g _ _, rfl⟩⟩
 simp [Instr.alloc, run_zeroD hi hz, run_newVar]
theorem box_sound {R : Type} {B : Base} {g : G} {o : Objs} {w : World} (hw : WInv B g o w) (t : Nat) (a : AV) (v : Value) (N : Nat) (κ : AV → Objs → Option R) (r : R) (ha : VR g a v)
  (hl : (cellsOf a).all leaf1 = true) (h : newK o N (.box (cellsOf a)) (fun o => κ (.ptr N 0) o) = some r) : SOk P B g w κ r (Instr.box t v) := by
 obtain ⟨hv, h1⟩ := cellsOf_sound ha hl
 unfold newK at h
 split at h
 case h_2 => cases h
 rename_i hfree
 refine ⟨_, _, .pointer (some ⟨w.heap.size, 0, none⟩), _, _, h, ?_, new_box hw hfree _ v.cells.toList t hv h1, setE_ge hw hfree _, ⟨_, _, setE_at g _ _, rfl⟩⟩
 simp [Instr.box, run_newVar]
theorem boxArr_sound {R : Type} {B : Base} {g : G} {o : Objs} {w : World} (hw : WInv B g o w) (t : Nat) (n : Nat) (ty : Ty) (l : List ty.I) (v : Value) (N : Nat) (κ : AV → Objs → Option R) (r : R) (ha : VR g (.d (.arr n ty) l) v)
  (h : newK o N (.arr n ty l) (fun o => κ (.ptr N 0) o) = some r) : SOk P B g w κ r (Instr.box t v) := by
 obtain ⟨hf, hl, ws, rfl, hr⟩ := ha
 unfold newK at h
 split at h
 case h_2 => cases h
 rename_i hfree
 refine ⟨_, _, .pointer (some ⟨w.heap.size, 0, none⟩), _, _, h, ?_, new_arr hw hfree ty l ws t hf hl hr, setE_ge hw hfree _, ⟨_, _, setE_at g _ _, rfl⟩⟩
 simp [Instr.box, run_newVar, Value.cells]
theorem fieldOff_ok {Θ : Nat → TD} (hΘ : TOk P Θ) {s f off ft : Nat} (h : fieldOff Θ s f = some (off, ft)) :
  ∃ fs fd i, P.underlying s = some (.struct fs) ∧ fs[f]? = some fd ∧ fd.offset = off ∧ fd.type = ft ∧ P.info? ft = some i ∧ (okK (Θ ft).k = true → i.size ≠ 0 ∧ (Θ ft).sz = i.size) := by
 unfold fieldOff at h
 split at h
 case h_2 => cases h
 rename_i fs' hk
 split at h
 case h_2 => cases h
 rename_i off' ft' hf
 split at h
 case isTrue => cases h
 rename_i hsz
 cases h
 have hrow := hΘ.get s (by rw [hk]; simp)
 obtain ⟨i, d, z, hi, hu, hk2, hs, hn, hz, hzz, hzs, hz1, hty⟩ := hrow.row
 cases d <;> (rw [hk] at hk2; simp [kOf] at hk2)
 rename_i fs
 subst hk2
 simp only [List.getElem?_map, Option.map_eq_some_iff] at hf
 obtain ⟨fd, hfd, he⟩ := hf
 cases he
 have hfd' : fs[f]? = some fd := by simpa using hfd
 have hmem : fd ∈ fs.toList := List.mem_of_getElem? hfd
 obtain ⟨i', hi'⟩ := Option.isSome_iff_exists.1 (hrow.fields fs hu fd hmem)
 refine ⟨fs, fd, i', hu, hfd', rfl, rfl, hi', fun hok => ?_⟩
 obtain ⟨i2, d2, z2, hi2, hu2, hk3, hs2, _⟩ := (hΘ.ok hok).row
 rw [hi'] at hi2
 cases hi2
 exact ⟨by rw [← hs2]; exact hsz, hs2⟩
theorem fieldAt_run {s f : Nat} {fs : Array Field} {fd : Field} {i : TypeInfo} (hu : P.underlying s = some (.struct fs)) (hf : fs[f]? = some fd) (hi : P.info? fd.type = some i) (hne : i.size ≠ 0) (w : World) (a : Addr) :
  (Instr.fieldAt s (.pointer (some a)) f).run P w = .ok (.pointer (some (a.add fd.offset))) w := by
 simp [Instr.fieldAt, run_underlying hu, hf, Instr.sureAddr, fieldPlace, run_sizeD hi, hne]
theorem fieldAddr_sound {R : Type} {Θ : Nat → TD} (hΘ : TOk P Θ) {B : Base} {g : G} {o : Objs} {w : World} (hw : WInv B g o w) (s f off ft : Nat) (x : AV) (v : Value) (κ : AV → Objs → Option R) (r : R)
  (hf : fieldOff Θ s f = some (off, ft)) (hok : okK (Θ ft).k = true) (h : fieldAddrK off x (fun v => κ v o) = some r) (hx : VR g x v) : SOk P B g w κ r (Instr.fieldAt s v f) := by
 obtain ⟨fs, fd, i, hu, hfd, rfl, rfl, hi, hsz⟩ := fieldOff_ok hΘ hf
 have hne := (hsz hok).1
 unfold fieldAddrK at h
 split at h
 ·obtain ⟨p, z, hE, rfl⟩ := hx
  exact SOk.quiet hw _ _ h (fieldAt_run hu hfd hi hne w _) ⟨p, z, hE, by rw [add_add]⟩
 ·obtain ⟨p, z, u, hE, hb, rfl⟩ := hx
  exact SOk.quiet hw _ _ h (fieldAt_run hu hfd hi hne w _) ⟨p, z, u, hE, hb, by rw [add_add, Nat.add_assoc]⟩
 ·obtain ⟨ad, ws, rfl, hc, hm⟩ := hx
  refine SOk.quiet hw _ _ h (fieldAt_run hu hfd hi hne w _) ⟨ad.add fd.offset, ws.drop fd.offset, rfl, VRL_drop _ hc, fun j u hj => ?_⟩
  rw [add_add]
  exact hm _ _ (by rw [List.getElem?_drop] at hj; exact hj)
 ·cases h
theorem run_part_agg {t : TypeId} {d : TypeDesc} {i : TypeInfo} (w : World) (hi : P.info? t = some i) (hu : P.underlying t = some d) (hd : aggD d = true) (cs : Array Value) (off : Nat) : (part t cs off).run P w = .ok (.agg (cs.extract off (off + i.size))) w := by
 simp [part, run_isAggD hu, hd, run_sizeD hi]
theorem run_part_one {t : TypeId} {d : TypeDesc} (w : World) (hu : P.underlying t = some d) (hd : aggD d = false) (cs : Array Value) (off : Nat) (v : Value) (h : cs[off]? = some v) : (part t cs off).run P w = .ok v w := by
 simp [part, run_isAggD hu, hd, h]
theorem fromPart_sound {R : Type} {Θ : Nat → TD} (hΘ : TOk P Θ) {g : G} {w : World} (t : Nat) (cs : List AV) (ws : List Value) (off : Nat) (κ : AV → Option R) (r : R)
  (h : fromCells Θ t (cs.drop off) κ = some r) (hc : VRL g (cs.drop off) (ws.drop off)) (h1 : ∀ u ∈ ws, u.oneCell' = true) :
  ∃ av v, κ av = some r ∧ VR g av v ∧ (part t ws.toArray off).run P w = .ok v w := by
 have hne : (Θ t).k ≠ .other := by intro e; unfold fromCells at h; rw [e] at h; cases h
 obtain ⟨i, d, z, hi, hu, hk, hs, hn, hz, hzz, hzs, hz1, hty⟩ := (hΘ.get t hne).row
 have one : ∀ (hd : aggD d = false), headK (cs.drop off) κ = some r → ∃ av v, κ av = some r ∧ VR g av v ∧ (part t ws.toArray off).run P w = .ok v w := by
  intro hd h
  unfold headK at h
  split at h
  ·rename_i c rest he
   rw [he] at hc
   cases hq : ws.drop off with
   | nil => rw [hq] at hc; exact hc.elim
   | cons v vs =>
    rw [hq] at hc
    refine ⟨c, v, h, hc.1, run_part_one w hu hd _ off v ?_⟩
    have : (ws.drop off)[0]? = some v := by rw [hq]; rfl
    rw [List.getElem?_drop] at this
    simpa using this
  ·cases h
 unfold fromCells at h
 cases d with
 | struct fs =>
  rw [hk] at h
  simp only [kOf] at h
  split at h
  ·rename_i hle
   refine ⟨_, .agg ((ws.drop off).take (Θ t).sz).toArray, h, ⟨_, rfl, VRL_take _ hc, fun u hu => h1 u (List.mem_of_mem_drop (List.mem_of_mem_take hu))⟩, ?_⟩
   rw [run_part_agg w hi hu rfl, hs]
   congr 2
   apply Array.ext'
   simp [List.take_drop]
  ·cases h
 | array n e =>
  rw [hk] at h
  simp only [kOf] at h
  split at h
  case h_2 => cases h
  split at h
  ·rename_i hle
   refine ⟨_, .agg ((ws.drop off).take (Θ t).sz).toArray, h, ⟨_, rfl, VRL_take _ hc, fun u hu => h1 u (List.mem_of_mem_drop (List.mem_of_mem_take hu))⟩, ?_⟩
   rw [run_part_agg w hi hu rfl, hs]
   congr 2
   apply Array.ext'
   simp [List.take_drop]
  ·cases h
 | bool => rw [hk] at h; exact one rfl h
 | int k => rw [hk] at h; exact one rfl h
 | string => rw [hk] at h; exact one rfl h
 | pointer e => rw [hk] at h; exact one rfl h
 | slice e => rw [hk] at h; exact one rfl h
 | func a b c => rw [hk] at h; exact one rfl h
 | invalid => rw [hk] at hne; exact absurd rfl hne
 | float k => rw [hk] at hne; exact absurd rfl hne
 | complex k => rw [hk] at hne; exact absurd rfl hne
 | unsafePointer => rw [hk] at hne; exact absurd rfl hne
 | map a b => rw [hk] at hne; exact absurd rfl hne
 | chan a b => rw [hk] at hne; exact absurd rfl hne
 | interface m => rw [hk] at hne; exact absurd rfl hne
 | tuple m => rw [hk] at hne; exact absurd rfl hne
 | named a b => rw [hk] at hne; exact absurd rfl hne
theorem field_sound {R : Type} {Θ : Nat → TD} (hΘ : TOk P Θ) {B : Base} {g : G} {o : Objs} {w : World} (hw : WInv B g o w) (s f off ft : Nat) (cs : List AV) (v : Value) (κ : AV → Objs → Option R) (r : R)
  (hf : fieldOff Θ s f = some (off, ft)) (h : fromCells Θ ft (cs.drop off) (fun v => κ v o) = some r) (hx : VR g (.agg cs) v) : SOk P B g w κ r (Instr.field s v f) := by
 obtain ⟨fs, fd, i, hu, hfd, rfl, rfl, hi, hsz⟩ := fieldOff_ok hΘ hf
 obtain ⟨ws, rfl, hc, h1⟩ := hx
 obtain ⟨av, u, hk, hv, hr⟩ := fromPart_sound hΘ (w := w) fd.type cs ws fd.offset _ r h (VRL_drop _ hc) h1
 exact SOk.quiet hw av u hk (by simp [Instr.field, run_underlying hu, hfd, asAgg, hr]) hv
theorem extract_sound {R : Type} {B : Base} {g : G} {o : Objs} {w : World} (hw : WInv B g o w) (vs : List AV) (i : Nat) (v : Value) (κ : AV → Objs → Option R) (r : R)
  (hi : i < vs.length) (h : κ (vs.getD i .dead) o = some r) (hx : VR g (.tup vs) v) : SOk P B g w κ r (Instr.extract v i) := by
 obtain ⟨ws, rfl, hc⟩ := hx
 have hl := VRL_length hc
 obtain ⟨u, hu, hr⟩ := VRL_get hc i (vs.getD i .dead) (by simp [List.getD, List.getElem?_eq_getElem hi])
 refine SOk.quiet hw _ u h ?_ hr
 have : ws.toArray[i]? = some u := by simpa using hu
 simp [Instr.extract, this]
end Go.Den
set_option linter.unusedVariables false
set_option linter.unusedSimpArgs false
namespace Go.Den
variable {P : Program}
theorem kd_eq {Θ : Nat → TD} (hΘ : TOk P Θ) {t : Nat} (hk : (Θ t).k ≠ .other) : ∃ d i, P.underlying t = some d ∧ P.info? t = some i ∧ (Θ t).k = kOf d ∧ (Θ t).sz = i.size := by
 obtain ⟨i, d, z, hi, hu, hk2, hs, _⟩ := (hΘ.get t hk).row
 exact ⟨d, i, hu, hi, hk2, hs⟩
theorem sl_of {Θ : Nat → TD} (hΘ : TOk P Θ) {t e : Nat} (hk : (Θ t).k = .sl e) : P.underlying t = some (.slice e) := by
 obtain ⟨d, i, hu, hi, hk2, _⟩ := kd_eq hΘ (t := t) (by rw [hk]; simp)
 rw [hk] at hk2
 cases d <;> simp [kOf] at hk2
 rw [hu, hk2]
theorem str_of {Θ : Nat → TD} (hΘ : TOk P Θ) {t : Nat} (hk : (Θ t).k = .str) : P.underlying t = some .string := by
 obtain ⟨d, i, hu, hi, hk2, _⟩ := kd_eq hΘ (t := t) (by rw [hk]; simp)
 rw [hk] at hk2
 cases d <;> simp [kOf] at hk2
 rw [hu]
theorem int_of {Θ : Nat → TD} (hΘ : TOk P Θ) {t : Nat} {k : IntKind} (hk : (Θ t).k = .int k) : P.underlying t = some (.int k) := by
 obtain ⟨d, i, hu, hi, hk2, _⟩ := kd_eq hΘ (t := t) (by rw [hk]; simp)
 rw [hk] at hk2
 cases d <;> simp [kOf] at hk2
 rw [hu, hk2]
theorem arr_of {Θ : Nat → TD} (hΘ : TOk P Θ) {t n e : Nat} (hk : (Θ t).k = .arr n e) : P.underlying t = some (.array n e) := by
 obtain ⟨d, i, hu, hi, hk2, _⟩ := kd_eq hΘ (t := t) (by rw [hk]; simp)
 rw [hk] at hk2
 cases d <;> simp [kOf] at hk2
 rw [hu, hk2.1, hk2.2]
theorem ptr_of {Θ : Nat → TD} (hΘ : TOk P Θ) {t : Nat} (hk : isPtrK (Θ t).k = true) : ∃ e, P.underlying t = some (.pointer e) := by
 cases hq : (Θ t).k <;> (rw [hq] at hk; simp [isPtrK] at hk)
 rename_i e
 obtain ⟨d, i, hu, hi, hk2, _⟩ := kd_eq hΘ (t := t) (by rw [hq]; simp)
 rw [hq] at hk2
 cases d <;> simp [kOf] at hk2
 exact ⟨_, hu⟩
theorem bool_of {Θ : Nat → TD} (hΘ : TOk P Θ) {t : Nat} (hk : (Θ t).k = .bool) : P.underlying t = some .bool := by
 obtain ⟨d, i, hu, hi, hk2, _⟩ := kd_eq hΘ (t := t) (by rw [hk]; simp)
 rw [hk] at hk2
 cases d <;> simp [kOf] at hk2
 rw [hu]
theorem size_of {Θ : Nat → TD} (hΘ : TOk P Θ) {e n : Nat} (hk : okK (Θ e).k = true) (hn : (Θ e).sz = n) (w : World) : (sizeOf e).run P w = .ok n w := by
 obtain ⟨i, d, z, hi, hu, hk2, hs, _⟩ := (hΘ.ok hk).row
 rw [run_sizeD hi, ← hs, hn]
theorem sizeOk {Θ : Nat → TD} (hΘ : TOk P Θ) {e n : Nat} (h : szOk Θ e n = true) (w : World) : (sizeOf e).run P w = .ok n w := by
 simp only [szOk, Bool.and_eq_true, beq_iff_eq] at h
 exact size_of hΘ h.1 h.2 w
theorem row_slice {w : World} {base e size n : Nat} {v : Value} {xs : List Value} (h : w.ownsR base e size v n xs) : ∃ A c, v = .slice A n c ∧ n ≤ c := by
 rcases h.2 with ⟨rfl, rfl⟩ | ⟨b, cap, cur, fz, rfl, _, _, _, hnc, _⟩
 ·exact ⟨none, 0, rfl, Nat.le_refl _⟩
 ·exact ⟨_, cap, rfl, hnc⟩
theorem len_sound {R : Type} {Θ : Nat → TD} (hΘ : TOk P Θ) {B : Base} {g : G} {o : Objs} {w : World} (hw : WInv B g o w) {t e : Nat} (hk : (Θ t).k = .sl e) (x : AV) (v : Value) (ty : TypeId) (κ : AV → Objs → Option R) (r : R)
  (hx : VR g x v) (h : lenK x o (fun v => κ v o) = some r) (hns : ∀ s, x ≠ .d .str s) : SOk P B g w κ r (Builtin.len_ #[t] ty #[v]) := by
 have hu := sl_of hΘ hk
 have key : ∀ A n c, v = .slice A n c → (Builtin.len_ #[t] ty #[v]).run P w = .ok (.int .i64 n) w := by
  rintro A n c rfl
  simp [Builtin.len_, run_underlying hu, goInt]
 unfold lenK at h
 split at h
 ·obtain ⟨_, A, c, e1, _⟩ := hx
  cases e1
  exact SOk.quiet hw _ _ h (key _ _ _ rfl) rfl
 ·rename_i s; exact absurd rfl (hns s)
 ·rw [show v = _ from hx] at key ⊢
  exact SOk.quiet hw _ _ h (key _ _ _ rfl) rfl
 ·rename_i n
  split at h
  ·rename_i e' t' l frz hn
   obtain ⟨z, hE, _⟩ := hx
   obtain ⟨v', ws, hE2, hf, ho, hr, hm⟩ := hw.objs n _ hn
   rw [hE2] at hE
   cases hE
   obtain ⟨A, c, rfl, _⟩ := row_slice ho
   exact SOk.quiet hw _ _ h (key _ _ _ rfl) rfl
  ·cases h
 ·obtain ⟨A, len, cap, z, A', _, _, _, _, _, e⟩ := hx
  exact SOk.quiet hw _ _ h (key _ _ _ e) rfl
 ·cases h
theorem lenStr_sound {R : Type} {Θ : Nat → TD} (hΘ : TOk P Θ) {B : Base} {g : G} {o : Objs} {w : World} (hw : WInv B g o w) {t : Nat} (hk : (Θ t).k = .str) (s : ByteArray) (v : Value) (ty : TypeId) (κ : AV → Objs → Option R) (r : R)
  (hx : VR g (.d .str s) v) (h : κ (.d (.int .i64) (s.size : Int)) o = some r) : SOk P B g w κ r (Builtin.len_ #[t] ty #[v]) := by
 rw [show v = _ from hx]
 exact SOk.quiet hw _ (.int .i64 s.size) h (by simp [Builtin.len_, run_underlying (str_of hΘ hk), goInt]) rfl
theorem lenArr_sound {R : Type} {Θ : Nat → TD} (hΘ : TOk P Θ) {B : Base} {g : G} {o : Objs} {w : World} (hw : WInv B g o w) {t n e : Nat} (hk : (Θ t).k = .arr n e) (v : Value) (ty : TypeId) (κ : AV → Objs → Option R) (r : R)
  (h : κ (.d (.int .i64) (n : Int)) o = some r) : SOk P B g w κ r (Builtin.len_ #[t] ty #[v]) :=
 SOk.quiet hw _ (.int .i64 n) h (by simp [Builtin.len_, run_underlying (arr_of hΘ hk), goInt]) rfl
theorem idx_some {α : Type} {l : List α} {i : Int} {x : α} (h : idx l i = some x) : 0 ≤ i ∧ i.toNat < l.length ∧ l[i.toNat]? = some x := by
 unfold idx at h
 split at h
 ·rename_i h0; exact ⟨h0, (List.getElem?_eq_some_iff.1 h).1, h⟩
 ·cases h
theorem indexAddr_sound {R : Type} {Θ : Nat → TD} (hΘ : TOk P Θ) {B : Base} {g : G} {o : Objs} {w : World} (hw : WInv B g o w) (t : Nat) (x : AV) (v : Value) (k : IntKind) (i : Int) (κ : AV → Objs → Option R) (r : R)
  (hx : VR g x v) (h : indexAddrK Θ t x i o (fun v => κ v o) = some r) : SOk P B g w κ r (Instr.indexAt t v (.int k i)) := by
 unfold indexAddrK at h
 split at h
 ·rename_i e hk
  have hu := sl_of hΘ hk
  have run : ∀ (ad : Addr) (n c sz : Nat), 0 ≤ i → i.toNat < n → (sizeOf e).run P w = .ok sz w → (Instr.indexAt t (.slice (some ad) n c) (.int k i)).run P w = .ok (.pointer (some (ad.add (i.toNat * sz)))) w := by
   intro ad n c sz h0 hlt hsz
   have : 0 ≤ i ∧ i < (n : Int) := ⟨h0, by omega⟩
   simp [Instr.indexAt, asIntOf, run_underlying hu, this, hsz]
  split at h
  ·rename_i t' l
   split at h
   case isFalse => cases h
   rename_i hsz
   split at h
   case h_2 => cases h
   rename_i y hi
   obtain ⟨h0, hlt, hy⟩ := idx_some hi
   obtain ⟨hf, A, c, e1, hlc, hxx⟩ := hx
   cases e1
   obtain ⟨ad, ws, rfl, hc, hm⟩ := hxx _ y hy
   refine SOk.quiet hw _ _ h (run ad _ c _ h0 hlt (sizeOk hΘ hsz w)) ⟨_, ws, rfl, leaves_VRL t' y ws hf hc, fun j u hj => ?_⟩
   rw [add_add]
   exact hm j u hj
  ·rename_i n
   split at h
   case h_2 => cases h
   rename_i e' t' l frz hn
   split at h
   case isFalse => cases h
   rename_i hsz
   split at h
   case h_2 => cases h
   rename_i y hi
   obtain ⟨h0, hlt, hy⟩ := idx_some hi
   obtain ⟨z, hE, _⟩ := hx
   obtain ⟨v', ws, hE2, hf, ho, hr, hm⟩ := hw.objs n _ hn
   rw [hE2] at hE
   cases hE
   rcases ho.2 with ⟨rfl, h00⟩ | ⟨b, cap, cur, fz, rfl, _⟩
   ·omega
   ·exact SOk.quiet hw _ _ h (run _ _ cap _ h0 hlt (sizeOk hΘ hsz w)) ⟨_, _, _, hE2, rfl, by rw [Nat.add_zero]⟩
  ·cases h
 ·rename_i m e hk
  have hu := arr_of hΘ hk
  split at h
  ·rename_i n
   split at h
   case h_2 => cases h
   rename_i m' t' l hn
   split at h
   case isFalse => cases h
   rename_i hc
   obtain ⟨hsz, rfl⟩ := hc
   split at h
   case h_2 => cases h
   rename_i y hi
   obtain ⟨h0, hlt, hy⟩ := idx_some hi
   obtain ⟨p, z, hE, rfl⟩ := hx
   obtain ⟨b, ws, ty, hE2, ⟨hf, hlm⟩, hh, hr, hm⟩ := hw.objs n _ hn
   rw [hE2] at hE
   cases hE
   have hb : 0 ≤ i ∧ i < (m' : Int) := ⟨h0, by omega⟩
   refine SOk.quiet hw _ (.pointer (some ((⟨b, 0, none⟩ : Addr).add (i.toNat * t'.sz)))) h ?_ ⟨_, _, _, hE2, rfl, by rw [Nat.add_zero]⟩
   simp [Instr.indexAt, asIntOf, run_underlying hu, Instr.sureAddr, hb, sizeOk hΘ hsz w, Addr.add]
  ·rename_i n
   split at h
   case h_2 => cases h
   rename_i k' l hg
   split at h
   case isFalse => cases h
   rename_i hc
   obtain ⟨hsz, rfl⟩ := hc
   split at h
   case h_2 => cases h
   rename_i y hi
   obtain ⟨h0, hlt, hy⟩ := idx_some hi
   rw [show v = _ from hx]
   have hb : 0 ≤ i ∧ i < (l.length : Int) := ⟨h0, by omega⟩
   have hmem := hw.grow _ _ (hw.glob.tab n k' l hg i.toNat y hy)
   refine SOk.quiet hw _ (.pointer (some ⟨n, i.toNat, none⟩)) h ?_ ⟨_, [.int k' y], rfl, ⟨rfl, trivial⟩, fun j u hj => ?_⟩
   ·simp [Instr.indexAt, asIntOf, run_underlying hu, Instr.sureAddr, hb, sizeOk hΘ hsz w, Addr.add] <;> omega
   ·match j, hj with
    | 0, hj => cases hj; simpa [Addr.add] using hmem
  ·cases h
 ·cases h
theorem optI_some {g : G} {lo : Option AV} {lv : Option Value} {x : Option Int} (h : optI lo = some x) (hl : ∀ a, lo = some a → ∃ v, lv = some v ∧ VR g a v) (hl0 : lo = none → lv = none) :
  (x = none ∧ lv = none) ∨ ∃ a k, x = some a ∧ lv = some (.int k a) := by
 unfold optI at h
 split at h
 ·cases h; exact .inl ⟨rfl, hl0 rfl⟩
 ·rename_i k a
  cases h
  obtain ⟨v, rfl, hv⟩ := hl _ rfl
  exact .inr ⟨a, k, rfl, by rw [show v = _ from hv]⟩
 ·cases h
theorem cutK_sound {R : Type} {g : G} {w : World} (lo hi : Option AV) (lv hv : Option Value) (n c : Nat) (isSlice : Bool) (k : Nat → Nat → Option R) (r : R) (h : cutK lo hi n k = some r) (hnc : n ≤ c)
  (hl : ∀ a, lo = some a → ∃ v, lv = some v ∧ VR g a v) (hl0 : lo = none → lv = none) (hh : ∀ a, hi = some a → ∃ v, hv = some v ∧ VR g a v) (hh0 : hi = none → hv = none) :
  ∃ a b, k a b = some r ∧ a ≤ b ∧ b ≤ n ∧ (Instr.sliceBounds isSlice n c lv hv none).run P w = .ok (a, b, c) w := by
 unfold cutK at h
 split at h
 case h_2 => cases h
 rename_i lo' hi' h1 h2
 unfold cutI at h
 rcases optI_some h1 hl hl0 with ⟨rfl, rfl⟩ | ⟨a, k1, rfl, rfl⟩ <;> rcases optI_some h2 hh hh0 with ⟨rfl, rfl⟩ | ⟨b, k2, rfl, rfl⟩ <;> simp only at h
 ·exact ⟨0, n, h, Nat.zero_le _, Nat.le_refl _, by simp [Instr.sliceBounds]⟩
 ·split at h
  case isFalse => cases h
  rename_i hb
  obtain ⟨hb1, hb2⟩ := hb
  refine ⟨0, b.toNat, h, Nat.zero_le _, by omega, ?_⟩
  have : b ≤ (c : Int) := by omega
  simp [Instr.sliceBounds, Instr.sliceBound, asIntOf, hb1, this]
 ·split at h
  case isFalse => cases h
  rename_i hb
  obtain ⟨hb1, hb2⟩ := hb
  refine ⟨a.toNat, n, h, by omega, Nat.le_refl _, ?_⟩
  simp [Instr.sliceBounds, Instr.sliceBound, asIntOf, hb1, hb2]
 ·split at h
  case isFalse => cases h
  rename_i hb
  obtain ⟨hb1, hb2, hb3⟩ := hb
  refine ⟨a.toNat, b.toNat, h, by omega, by omega, ?_⟩
  have h1 : 0 ≤ b := by omega
  have h2 : b ≤ (c : Int) := by omega
  have h3 : a ≤ (b.toNat : Int) := by omega
  have h4 : a ≤ max b 0 := by omega
  simp [Instr.sliceBounds, Instr.sliceBound, asIntOf, hb1, h1, h2, h3, h4]
theorem cut_CR {M : Mem} (t : Ty) (l : List t.I) (A : Option Addr) (c a b : Nat) (hab : a ≤ b) (hb : b ≤ l.length) (hf : t.flat = true) (h : CR M (.sl t) l [.slice A l.length c]) :
  CR M (.sl t) ((l.take b).drop a) [.slice (if c = a then A else A.map (·.add (a * t.sz))) (b - a) (c - a)] := by
 obtain ⟨A', c', e, hlc, hx⟩ := h
 cases e
 have hlen : ((l.take b).drop a).length = b - a := by simp; omega
 refine ⟨_, c - a, by rw [hlen], by rw [hlen]; omega, fun i x hi => ?_⟩
 rw [List.getElem?_drop, List.getElem?_take] at hi
 split at hi
 case isFalse => cases hi
 rename_i hlt
 obtain ⟨ad, ws, rfl, hc, hm⟩ := hx (a + i) x hi
 have hne : ¬ c = a := by omega
 refine ⟨ad.add (a * t.sz), ws, by simp [hne], hc, fun j v hj => ?_⟩
 rw [add_add]
 have := hm j v hj
 rw [Nat.add_mul] at this
 rw [← Nat.add_assoc]
 exact this
theorem fromPart_sound' {R : Type} {Θ : Nat → TD} (hΘ : TOk P Θ) {g : G} {w : World} (t : Nat) (cs : List AV) (ws : List Value) (off : Nat) (κ : AV → Option R) (r : R)
  (h : fromCells Θ t cs κ = some r) (a : List Value) (hc : VRL g cs a) (hlt : off + a.length ≤ ws.length) (had : (ws.drop off).take a.length = a) (hsz : a.length = (Θ t).sz) (h1 : ∀ u ∈ ws, u.oneCell' = true) :
  ∃ av v, κ av = some r ∧ VR g av v ∧ (part t ws.toArray off).run P w = .ok v w := by
 have hne : (Θ t).k ≠ .other := by intro e; unfold fromCells at h; rw [e] at h; cases h
 obtain ⟨i, d, z, hi, hu, hk, hs, hn, hz, hzz, hzs, hz1, hty⟩ := (hΘ.get t hne).row
 have one : ∀ (hd : aggD d = false), headK cs κ = some r → ∃ av v, κ av = some r ∧ VR g av v ∧ (part t ws.toArray off).run P w = .ok v w := by
  intro hd h
  unfold headK at h
  cases cs with
  | nil => cases h
  | cons c rest =>
   cases a with
   | nil => exact hc.elim
   | cons v vs =>
    refine ⟨c, v, h, hc.1, run_part_one w hu hd _ off v ?_⟩
    have : ((ws.drop off).take (vs.length + 1))[0]? = some v := by rw [List.length_cons] at had; rw [had]; rfl
    rw [List.getElem?_take_of_lt (by omega), List.getElem?_drop] at this
    simpa using this
 unfold fromCells at h
 cases d with
 | struct fs =>
  rw [hk] at h
  simp only [kOf] at h
  split at h
  ·rename_i hle
   have hal := VRL_length hc
   refine ⟨_, .agg a.toArray, h, ⟨_, rfl, by rw [List.take_of_length_le (by omega)]; exact hc, fun u hu => h1 u (by rw [← had] at hu; exact List.mem_of_mem_drop (List.mem_of_mem_take hu))⟩, ?_⟩
   rw [run_part_agg w hi hu rfl, ← hs, ← hsz]
   congr 2
   apply Array.ext'
   simp only [Array.toList_extract, List.extract_eq_take_drop, Nat.add_sub_cancel_left]
   exact had
  ·cases h
 | array n e =>
  rw [hk] at h
  simp only [kOf] at h
  split at h
  case h_2 => cases h
  split at h
  ·rename_i hle
   have hal := VRL_length hc
   refine ⟨_, .agg a.toArray, h, ⟨_, rfl, by rw [List.take_of_length_le (by omega)]; exact hc, fun u hu => h1 u (by rw [← had] at hu; exact List.mem_of_mem_drop (List.mem_of_mem_take hu))⟩, ?_⟩
   rw [run_part_agg w hi hu rfl, ← hs, ← hsz]
   congr 2
   apply Array.ext'
   simp only [Array.toList_extract, List.extract_eq_take_drop, Nat.add_sub_cancel_left]
   exact had
  ·cases h
 | bool => rw [hk] at h; exact one rfl h
 | int k => rw [hk] at h; exact one rfl h
 | string => rw [hk] at h; exact one rfl h
 | pointer e => rw [hk] at h; exact one rfl h
 | slice e => rw [hk] at h; exact one rfl h
 | func a b c => rw [hk] at h; exact one rfl h
 | invalid => rw [hk] at hne; exact absurd rfl hne
 | float k => rw [hk] at hne; exact absurd rfl hne
 | complex k => rw [hk] at hne; exact absurd rfl hne
 | unsafePointer => rw [hk] at hne; exact absurd rfl hne
 | map a b => rw [hk] at hne; exact absurd rfl hne
 | chan a b => rw [hk] at hne; exact absurd rfl hne
 | interface m => rw [hk] at hne; exact absurd rfl hne
 | tuple m => rw [hk] at hne; exact absurd rfl hne
 | named a b => rw [hk] at hne; exact absurd rfl hne
theorem arr_freeze {B : Base} {g : G} {o : Objs} {w : World} (hw : WInv B g o w) {n m : Nat} {t : Ty} {l : List t.I} (hn : o n = some (.arr m t l)) :
  ∃ M' b, WInv B ⟨M', g.E⟩ (upd o n .gone) w ∧ GE g ⟨M', g.E⟩ ∧ t.flat = true ∧ l.length = m ∧ g.E n = some (.pointer (some ⟨b, 0, none⟩), t.sz) ∧ CR M' (.sl t) l [.slice (some ⟨b, 0, none⟩) l.length l.length] := by
 obtain ⟨b, ws, ty, hE, ⟨hf, hlm⟩, hh, hr, hm⟩ := hw.objs n _ hn
 have hlen := RR_length t l ws hr
 let M' : Mem := fun a => if a.block = b ∧ a.spot = none ∧ a.off < ws.length then w.cell? a else g.M a
 have hbk : blkOf g n = some b := by simp [blkOf, hE, baseOf]
 have hat : ∀ (j : Nat) (u : Value), ws[j]? = some u → w.cell? ⟨b, j, none⟩ = some u := fun j u hj => by
  rw [cell_of_row w b _ _ ty _ hh]
  simpa using hj
 have hcell : ∀ a : Addr, a.block = b → a.spot = none → a.off < ws.length → ∃ u, w.cell? a = some u ∧ u ∈ ws := by
  intro a hb hs hlt
  refine ⟨ws[a.off], ?_, List.getElem_mem hlt⟩
  have := hat a.off _ (List.getElem?_eq_getElem hlt)
  rw [← this]
  cases a with
  | mk b off sp => simp at hs hb; subst hs; subst hb; rfl
 have hgrow : ∀ a u, g.M a = some u → M' a = some u := by
  intro a u ha
  simp only [M']
  split
  ·exact (hw.mem a u ha).1
  ·exact ha
 have hgE : GE g ⟨M', g.E⟩ := ⟨hgrow, fun _ _ e => e⟩
 have hcr : CR M' (.sl t) l [.slice (some ⟨b, 0, none⟩) l.length l.length] := by
  refine ⟨some ⟨b, 0, none⟩, l.length, rfl, Nat.le_refl _, fun i x hi => ?_⟩
  obtain ⟨us, hc, hu⟩ := RR_cell t l ws hr i x hi
  refine ⟨⟨b, 0, none⟩, us, rfl, CR_mono hgrow t x us hc, fun j u hj => ?_⟩
  have hk := hu j u hj
  have hlt : i * t.sz + j < ws.length := (List.getElem?_eq_some_iff.1 hk).1
  rw [add_at]
  simp only [M']
  rw [if_pos ⟨trivial, trivial, hlt⟩]
  exact hat _ _ hk
 refine ⟨M', b, ?_, hgE, hf, hlm, hE, hcr⟩
 refine hw.learn M' n (upd o n .gone) hgrow ?_ ?_ ?_ ?_ ?_ ?_
 ·intro a u ha
  simp only [M'] at ha
  split at ha
  ·rename_i hc
   obtain ⟨u', hu', hmem⟩ := hcell a hc.1 hc.2.1 hc.2.2
   rw [hu'] at ha
   cases ha
   exact ⟨hu', RR_one t l ws hr _ hmem⟩
  ·exact hw.mem a u ha
 ·intro m x hne hmo hl b' a hb hab
  simp only [M']
  rw [if_neg]
  rintro ⟨hc, _⟩
  exact hw.apart m n x _ hne hmo hn hl rfl b' hb (by rw [hbk, ← hab, hc])
 ·intro m hne; simp [upd, hne]
 ·intro x hx
  simp [upd] at hx
  subst hx
  refine ⟨?_, fun hl => by cases hl⟩
  show (g.E n).isSome = true
  rw [hE]; rfl
 ·intro hx; simp [upd] at hx
 ·intro a ha hX
  simp only [M']
  rw [if_neg]
  rintro ⟨hc, _⟩
  rcases hw.mine n _ _ hn rfl hbk with h | h
  ·exact hX (by rw [hc]; exact h)
  ·omega
theorem slice_sound {R : Type} {Θ : Nat → TD} (hΘ : TOk P Θ) {B : Base} {g : G} {o : Objs} {w : World} (hw : WInv B g o w) (t : Nat) (x : AV) (v : Value) (lo hi : Option AV) (lv hv : Option Value) (κ : AV → Objs → Option R) (r : R)
  (h : sliceK Θ t x lo hi o κ = some r) (hx : VR g x v)
  (hl : ∀ a, lo = some a → ∃ v, lv = some v ∧ VR g a v) (hl0 : lo = none → lv = none) (hh : ∀ a, hi = some a → ∃ v, hv = some v ∧ VR g a v) (hh0 : hi = none → hv = none) :
  SOk P B g w κ r (Instr.sliceAt t v lv hv none) := by
 unfold sliceK at h
 split at h
 ·rename_i hk
  have hu := str_of hΘ hk
  split at h
  ·rename_i s
   obtain ⟨a, b, hk2, hab, hbn, hrun⟩ := cutK_sound (P := P) (w := w) lo hi lv hv s.size s.size false _ r h (Nat.le_refl _) hl hl0 hh hh0
   rw [show v = _ from hx]
   exact SOk.quiet hw _ (.string (s.extract a b)) hk2 (by simp [Instr.sliceAt, Instr.slice, run_underlying hu, hrun]) rfl
  ·cases h
 ·rename_i e hk
  have hu := sl_of hΘ hk
  have run : ∀ (A : Option Addr) (n c sz a b : Nat), (sizeOf e).run P w = .ok sz w → (Instr.sliceBounds true n c lv hv none).run P w = .ok (a, b, c) w →
    (Instr.sliceAt t (.slice A n c) lv hv none).run P w = .ok (.slice (if c = a then A else A.map (·.add (a * sz))) (b - a) (c - a)) w := by
   intro A n c sz a b hsz hb
   simp [Instr.sliceAt, Instr.slice, run_underlying hu, hb, hsz]
  split at h
  ·rename_i t' l
   split at h
   case isFalse => cases h
   rename_i hsz
   obtain ⟨hf, hcr⟩ := hx
   have hcr' := hcr
   obtain ⟨A, c, e1, hlc, hxx⟩ := hcr
   cases e1
   obtain ⟨a, b, hk2, hab, hbn, hrun⟩ := cutK_sound (P := P) (w := w) lo hi lv hv l.length c true _ r h hlc hl hl0 hh hh0
   exact SOk.quiet hw _ _ hk2 (run A _ c _ a b (sizeOk hΘ hsz w) hrun) ⟨hf, cut_CR t' l A c a b hab hbn hf hcr'⟩
  ·rename_i n
   split at h
   case h_2 => cases h
   rename_i e' t' l frz hn
   split at h
   case isFalse => cases h
   rename_i hsz
   obtain ⟨z, hE, _⟩ := hx
   obtain ⟨M', hw', hg, hf, hcr⟩ := freeze_sound hw hn hE
   have hcr' := hcr
   obtain ⟨A, c, e1, hlc, hxx⟩ := hcr
   cases e1
   obtain ⟨a, b, hk2, hab, hbn, hrun⟩ := cutK_sound (P := P) (w := w) lo hi lv hv l.length c true _ r h hlc hl hl0 hh hh0
   exact ⟨_, _, _, w, _, hk2, run A _ c _ a b (sizeOk hΘ hsz w) hrun, hw', hg, ⟨hf, cut_CR t' l A c a b hab hbn hf hcr'⟩⟩
  ·cases h
 ·rename_i m e hk
  have hu := arr_of hΘ hk
  split at h
  case h_2 => cases h
  rename_i n off
  split at h
  case h_2 => cases h
  rename_i m' t' l hn
  split at h
  case isFalse => cases h
  rename_i hc
  obtain ⟨rfl, rfl, hsz⟩ := hc
  obtain ⟨M', b, hw', hg, hf, hlm, hE, hcr⟩ := arr_freeze hw hn
  obtain ⟨p, z, hE2, rfl⟩ := hx
  rw [hE] at hE2
  cases hE2
  obtain ⟨a, b', hk2, hab, hbn, hrun⟩ := cutK_sound (P := P) (w := w) lo hi lv hv l.length l.length false _ r h (Nat.le_refl _) hl hl0 hh hh0
  have hcut := cut_CR t' l _ l.length a b' hab hbn hf hcr
  refine ⟨_, _, _, w, _, hk2, ?_, hw', hg, ⟨hf, hcut⟩⟩
  have hz := sizeOk hΘ hsz w
  simp only [Instr.sliceAt, Sem.run_bind, run_underlying hu]
  simp [Instr.sureAddr, ← hlm, hrun, hz]
  split <;> rfl
 ·cases h
theorem cutX_sound {R : Type} {g : G} {w : World} (lo hi : Option AV) (lv hv : Option Value) (n d c : Nat) (isSlice : Bool) (k : Nat → Nat → Option R) (r : R) (h : cutX lo hi n d k = some r) (hnd : n ≤ d) (hdc : d ≤ c)
  (hl : ∀ a, lo = some a → ∃ v, lv = some v ∧ VR g a v) (hl0 : lo = none → lv = none) (hh : ∀ a, hi = some a → ∃ v, hv = some v ∧ VR g a v) (hh0 : hi = none → hv = none) :
  ∃ a b, k a b = some r ∧ a ≤ b ∧ b ≤ d ∧ (Instr.sliceBounds isSlice n c lv hv none).run P w = .ok (a, b, c) w := by
 unfold cutX at h
 split at h
 case h_2 => cases h
 rename_i lo' hi' h1 h2
 unfold cutW at h
 rcases optI_some h1 hl hl0 with ⟨rfl, rfl⟩ | ⟨a, k1, rfl, rfl⟩ <;> rcases optI_some h2 hh hh0 with ⟨rfl, rfl⟩ | ⟨b, k2, rfl, rfl⟩ <;> simp only at h
 ·exact ⟨0, n, h, Nat.zero_le _, hnd, by simp [Instr.sliceBounds]⟩
 ·split at h
  case isFalse => cases h
  rename_i hb
  obtain ⟨hb1, hb2⟩ := hb
  refine ⟨0, b.toNat, h, Nat.zero_le _, by omega, ?_⟩
  have : b ≤ (c : Int) := by omega
  simp [Instr.sliceBounds, Instr.sliceBound, asIntOf, hb1, this]
 ·split at h
  case isFalse => cases h
  rename_i hb
  obtain ⟨hb1, hb2⟩ := hb
  refine ⟨a.toNat, n, h, by omega, hnd, ?_⟩
  simp [Instr.sliceBounds, Instr.sliceBound, asIntOf, hb1, hb2]
 ·split at h
  case isFalse => cases h
  rename_i hb
  obtain ⟨hb1, hb2, hb3⟩ := hb
  refine ⟨a.toNat, b.toNat, h, by omega, by omega, ?_⟩
  have h1 : 0 ≤ b := by omega
  have h2 : b ≤ (c : Int) := by omega
  have h3 : a ≤ (b.toNat : Int) := by omega
  have h4 : a ≤ max b 0 := by omega
  simp [Instr.sliceBounds, Instr.sliceBound, asIntOf, hb1, h1, h2, h3, h4]
theorem win_sound {R : Type} {Θ : Nat → TD} (hΘ : TOk P Θ) {B : Base} {g : G} {o : Objs} {w : World} (hw : WInv B g o w) (t : Nat) (x : AV) (v : Value) (lo hi : Option AV) (lv hv : Option Value) (κ : AV → Objs → Option R) (r : R)
  (h : winK Θ t x lo hi o (fun v => κ v o) = some r) (hx : VR g x v)
  (hl : ∀ a, lo = some a → ∃ v, lv = some v ∧ VR g a v) (hl0 : lo = none → lv = none) (hh : ∀ a, hi = some a → ∃ v, hv = some v ∧ VR g a v) (hh0 : hi = none → hv = none) :
  SOk P B g w κ r (Instr.sliceAt t v lv hv none) := by
 unfold winK at h
 split at h
 ·rename_i hk
  have hu := str_of hΘ hk
  split at h
  ·rename_i s
   obtain ⟨a, b, hk2, hab, hbn, hrun⟩ := cutK_sound (P := P) (w := w) lo hi lv hv s.size s.size false _ r h (Nat.le_refl _) hl hl0 hh hh0
   rw [show v = _ from hx]
   exact SOk.quiet hw _ (.string (s.extract a b)) hk2 (by simp [Instr.sliceAt, Instr.slice, run_underlying hu, hrun]) rfl
  ·cases h
 ·rename_i e hk
  have hu := sl_of hΘ hk
  have run : ∀ (A : Option Addr) (n c sz a b : Nat), (sizeOf e).run P w = .ok sz w → (Instr.sliceBounds true n c lv hv none).run P w = .ok (a, b, c) w →
    (Instr.sliceAt t (.slice A n c) lv hv none).run P w = .ok (.slice (if c = a then A else A.map (·.add (a * sz))) (b - a) (c - a)) w := by
   intro A n c sz a b hsz hb
   simp [Instr.sliceAt, Instr.slice, run_underlying hu, hb, hsz]
  split at h
  ·rename_i t' l
   split at h
   case isFalse => cases h
   rename_i hsz
   obtain ⟨hf, hcr⟩ := hx
   have hcr' := hcr
   obtain ⟨A, c, e1, hlc, hxx⟩ := hcr
   cases e1
   obtain ⟨a, b, hk2, hab, hbn, hrun⟩ := cutK_sound (P := P) (w := w) lo hi lv hv l.length c true _ r h hlc hl hl0 hh hh0
   exact SOk.quiet hw _ _ hk2 (run A _ c _ a b (sizeOk hΘ hsz w) hrun) ⟨hf, cut_CR t' l A c a b hab hbn hf hcr'⟩
  ·rename_i n
   split at h
   case h_2 => cases h
   rename_i e' t' l frz hn
   split at h
   case isFalse => cases h
   rename_i hsz
   obtain ⟨z, hE, _⟩ := hx
   obtain ⟨v', ws, hE2, hf, ho, hr, hm⟩ := hw.objs n _ hn
   rw [hE2] at hE
   cases hE
   obtain ⟨A, c, rfl, hlc⟩ := row_slice ho
   obtain ⟨a, b, hk2, hab, hbn, hrun⟩ := cutX_sound (P := P) (w := w) lo hi lv hv l.length l.length c true _ r h (Nat.le_refl _) hlc hl hl0 hh hh0
   refine SOk.quiet hw _ _ hk2 (run A _ c _ a b (sizeOk hΘ hsz w) hrun) ⟨A, l.length, c, t'.sz, _, hE2, hab, by omega, fun ha => ?_, fun _ hc => by rw [if_neg (by omega)], rfl⟩
   subst ha
   split
   ·rfl
   ·rcases ho.2 with ⟨e1, _⟩ | ⟨bk, cap', cur, fz, e1, _⟩
    ·injection e1 with p1 _ _; subst p1; rfl
    ·injection e1 with p1 _ _; subst p1; simp [Addr.add_lit]
  ·rename_i n a0 b0
   split at h
   case h_2 => cases h
   rename_i e' t' l frz hn
   split at h
   case isFalse => cases h
   rename_i hsz
   split at h
   case isFalse => cases h
   rename_i hc
   obtain ⟨hab0, hb0⟩ := hc
   obtain ⟨A, len, cap, z, A', hE, _, hcap, hA0, hA1, rfl⟩ := hx
   obtain ⟨v', ws, hE2, hf, ho, hr, hm⟩ := hw.objs n _ hn
   rw [hE2] at hE
   cases hE
   obtain ⟨A2, c2, e2, hlc⟩ := row_slice ho
   cases e2
   obtain ⟨a, b, hk2, hab, hbn, hrun⟩ := cutX_sound (P := P) (w := w) lo hi lv hv (b0 - a0) (l.length - a0) (cap - a0) true _ r h (by omega) (by omega) hl hl0 hh hh0
   have e1 : b - a = a0 + b - (a0 + a) := by omega
   have e2 : cap - a0 - a = cap - (a0 + a) := by omega
   refine SOk.quiet hw _ _ hk2 (run A' _ (cap - a0) _ a b (sizeOk hΘ hsz w) hrun) ⟨A, l.length, cap, t'.sz, _, hE2, by omega, by omega, fun ha => ?_, fun h0 hc => ?_, by rw [e1, e2]⟩
   ·have ha0 : a0 = 0 := by omega
    have ha1 : a = 0 := by omega
    subst ha0; subst ha1
    rw [hA0 rfl]
    split
    ·rfl
    ·rcases ho.2 with ⟨e1, _⟩ | ⟨bk, cap', cur, fz, e1, _⟩
     ·injection e1 with p1 _ _; subst p1; rfl
     ·injection e1 with p1 _ _; subst p1; simp [Addr.add_lit]
   ·rw [if_neg (by omega)]
    rcases ho.2 with ⟨e1, _⟩ | ⟨bk, cap', cur, fz, e1, _⟩
    ·injection e1 with p1 _ p3; omega
    ·injection e1 with p1 _ _
     subst p1
     rw [win_ptr rfl hA0 hA1 (by omega)]
     simp [Addr.add_lit, Nat.add_mul]
  ·cases h
 ·cases h
theorem win3_sound {R : Type} {Θ : Nat → TD} (hΘ : TOk P Θ) {B : Base} {g : G} {o : Objs} {w : World} (hw : WInv B g o w) (t : Nat) (x : AV) (v : Value) (lo hi : Option AV) (mx : AV) (lv hv : Option Value) (mv : Value) (κ : AV → Objs → Option R) (r : R)
  (h : win3K Θ t x lo hi mx o (fun v => κ v o) = some r) (hx : VR g x v)
  (hl : ∀ a, lo = some a → ∃ v, lv = some v ∧ VR g a v) (hl0 : lo = none → lv = none) (hh : ∀ a, hi = some a → ∃ v, hv = some v ∧ VR g a v) (hh0 : hi = none → hv = none) (hm : VR g mx mv) :
  SOk P B g w κ r (Instr.sliceAt t v lv hv (some mv)) := by
 unfold win3K at h
 split at h
 case h_2 => cases h
 rename_i e hk
 have hu := sl_of hΘ hk
 split at h
 case h_2 => cases h
 rename_i n
 split at h
 case h_2 => cases h
 rename_i e' t' l frz hn
 split at h
 case isFalse => cases h
 rename_i hsz
 obtain ⟨z, hE, _⟩ := hx
 obtain ⟨v', ws, hE2, hf, ho, hr, hm2⟩ := hw.objs n _ hn
 rw [hE2] at hE
 cases hE
 obtain ⟨A, c, rfl, hlc⟩ := row_slice ho
 split at h
 case h_2 => cases h
 rename_i lo' b m h1 h2 h3
 split at h
 case isFalse => cases h
 rename_i hb
 obtain ⟨hb0, hbm, hml⟩ := hb
 rcases optI_some h2 hh hh0 with ⟨hc, _⟩ | ⟨b', k2, hc, rfl⟩
 ·cases hc
 cases hc
 rcases optI_some (lv := some mv) h3 (fun a ha => ⟨mv, rfl, by cases ha; exact hm⟩) (fun hc => by cases hc) with ⟨hc, _⟩ | ⟨m', k3, hc, hc2⟩
 ·cases hc
 cases hc
 cases hc2
 have hm0 : 0 ≤ m := by omega
 have hmc : m ≤ (c : Int) := by omega
 have hbm2 : b ≤ (m.toNat : Int) := by omega
 have hbm3 : b ≤ max m 0 := by omega
 rcases optI_some h1 hl hl0 with ⟨rfl, rfl⟩ | ⟨a, k1, rfl, rfl⟩
 ·simp only at h
  refine SOk.quiet hw _ (.slice (if m.toNat = 0 then A else A.map (·.add (0 * t'.sz))) (b.toNat - 0) (m.toNat - 0)) h ?_ trivial
  simp [Instr.sliceAt, Instr.slice, run_underlying hu, Instr.sliceBounds, Instr.sliceBound, asIntOf, hm0, hmc, hb0, hbm3, sizeOk hΘ hsz w]
 ·simp only at h
  split at h
  case isFalse => cases h
  rename_i ha
  obtain ⟨ha0, hab⟩ := ha
  have hab2 : a ≤ max b 0 := by omega
  refine SOk.quiet hw _ (.slice (if m.toNat = a.toNat then A else A.map (·.add (a.toNat * t'.sz))) (b.toNat - a.toNat) (m.toNat - a.toNat)) h ?_ trivial
  simp [Instr.sliceAt, Instr.slice, run_underlying hu, Instr.sliceBounds, Instr.sliceBound, asIntOf, hm0, hmc, hb0, hbm3, ha0, hab2, sizeOk hΘ hsz w]
theorem selK_sound {R : Type} (i : Int) (k : Nat → Option R) (r : R) : ∀ (zs : List Int) (j : Nat), selK i zs j k = some r → (∀ q z, zs[q]? = some z → z = ((j + q : Nat) : Int)) → ∃ q, j ≤ q ∧ q < j + zs.length ∧ i = (q : Int) ∧ k q = some r
 | [], j, h, _ => by cases h
 | z :: zs, j, h, hz => by
  unfold selK at h
  split at h
  ·rename_i e
   have h0 := hz 0 z rfl
   exact ⟨j, Nat.le_refl _, by simp, by rw [beq_iff_eq.1 e, h0]; simp, h⟩
  ·obtain ⟨q, h1, h2, h3, h4⟩ := selK_sound i k r zs (j + 1) h fun q z' hq => by
    rw [hz (q + 1) z' (by simpa using hq)]
    congr 1
    omega
   exact ⟨q, by omega, by simp; omega, h3, h4⟩
theorem ints32_at (q : Nat) (z : Int) (h : ints32[q]? = some z) : z = (q : Int) := by
 have hq : q < 32 := (List.getElem?_eq_some_iff.1 h).1
 have key : ∀ q : Nat, q < 32 → ints32[q]? = some (q : Int) := by decide
 rw [key q hq] at h
 exact (Option.some.inj h).symm
theorem index_sound {R : Type} {Θ : Nat → TD} (hΘ : TOk P Θ) {B : Base} {g : G} {o : Objs} {w : World} (hw : WInv B g o w) (t : Nat) (x : AV) (v : Value) (k : IntKind) (i : Int) (κ : AV → Objs → Option R) (r : R)
  (hx : VR g x v) (h : indexK Θ t x i (fun v => κ v o) = some r) : SOk P B g w κ r (Instr.index t v (.int k i)) := by
 unfold indexK at h
 split at h
 ·rename_i hk
  have hu := str_of hΘ hk
  split at h
  ·rename_i s
   split at h
   case h_2 => cases h
   rename_i b hi
   obtain ⟨h0, hlt, hb⟩ := idx_some hi
   rw [show v = _ from hx]
   have hs : s[i.toNat]? = some b := by
    have hlt' : i.toNat < s.size := by simpa using hlt
    have : s.data[i.toNat]? = some b := by simpa using hb
    rw [getElem?_pos s i.toNat hlt']
    have h2 : s.data[i.toNat] = b := by
     have h3 := Array.getElem?_eq_getElem (xs := s.data) (i := i.toNat) hlt'
     rw [h3] at this
     exact Option.some.inj this
    exact congrArg some h2
   exact SOk.quiet hw _ (.int .u8 b.toNat) h (by simp [Instr.index, asIntOf, run_underlying hu, h0, hs]) rfl
  ·cases h
 ·rename_i m e hk
  have hu := arr_of hΘ hk
  split at h
  ·rename_i m' t' l
   split at h
   case isFalse => cases h
   rename_i hc
   obtain ⟨rfl, hsz⟩ := hc
   split at h
   case h_2 => cases h
   rename_i y hi
   obtain ⟨h0, hlt, hy⟩ := idx_some hi
   obtain ⟨hf, hlm, ws, rfl, hr⟩ := hx
   obtain ⟨a, hca, hal, had⟩ := RR_get t' l ws hr i.toNat y hy
   have hb : 0 ≤ i ∧ i < (m' : Int) := ⟨h0, by omega⟩
   -- the element's cells stand at its place
   have hlv := leaves_VRL t' y a hf hca
   have hpart : ∃ av u, κ av o = some r ∧ VR g av u ∧ (part e ws.toArray (i.toNat * t'.sz)).run P w = .ok u w := by
    have hwl := RR_length t' l ws hr
    have hmul : i.toNat * t'.sz + t'.sz ≤ l.length * t'.sz := by
     have : (i.toNat + 1) * t'.sz ≤ l.length * t'.sz := Nat.mul_le_mul_right _ hlt
     rw [Nat.add_mul] at this; omega
    have hszE : (Θ e).sz = t'.sz := by simp only [szOk, Bool.and_eq_true, beq_iff_eq] at hsz; exact hsz.2
    -- cells in front, so that the element begins at its offset
    have hdrop : ((List.replicate (i.toNat * t'.sz) AV.dead ++ leaves t' y).drop (i.toNat * t'.sz)) = leaves t' y := by
     rw [List.drop_append_of_le_length (by simp)]; simp
    refine fromPart_sound' hΘ (w := w) e (leaves t' y) ws (i.toNat * t'.sz) (fun v => κ v o) r h a hlv ?_ (by rw [hal]; exact had) (by rw [hal, hszE]) (RR_one t' l ws hr)
    omega
   obtain ⟨av, u, hk2, hv2, hrun⟩ := hpart
   exact SOk.quiet hw av u hk2 (by simp [Instr.index, asIntOf, run_underlying hu, hb, sizeOk hΘ hsz w, hrun]) hv2
  ·rename_i cs
   split at h
   case isFalse => cases h
   rename_i hc
   obtain ⟨hok, hpos, hlen, hm32⟩ := hc
   obtain ⟨ws, rfl, hcs, h1⟩ := hx
   obtain ⟨q, _, hq, rfl, hq2⟩ := selK_sound i _ r _ 0 h fun q z hz => by
    rw [List.getElem?_take] at hz
    split at hz
    ·rw [Nat.zero_add]; exact ints32_at q z hz
    ·cases hz
   have hqm : q < m := by
    rw [List.length_take] at hq; omega
   have hl := VRL_length hcs
   have hmul : q * (Θ e).sz + (Θ e).sz ≤ m * (Θ e).sz := by
    have : (q + 1) * (Θ e).sz ≤ m * (Θ e).sz := Nat.mul_le_mul_right _ hqm
    rw [Nat.add_mul] at this; omega
   have hla : ((ws.drop (q * (Θ e).sz)).take (Θ e).sz).length = (Θ e).sz := by rw [List.length_take, List.length_drop]; omega
   obtain ⟨av, u, hk2, hv2, hrun⟩ := fromPart_sound' hΘ (w := w) e _ ws (q * (Θ e).sz) (fun v => κ v o) r hq2 ((ws.drop (q * (Θ e).sz)).take (Θ e).sz) (VRL_take (Θ e).sz (VRL_drop (q * (Θ e).sz) hcs)) (by rw [hla]; omega) (by rw [hla]) hla h1
   have hb : 0 ≤ (q : Int) ∧ (q : Int) < (m : Int) := ⟨by omega, by omega⟩
   obtain ⟨ie, de, ze, hie, hue, hke, hse, _⟩ := (hΘ.ok hok).row
   have hso : (sizeOf e).run P w = .ok (Θ e).sz w := by simp [sizeOf, typeInfo, hie, hse]
   have hqlt : q < m := hqm
   exact SOk.quiet hw av u hk2 (by simp [Instr.index, asIntOf, run_underlying hu, hqlt, hso, hrun]) hv2
  ·cases h
 ·cases h
end Go.Den
set_option linter.unusedVariables false
set_option linter.unusedSimpArgs false
namespace Go.Den
variable {P : Program}
def valS (s : Sem Value) : Sem Next := do pure (.value (← s))
theorem run_valS {s : Sem Value} {w w' : World} {v : Value} (h : s.run P w = .ok v w') : (valS s).run P w = .ok (.value v) w' := by
 simp [valS, h]
theorem guard_plain (op : BinOp) (t : TypeId) (x y : Operand) (a b : Value) (w : World) (h1 : ∀ u v, ¬ (a = .agg u ∧ b = .agg v)) (h2 : ¬ (a = .nilIface ∧ b = .nilIface)) : (eqGuard op t x y a b).run P w = .ok () w := by
 unfold eqGuard
 by_cases hop : op = .eql ∨ op = .neq
 ·rcases hop with rfl | rfl <;>
  ·simp only [Bool.not_true, Bool.false_eq_true, if_false]
   split
   ·exact absurd ⟨rfl, rfl⟩ h2
   ·rename_i u v; exact absurd ⟨rfl, rfl⟩ (h1 u v)
   ·simp
 ·cases op <;> simp at hop ⊢
theorem equalIn_bool (d : Nat) {t : TypeId} (hu : P.underlying t = some .bool) (a b : Bool) (w : World) : (Op.equalIn (d + 1) t (.bool a) (.bool b)).run P w = .ok (a == b) w := by
 simp [Op.equalIn, run_underlying hu]
theorem equalIn_ptr_nil (d : Nat) {t e : TypeId} (hu : P.underlying t = some (.pointer e)) (p : Addr) (w : World) : (Op.equalIn (d + 1) t (.pointer (some p)) (.pointer none)).run P w = .ok false w := by
 simp [Op.equalIn, run_underlying hu]
theorem equalIn_nil_nil (d : Nat) {t e : TypeId} (hu : P.underlying t = some (.pointer e)) (w : World) : (Op.equalIn (d + 1) t (.pointer none) (.pointer none)).run P w = .ok true w := by
 simp [Op.equalIn, run_underlying hu]
theorem equal_bool {t : TypeId} (hu : P.underlying t = some .bool) (a b : Bool) (w : World) : (Op.equal t (.bool a) (.bool b)).run P w = .ok (a == b) w := equalIn_bool 9999 hu a b w
theorem equal_ptr_nil {t e : TypeId} (hu : P.underlying t = some (.pointer e)) (p : Addr) (w : World) : (Op.equal t (.pointer (some p)) (.pointer none)).run P w = .ok false w := equalIn_ptr_nil 9999 hu p w
theorem equal_nil_nil {t e : TypeId} (hu : P.underlying t = some (.pointer e)) (w : World) : (Op.equal t (.pointer none) (.pointer none)).run P w = .ok true w := equalIn_nil_nil 9999 hu w
def binS (op : BinOp) (t : TypeId) (x y : Operand) (a b : Value) : Sem Value := do eqGuard op t x y a b; binOp op t a b
theorem nilEq_sound {R : Type} {B : Base} {g : G} {o : Objs} {w : World} (hw : WInv B g o w) (op : BinOp) (t : TypeId) (x y : Operand) (a b : Value) (c : Bool) (κ : AV → Objs → Option R) (r : R)
  (h : nilEq op c (fun v => κ v o) = some r) (hg : (eqGuard op t x y a b).run P w = .ok () w) (he : (Op.equal t a b).run P w = .ok c w)
  (hb1 : binOp .eql t a b = (do let c ← Op.equal t a b; pure (.bool c) : Sem Value)) (hb2 : binOp .neq t a b = (do let c ← Op.equal t a b; pure (.bool (!c)) : Sem Value)) : SOk P B g w κ r (binS op t x y a b) := by
 unfold nilEq at h
 split at h
 ·refine SOk.quiet hw _ (.bool c) h ?_ rfl
  simp [binS, hg, hb1, he]
 ·refine SOk.quiet hw _ (.bool (!c)) h ?_ rfl
  simp [binS, hg, hb2, he]
 ·cases h
theorem intK_sound {R : Type} {B : Base} {g : G} {o : Objs} {w : World} (hw : WInv B g o w) (op : BinOp) (t : TypeId) (x y : Operand) (k : IntKind) (a b : Int) (κ : AV → Objs → Option R) (r : R)
  (h : intK op k a b (fun v => κ v o) = some r) : SOk P B g w κ r (binS op t x y (.int k a) (.int k b)) := by
 have hg := guard_plain (P := P) op t x y (.int k a) (.int k b) w (by rintro u v ⟨h, _⟩; cases h) (by rintro ⟨h, _⟩; cases h)
 cases op with
 | add => exact SOk.quiet hw _ (.int k (k.wrap (a + b))) h (by simp [binS, hg, binOp, Op.intArith]) rfl
 | sub => exact SOk.quiet hw _ (.int k (k.wrap (a - b))) h (by simp [binS, hg, binOp, Op.intArith]) rfl
 | mul => exact SOk.quiet hw _ (.int k (k.wrap (a * b))) h (by simp [binS, hg, binOp, Op.intArith]) rfl
 | quo =>
  simp only [intK] at h
  split at h
  ·cases h
  ·rename_i hb
   exact SOk.quiet hw _ (.int k (k.wrap (a.tdiv b))) h (by simp [binS, hg, binOp, Op.intDiv, hb]) rfl
 | rem =>
  simp only [intK] at h
  split at h
  ·cases h
  ·rename_i hb
   exact SOk.quiet hw _ (.int k (a.tmod b)) h (by simp [binS, hg, binOp, Op.intDiv, hb]) rfl
 | and => exact SOk.quiet hw _ (.int k (bits .and k a b)) h (by simp [binS, hg, binOp, Op.intBits, bits]) rfl
 | or => exact SOk.quiet hw _ (.int k (bits .or k a b)) h (by simp [binS, hg, binOp, Op.intBits, bits]) rfl
 | xor => exact SOk.quiet hw _ (.int k (bits .xor k a b)) h (by simp [binS, hg, binOp, Op.intBits, bits]) rfl
 | andNot => exact SOk.quiet hw _ (.int k (bits .andNot k a b)) h (by simp [binS, hg, binOp, Op.intBits, bits]) rfl
 | eql => exact SOk.quiet hw _ (.bool (a == b)) h (by simp [binS, hg, binOp, Op.intCmp]) rfl
 | neq => exact SOk.quiet hw _ (.bool (a != b)) h (by simp [binS, hg, binOp, Op.intCmp]) rfl
 | lss => exact SOk.quiet hw _ (.bool (decide (a < b))) h (by simp [binS, hg, binOp, Op.intCmp]) rfl
 | leq => exact SOk.quiet hw _ (.bool (decide (a ≤ b))) h (by simp [binS, hg, binOp, Op.intCmp]) rfl
 | gtr => exact SOk.quiet hw _ (.bool (decide (a > b))) h (by simp [binS, hg, binOp, Op.intCmp]) rfl
 | geq => exact SOk.quiet hw _ (.bool (decide (a ≥ b))) h (by simp [binS, hg, binOp, Op.intCmp]) rfl
 | _ => simp [intK] at h
theorem shiftK_sound {R : Type} {B : Base} {g : G} {o : Objs} {w : World} (hw : WInv B g o w) (left : Bool) (t : TypeId) (x y : Operand) (k k' : IntKind) (a b : Int) (κ : AV → Objs → Option R) (r : R)
  (h : shiftK left k a b (fun v => κ v o) = some r) : SOk P B g w κ r (binS (if left then .shl else .shr) t x y (.int k a) (.int k' b)) := by
 have hg := fun op => guard_plain (P := P) op t x y (.int k a) (.int k' b) w (by rintro u v ⟨h, _⟩; cases h) (by rintro ⟨h, _⟩; cases h)
 unfold shiftK at h
 split at h
 ·cases h
 ·rename_i hb
  cases left
  ·exact SOk.quiet hw _ (.int k (a.fdiv (2 ^ (min b.toNat k.bits)))) h (by simp [binS, hg, binOp, Op.shift, hb]) rfl
  ·exact SOk.quiet hw _ (.int k (k.wrap (a * 2 ^ (min b.toNat k.bits)))) h (by simp [binS, hg, binOp, Op.shift, hb]) rfl
theorem strK_sound {R : Type} {B : Base} {g : G} {o : Objs} {w : World} (hw : WInv B g o w) (op : BinOp) (t : TypeId) (x y : Operand) (a b : ByteArray) (κ : AV → Objs → Option R) (r : R)
  (h : (match op with
  | .add => if a.size + b.size ≤ 1099511627776 then κ (.d .str (a ++ b)) o else none
  | .eql => κ (.d .bool (a.toList == b.toList)) o
  | .neq => κ (.d .bool (!(a.toList == b.toList))) o
  | .lss => κ (.d .bool (Op.bytesLess a.toList b.toList)) o
  | _ => none) = some r) : SOk P B g w κ r (binS op t x y (.string a) (.string b)) := by
 have hg := guard_plain (P := P) op t x y (.string a) (.string b) w (by rintro u v ⟨h, _⟩; cases h) (by rintro ⟨h, _⟩; cases h)
 cases op with
 | add =>
  simp only at h
  split at h
  ·rename_i hs
   have hn : ¬ (9223372036854775807 < ((a.size : Int) + (b.size : Int))) := by omega
   exact SOk.quiet hw _ (.string (a ++ b)) h (by simp [binS, hg, binOp, Op.stringOp, show IntKind.i64.max = 9223372036854775807 from rfl, hn]) rfl
  ·cases h
 | eql => exact SOk.quiet hw _ (.bool (a.toList == b.toList)) h (by simp [binS, hg, binOp, Op.stringOp]) rfl
 | neq => exact SOk.quiet hw _ (.bool (!(a.toList == b.toList))) h (by simp [binS, hg, binOp, Op.stringOp]) rfl
 | lss => exact SOk.quiet hw _ (.bool (Op.bytesLess a.toList b.toList)) h (by simp [binS, hg, binOp, Op.stringOp]) rfl
 | _ => simp at h
theorem unary_not {w : World} (b : Bool) : (Op.unary .not (.bool b)).run P w = .ok (.bool (!b)) w := by simp [Op.unary]
theorem unary_neg {w : World} (k : IntKind) (n : Int) : (Op.unary .neg (.int k n)).run P w = .ok (.int k (k.wrap (0 - n))) w := by simp [Op.unary, Op.intArith]
theorem unary_xor {w : World} (k : IntKind) (n : Int) : (Op.unary .xor (.int k n)).run P w = .ok (.int k (bits .xor k (if k.signed then -1 else k.max) n)) w := by simp [Op.unary, Op.intBits, bits]
theorem new_data {B : Base} {g : G} {o : Objs} {w w' : World} (h : WInv B g o w) (hw : w.grownBy w' none) (M' : Mem) (hlo : ∀ a : Addr, a.block < w.heap.size → M' a = g.M a)
  (hhi : ∀ (a : Addr) v, w.heap.size ≤ a.block → M' a = some v → w'.cell? a = some v ∧ v.oneCell' = true) : WInv B ⟨M', g.E⟩ o w' ∧ GE g ⟨M', g.E⟩ := by
 have hgrow : ∀ a v, g.M a = some v → M' a = some v := fun a v ha => by rw [hlo a (World.block_lt_of_cell? w a (h.mem a v ha).1)]; exact ha
 have hg : GE g ⟨M', g.E⟩ := ⟨hgrow, fun _ _ e => e⟩
 refine ⟨⟨?_, h.dom, h.apart, ?_, ?_, fun a v ha => hgrow a v (h.grow a v ha), ?_, h.mine, h.glob⟩, hg⟩
 ·intro n x hn
  refine OR_keep (h.objs n x hn) hg fun b hb hl => ?_
  have hlt := OR_blk (h.objs n x hn) hl b hb
  exact ⟨hw.block b hlt (by simp), fun a ha => hlo a (by omega)⟩
 ·intro a v ha
  change M' a = some v at ha
  rcases Nat.lt_or_ge a.block w.heap.size with hlt | hge
  ·rw [hlo a hlt] at ha
   obtain ⟨hc, h1⟩ := h.mem a v ha
   rw [World.cell?_of_block (hw.block a.block hlt (by simp))]
   exact ⟨hc, h1⟩
  ·exact hhi a v hge ha
 ·exact ⟨hw.os.trans h.ext.os, hw.tape.trans h.ext.tape, hw.output.trans h.ext.output, Nat.le_trans h.ext.size hw.size, fun b hb hX => (hw.block b (Nat.lt_of_lt_of_le hb h.ext.size) (by simp)).trans (h.ext.block b hb hX)⟩
 ·intro a ha hX
  exact (hlo a (Nat.lt_of_lt_of_le ha h.ext.size)).trans (h.old a ha hX)
theorem grown_bytes (w : World) (e : TypeId) (s : ByteArray) : w.grownBy (Lib.bytesWorld w e s) none :=
 ⟨rfl, rfl, rfl, by rw [Lib.bytesWorld_size]; omega, fun k hk _ => Lib.bytesWorld_at_old w e s k hk⟩
theorem conv_sound {R : Type} {Θ : Nat → TD} (hΘ : TOk P Θ) {B : Base} {g : G} {o : Objs} {w : World} (hw : WInv B g o w) (src dst : Nat) (N : Nat) (x : AV) (v : Value) (κ : AV → Objs → Option R) (r : R)
  (h : convK Θ src dst N x o κ = some r) (hx : VR g x v) : SOk P B g w κ r (convert src dst v) := by
 unfold convK at h
 split at h
 ·rename_i ks k kn n hs hd
  rw [show v = _ from hx]
  exact SOk.quiet hw _ (.int k (k.wrap n)) h (by simp [convert, run_underlying (int_of hΘ hs), run_underlying (int_of hΘ hd), Conv.intToInt]) rfl
 ·rename_i s hs hd
  rw [show v = _ from hx]
  exact SOk.quiet hw _ (.string s) h (by simp [convert, run_underlying (str_of hΘ hs), run_underlying (str_of hΘ hd)]) rfl
 ·rename_i e s hs hd
  split at h
  ·rename_i he
   split at h
   case isFalse => cases h
   rename_i hlim
   rw [show v = _ from hx]
   have hrun := Lib.run_convert_string_bytes (P := P) w src dst e s (str_of hΘ hs) (sl_of hΘ hd) (int_of hΘ he)
   unfold newK at h
   split at h
   case h_2 => cases h
   rename_i hfree
   have hlen : (bytesOf s).length = s.size := by simp [bytesOf]
   have hrr : ∀ (l : List UInt8), RR g.M (.int .u8) (l.map fun b => (b.toNat : Int)) (l.map fun b => Value.int .u8 b.toNat) := by
    intro l
    induction l with
    | nil => rfl
    | cons b l ih => exact ⟨[.int .u8 b.toNat], _, rfl, rfl, ih⟩
   have hge := grownCap_ge w s.size 0 e
   have hcm := grownCap_le_maxLen w s.size 0 e (by simp only [maxLen, lim] at hlim ⊢; omega)
   have hsz : (Lib.bytesCells w e s).size = grownCap w s.size 0 e := by
    unfold Lib.bytesCells
    simp only [Array.size_append, Array.size_map, Array.size_replicate, ByteArray.size_data]
    omega
   have hown : (Lib.bytesWorld w e s).ownsR 0 e 1 (.slice (some ⟨w.heap.size, 0, none⟩) s.size (grownCap w s.size 0 e)) (bytesOf s).length (s.data.toList.map fun b => Value.int .u8 b.toNat) := by
    refine ⟨by simp [bytesOf], .inr ⟨w.heap.size, _, _, _, by rw [hlen], Nat.zero_le _, Lib.bytesWorld_at_new w e s, .inr (Nat.le_refl _), by rw [hlen]; exact hge, hcm, by rw [hsz, Nat.mul_one], ?_⟩⟩
    unfold Lib.bytesCells
    simp only [Array.toList_append, Array.toList_map]
    exact List.take_left' (by simp [bytesOf])
   exact ⟨_, _, _, _, _, h, hrun, new_row hw hfree e (.int .u8) (bytesOf s) _ _ false rfl (hrr _) hown (grown_bytes w e s) (.inr rfl), setE_ge hw hfree _, ⟨1, setE_at _ _ _, rfl⟩⟩
  ·cases h
 ·rename_i x' e hs hd
  split at h
  ·rename_i he
   have hs' := sl_of hΘ hs
   have hd' := str_of hΘ hd
   have he' := int_of hΘ he
   have fin : ∀ (A : Option Addr) (l : List Int) (c : Nat) (κr : κ (.d .str (strOf l)) o = some r), (A = none → l = []) → (∀ ad, A = some ad → ∀ i, i < l.length → w.cell? (ad.add i) = some (.int .u8 (l.getD i 0))) →
     SOk P B g w κ r (convert src dst (.slice A l.length c)) := by
    intro A l c κr hn hc
    cases A with
    | none =>
     have := hn rfl
     subst this
     exact SOk.quiet hw _ (.string ByteArray.empty) κr (run_convert_bytes_nil w src e hs' he' 0 c dst hd') rfl
    | some ad =>
     cases hl : l with
     | nil =>
      subst hl
      refine SOk.quiet hw _ (.string ByteArray.empty) κr ?_ rfl
      rw [run_convert_bytes_string w src dst e (some ad) _ c hs' he' hd']
      simp [Conv.bytesToString, loadCells, loadCellsFrom]
     | cons z zs =>
      rw [← hl]
      have h0 := hc ad rfl 0 (by rw [hl]; simp)
      have hsp := World.cell?_spot h0
      obtain ⟨b, off, rfl⟩ : ∃ b off, ad = ⟨b, off, none⟩ := by
       cases ad
       simp [Addr.add] at hsp
       subst hsp
       exact ⟨_, _, rfl⟩
      refine SOk.quiet hw _ _ κr (run_convert_bytes_arg w src e hs' he' b off l.length c l rfl (fun i hi => ?_) dst hd') rfl
      have := hc _ rfl i hi
      have e2 : (⟨b, off, none⟩ : Addr).add i = ⟨b, off + i, none⟩ := by
       unfold Addr.add
       split
       ·rename_i h0; subst h0; rfl
       ·rfl
      rw [e2] at this
      exact this
   split at h
   ·cases h
   ·cases h
   rename_i hns hnw
   unfold elemsK at h
   split at h
   ·rename_i t' l
    split at h
    ·rename_i ht
     subst ht
     obtain ⟨hf, hcr⟩ := hx
     have hcr' := hcr
     obtain ⟨A, c, e1, hlc, hxx⟩ := hcr
     cases e1
     refine fin A l c h (fun hA => ?_) (fun ad hA i hi => ?_)
     ·cases l with
      | nil => rfl
      | cons z zs => obtain ⟨ad, ws, hA2, _⟩ := hxx 0 z rfl; rw [hA] at hA2; cases hA2
     ·obtain ⟨ad2, ws, hA2, hc2, hm⟩ := hxx i l[i] (List.getElem?_eq_getElem hi)
      rw [hA] at hA2
      cases hA2
      rw [show ws = [.int .u8 l[i]] from hc2] at hm
      have := (hw.mem _ _ (hm 0 _ rfl)).1
      rw [show i * (Ty.int .u8).sz + 0 = i from by show i * 1 + 0 = i; omega] at this
      rw [this, List.getD_eq_getElem?_getD, List.getElem?_eq_getElem hi]
      rfl
    ·cases h
   ·rename_i n
    split at h
    ·rename_i e2 t' l frz hn
     split at h
     ·rename_i ht
      subst ht
      obtain ⟨z, hE, _⟩ := hx
      obtain ⟨M', hw', hg, hf, hcr⟩ := freeze_sound hw hn hE
      obtain ⟨A, c, e1, hlc, hxx⟩ := hcr
      cases e1
      refine fin A l c h (fun hA => ?_) (fun ad hA i hi => ?_)
      ·cases l with
       | nil => rfl
       | cons z zs => obtain ⟨ad, ws, hA2, _⟩ := hxx 0 z rfl; rw [hA] at hA2; cases hA2
      ·obtain ⟨ad2, ws, hA2, hc2, hm⟩ := hxx i l[i] (List.getElem?_eq_getElem hi)
       rw [hA] at hA2
       cases hA2
       rw [show ws = [.int .u8 l[i]] from hc2] at hm
       have := (hw'.mem _ _ (hm 0 _ rfl)).1
       rw [show i * (Ty.int .u8).sz + 0 = i from by show i * 1 + 0 = i; omega] at this
       rw [this, List.getD_eq_getElem?_getD, List.getElem?_eq_getElem hi]
       rfl
     ·cases h
    ·cases h
   ·rename_i n a b; exact absurd rfl (hnw n a b)
   ·rw [show v = _ from hx]
    exact fin none [] 0 h (fun _ => rfl) (fun _ hA => by cases hA)
   ·rename_i s; exact absurd rfl (hns s)
   ·cases h
  ·cases h
 ·cases h
end Go.Den
set_option linter.unusedVariables false
set_option linter.unusedSimpArgs false
namespace Go.Den
variable {P : Program}
def partsR (g : G) : List (Nat × AV) → List (Nat × Value) → Prop
 | [], [] => True
 | (i, a) :: as, (j, v) :: vs => i = j ∧ VR g a v ∧ partsR g as vs
 | [], _ :: _ => False
 | _ :: _, [] => False
theorem partsR_mono {g g' : G} (h : GE g g') : ∀ (as : List (Nat × AV)) (vs : List (Nat × Value)), partsR g as vs → partsR g' as vs
 | [], [], _ => trivial
 | (i, a) :: as, (j, v) :: vs, ⟨e, hv, hr⟩ => ⟨e, VR_mono h a v hv, partsR_mono h as vs hr⟩
 | [], _ :: _, hx => hx.elim
 | _ :: _, [], hx => hx.elim
theorem parts_of {g : G} {s : List AV} {a : Act} (h : VRL g s a.tmps.toList) : ∀ ps : List (Nat × Operand), partsR g (ps.map fun p => (p.1, rho s p.2)) (ps.map fun p => (p.1, a.eval p.2))
 | [] => trivial
 | p :: ps => ⟨rfl, rho_VR h p.2, parts_of h ps⟩
theorem partsR_length {g : G} : ∀ {as : List (Nat × AV)} {vs : List (Nat × Value)}, partsR g as vs → as.length = vs.length
 | [], [], _ => rfl
 | (_, _) :: as, (_, _) :: vs, ⟨_, _, h⟩ => by simp [partsR_length h]
 | [], _ :: _, hx => hx.elim
 | _ :: _, [], hx => hx.elim
theorem inOrder_zip {g : G} : ∀ (as : List (Nat × AV)) (vs : List (Nat × Value)) (k : Nat), partsR g as vs → inOrder k as = true → vs = ((vs.map (·.2)).zipIdx k).map fun x => (x.2, x.1)
 | [], [], k, _, _ => rfl
 | (i, a) :: as, (j, v) :: vs, k, ⟨e, hv, hr⟩, ho => by
  simp only [inOrder, Bool.and_eq_true, beq_iff_eq] at ho
  obtain ⟨rfl, ho⟩ := ho
  subst e
  simp only [List.map_cons, List.zipIdx_cons]
  rw [← inOrder_zip as vs _ hr ho]
 | [], _ :: _, k, hx, _ => hx.elim
 | _ :: _, [], k, hx, _ => hx.elim
theorem partsK_sound {R : Type} {B : Base} {w : World} (t : Ty) (hf : t.flat = true) : ∀ (as : List (Nat × AV)) (vs : List (Nat × Value)) (g : G) (o : Objs) (κ : List t.I → Objs → Option R) (r : R),
  partsK t as o κ = some r → partsR g as vs → WInv B g o w → ∃ l o' g', κ l o' = some r ∧ WInv B g' o' w ∧ GE g g' ∧ RR g'.M t l ((vs.map (·.2)).flatMap fun v => v.cells.toList) ∧ l.length = as.length ∧ ∀ v ∈ vs.map (·.2), v.cells.size = t.sz
 | [], [], g, o, κ, r, h, _, hw => ⟨[], o, g, h, hw, GE.refl g, rfl, rfl, by simp⟩
 | (i, a) :: as, (j, v) :: vs, g, o, κ, r, h, ⟨e, hv, hr⟩, hw => by
  unfold partsK at h
  split at h
  case isFalse => cases h
  rename_i hc
  obtain ⟨hsz, hl1⟩ := hc
  obtain ⟨hcv, h1⟩ := cellsOf_sound hv hl1
  have hvl := VRL_length hcv
  obtain ⟨cs', o1, g1, hk, hcv1, hw1, hg1, hE1⟩ := resolveK_sound _ _ g o _ r h hcv hw
  obtain ⟨x, rest, v1, v2, hk2, e1, hcx, hrest⟩ := packK_sound t _ _ _ r hf hk hcv1
  have hv2 : v2 = [] := by
   have h3 := CR_length t x v1 hcx
   have h4 : (v1 ++ v2).length = t.sz := by rw [← e1, ← hvl, hsz]
   rw [List.length_append, h3] at h4
   exact List.eq_nil_of_length_eq_zero (by omega)
  rw [hv2, List.append_nil] at e1
  obtain ⟨l, o', g', hk3, hw', hg', hrr, hlen, hall⟩ := partsK_sound t hf as vs g1 o1 _ r hk2 (partsR_mono hg1 as vs hr) hw1
  refine ⟨x :: l, o', g', hk3, hw', hg1.trans hg', ⟨v.cells.toList, _, by simp, ?_, hrr⟩, by simp [hlen], ?_⟩
  ·rw [e1]; exact CR_mono hg'.M t x v1 hcx
  ·intro u hu
   simp only [List.map_cons, List.mem_cons] at hu
   rcases hu with rfl | hu
   ·simp at hvl; omega
   ·exact hall u hu
 | [], _ :: _, g, o, κ, r, h, hx, hw => hx.elim
 | _ :: _, [], g, o, κ, r, h, hx, hw => hx.elim
theorem buildSlice_sound {R : Type} {Θ : Nat → TD} (hΘ : TOk P Θ) {B : Base} {g : G} {o : Objs} {w : World} (hw : WInv B g o w) {t e : Nat} {te : Ty} (het : elemTy Θ t = some (e, te)) (len N : Nat) (as : List (Nat × AV)) (vs : Array (Nat × Value)) (κ : AV → Objs → Option R) (r : R)
  (hp : partsR g as vs.toList) (ho : inOrder 0 as = true) (hlen : as.length = len) (h0 : 0 < len) (hs : len * (Θ e).sz ≤ 16777216) (hnb : len * (Θ e).nb ≤ lim)
  (h : partsK te as o (fun l o => newK o N (.row e te l false) fun o => κ (.row N) o) = some r) : SOk P B g w κ r (Instr.buildSlice t len vs) := by
 obtain ⟨i, z, hu, hi, hz, hzs, hsz, hf, hnbe, hb0, hs0, hsE, hzero⟩ := elemTy_ok hΘ het
 obtain ⟨l, o1, g1, hk, hw1, hg1, hrr, hll, hall⟩ := partsK_sound te hf as vs.toList g o _ r h hp hw
 unfold newK at hk
 split at hk
 case h_2 => cases hk
 rename_i hfree
 have hzip := inOrder_zip as vs.toList 0 hp ho
 have hvl : vs.toList.length = len := by rw [← partsR_length hp, hlen]
 have hfill := Great.fill_whole (s := te.sz) (flat_pos te hf) (vs.toList.map (·.2)) ((Array.range (len * i.size)).map (z.cells[· % z.cells.size]!)) hall (by simp at hvl ⊢; rw [hvl, hsz])
 rw [← hzip] at hfill
 have hne : ¬ len * i.size = 0 := by
  have : 0 < len * i.size := Nat.mul_pos h0 hs0
  omega
 have hle : ¬ len * i.size > 2 ^ 24 := by rw [← hsE]; omega
 have hrun := run_buildSlice (P := P) w t e len vs _ i z hu hi hz hle hne (by rw [hsz]; rw [hsz] at hfill; exact hfill)
 have hown : (w.alloc (.cells ((vs.toList.map (·.2)).flatMap fun v => v.cells.toList).toArray e)).ownsR 0 e te.sz (.slice (some ⟨w.heap.size, 0, none⟩) len len) l.length ((vs.toList.map (·.2)).flatMap fun v => v.cells.toList) := by
  have hl2 := RR_length te l _ hrr
  have hll' : l.length = len := by rw [hll, hlen]
  refine ⟨hl2, .inr ⟨w.heap.size, len, _, (0, 0), by rw [hll'], Nat.zero_le _, heap_alloc_new w _, .inl rfl, by omega, ?_, ?_, ?_⟩⟩
  ·have : len ≤ len * (Θ e).nb := Nat.le_mul_of_pos_right _ (by rw [hnbe]; exact hb0)
   simp only [lim] at hnb
   simp only [maxLen]; omega
  ·simp only [List.size_toArray]; rw [hl2, hll']
  ·exact List.take_of_length_le (by show ((vs.toList.map (·.2)).flatMap fun v => v.cells.toList).length ≤ _; rw [hl2]; exact Nat.le_refl _)
 exact ⟨_, _, _, _, _, hk, hrun, new_row hw1 hfree e te l _ _ false hf hrr hown (grown_alloc w _ _) (.inr rfl), hg1.trans (setE_ge hw1 hfree _), ⟨te.sz, setE_at _ _ _, rfl⟩⟩
theorem buildArr_sound {R : Type} {Θ : Nat → TD} (hΘ : TOk P Θ) {B : Base} {g : G} {o : Objs} {w : World} (hw : WInv B g o w) {t n e : Nat} {te : Ty} (hk : (Θ t).k = .arr n e) (hte : (Θ e).ty = some te) (as : List (Nat × AV)) (vs : Array (Nat × Value)) (κ : AV → Objs → Option R) (r : R)
  (hp : partsR g as vs.toList) (ho : inOrder 0 as = true) (hlen : as.length = n) (hse : szOk Θ e te.sz = true) (hst : (Θ t).sz = n * te.sz)
  (h : partsK te as o (fun l o => κ (.d (.arr n te) l) o) = some r) : SOk P B g w κ r (Instr.build t vs) := by
 obtain ⟨it, d, z, hit, hu, hk2, hs, hn, hz, hzz, hzs, hz1, hty⟩ := (hΘ.get t (by rw [hk]; simp)).row
 have hd : d = .array n e := by rw [hk] at hk2; cases d <;> simp [kOf] at hk2; obtain ⟨rfl, rfl⟩ := hk2; rfl
 subst hd
 obtain ⟨ie, de, ze, hie, hue, hke, hsee, _, _, _, _, _, htye⟩ := (hΘ.ty hte).row
 obtain ⟨hf, hsz, _⟩ := htye te hte
 obtain ⟨l, o1, g1, hk1, hw1, hg1, hrr, hll, hall⟩ := partsK_sound te hf as vs.toList g o _ r h hp hw
 have hzip := inOrder_zip as vs.toList 0 hp ho
 have hvl : vs.toList.length = n := by rw [← partsR_length hp, hlen]
 have hfill := Great.fill_whole (s := te.sz) (flat_pos te hf) (vs.toList.map (·.2)) z.cells hall (by simp at hvl ⊢; rw [hvl, hzs, ← hs, hst])
 rw [← hzip] at hfill
 have hb : P.built t vs.toList = some ((vs.toList.map (·.2)).flatMap fun v => v.cells.toList).toArray := by
  unfold Program.built
  simp only [hit, hu, hz, hie]
  rw [← hsz]
  exact hfill
 exact ⟨_, _, _, w, g1, hk1, run_build w t vs _ hb, hw1, hg1, ⟨hf, by rw [hll, hlen], _, rfl, hrr⟩⟩
theorem partsA_sound {g : G} {n : Nat} : ∀ (as : List (Nat × AV)) (vs : List (Nat × Value)), partsR g as vs → (as.all fun p => (cellsOf p.2).length == n && (cellsOf p.2).all leaf1) = true →
  VRL g (as.flatMap fun p => cellsOf p.2) ((vs.map (·.2)).flatMap fun v => v.cells.toList) ∧ (∀ v ∈ vs.map (·.2), v.cells.size = n) ∧ ∀ u ∈ (vs.map (·.2)).flatMap (fun v => v.cells.toList), u.oneCell' = true
 | [], [], _, _ => ⟨trivial, by simp, by simp⟩
 | (i, a) :: as, (j, v) :: vs, ⟨e, hv, hr⟩, hall => by
  simp only [List.all_cons, Bool.and_eq_true, beq_iff_eq] at hall
  obtain ⟨⟨hl, h1⟩, hrest⟩ := hall
  obtain ⟨hc, ho⟩ := cellsOf_sound hv h1
  obtain ⟨i1, i2, i3⟩ := partsA_sound as vs hr (by simpa only [Bool.and_eq_true, beq_iff_eq] using hrest)
  have hlen := VRL_length hc
  refine ⟨?_, ?_, ?_⟩
  ·simp only [List.flatMap_cons, List.map_cons]
   exact VRL_append hc i1
  ·intro u hu
   rw [List.map_cons, List.mem_cons] at hu
   rcases hu with rfl | hu
   ·simp at hlen; omega
   ·exact i2 u hu
  ·intro u hu
   rw [List.map_cons, List.flatMap_cons, List.mem_append] at hu
   rcases hu with hu | hu
   ·exact ho u hu
   ·exact i3 u hu
 | [], _ :: _, hx, _ => hx.elim
 | _ :: _, [], hx, _ => hx.elim
theorem buildArrA_sound {R : Type} {Θ : Nat → TD} (hΘ : TOk P Θ) {B : Base} {g : G} {o : Objs} {w : World} (hw : WInv B g o w) {t n e : Nat} (hk : (Θ t).k = .arr n e) (as : List (Nat × AV)) (vs : Array (Nat × Value)) (κ : AV → Objs → Option R) (r : R)
  (hp : partsR g as vs.toList) (ho : inOrder 0 as = true) (hlen : as.length = n) (hst : (Θ t).sz = n * (Θ e).sz) (hpos : 0 < (Θ e).sz) (hok : okK (Θ e).k = true) (hall : (as.all fun p => (cellsOf p.2).length == (Θ e).sz && (cellsOf p.2).all leaf1) = true)
  (h : κ (.agg (as.flatMap fun p => cellsOf p.2)) o = some r) : SOk P B g w κ r (Instr.build t vs) := by
 obtain ⟨it, d, z, hit, hu, hk2, hs, hn, hz, hzz, hzs, hz1, hty⟩ := (hΘ.get t (by rw [hk]; simp)).row
 have hd : d = .array n e := by rw [hk] at hk2; cases d <;> simp [kOf] at hk2; obtain ⟨rfl, rfl⟩ := hk2; rfl
 subst hd
 obtain ⟨ie, de, ze, hie, hue, hke, hsee, _⟩ := (hΘ.ok hok).row
 obtain ⟨i1, i2, i3⟩ := partsA_sound as vs.toList hp hall
 have hzip := inOrder_zip as vs.toList 0 hp ho
 have hvl : vs.toList.length = n := by rw [← partsR_length hp, hlen]
 have hfill := Great.fill_whole (s := (Θ e).sz) hpos (vs.toList.map (·.2)) z.cells i2 (by simp at hvl ⊢; rw [hvl, hzs, ← hs, hst])
 rw [← hzip] at hfill
 have hb : P.built t vs.toList = some ((vs.toList.map (·.2)).flatMap fun v => v.cells.toList).toArray := by
  unfold Program.built
  simp only [hit, hu, hz, hie]
  rw [← hsee]
  exact hfill
 exact ⟨_, _, _, w, g, h, run_build w t vs _ hb, hw, GE.refl g, ⟨_, rfl, i1, i3⟩⟩
theorem mapM_some {α β : Type} (F : α → Option β) : ∀ (l : List α), (∀ a ∈ l, (F a).isSome = true) → ∃ ps, l.mapM F = some ps ∧ ∀ i : Nat, ps[i]? = (l[i]?).bind F
 | [], _ => ⟨[], rfl, fun i => by simp⟩
 | a :: l, h => by
  obtain ⟨b, hb⟩ := Option.isSome_iff_exists.1 (h a List.mem_cons_self)
  obtain ⟨ps, hps, hi⟩ := mapM_some F l (fun x hx => h x (List.mem_cons_of_mem _ hx))
  refine ⟨b :: ps, by simp [List.mapM_cons, hb, hps], fun i => ?_⟩
  cases i with
  | zero => simp [hb]
  | succ i => simpa using hi i
theorem fold_put (off : Nat) (vs : List Value) (cells : Array Value) (h : off + vs.length ≤ cells.size) :
  (vs.toArray.zipIdx.foldl (fun cs (x : Value × Nat) => cs.setIfInBounds (off + x.2) x.1) cells).toList = cells.toList.take off ++ vs ++ cells.toList.drop (off + vs.length) := by
 obtain ⟨h1, h2⟩ := Great.foldl_set off vs 0 cells
 have e : vs.toArray.zipIdx.foldl (fun cs (x : Value × Nat) => cs.setIfInBounds (off + x.2) x.1) cells = (vs.zipIdx 0).foldl (fun cs (x : Value × Nat) => cs.setIfInBounds (off + x.2) x.1) cells := by
  rw [← Array.foldl_toList]
  simp
 rw [e]
 apply List.ext_getElem?
 intro k
 rw [Array.getElem?_toList, h2 k]
 simp only [Nat.add_zero]
 by_cases hk : k < off
 ·rw [if_neg (by omega), List.append_assoc, List.getElem?_append_left (by simp; omega), List.getElem?_take_of_lt hk]
  simp
 ·by_cases hk2 : k < off + vs.length
  ·rw [if_pos ⟨by omega, by omega, by omega⟩, List.append_assoc, List.getElem?_append_right (by simp; omega), List.getElem?_append_left (by simp; omega)]
   congr 1
   simp; omega
  ·rw [if_neg (by omega), List.append_assoc, List.getElem?_append_right (by simp; omega), List.getElem?_append_right (by simp; omega), List.getElem?_drop]
   simp
   congr 1
   omega
theorem fillK_sound {R : Type} {Θ : Nat → TD} (hΘ : TOk P Θ) {g : G} (fs : List (Nat × Nat)) (places : Nat → Option (Nat × Nat)) (hpl : ∀ (i off ft : Nat), fs[i]? = some (off, ft) → okK (Θ ft).k = true → places i = some (off, (Θ ft).sz)) :
  ∀ (as : List (Nat × AV)) (vs : List (Nat × Value)) (cs : List AV) (cells : Array Value) (κ : List AV → Option R) (r : R), fillK Θ fs as cs κ = some r → partsR g as vs → VRL g cs cells.toList → (∀ u ∈ cells.toList, u.oneCell' = true) →
   ∃ cs' cells', κ cs' = some r ∧ Instr.fill places cells vs = some cells' ∧ VRL g cs' cells'.toList ∧ ∀ u ∈ cells'.toList, u.oneCell' = true
 | [], [], cs, cells, κ, r, h, _, hc, h1 => ⟨cs, cells, h, rfl, hc, h1⟩
 | (i, a) :: as, (j, v) :: vs, cs, cells, κ, r, h, ⟨e, hv, hr⟩, hc, h1 => by
  subst e
  unfold fillK at h
  split at h
  case h_2 => cases h
  rename_i off ft hi
  split at h
  case isFalse => cases h
  rename_i hcond
  obtain ⟨hok, hsz, hle, hl1⟩ := hcond
  obtain ⟨hcv, hv1⟩ := cellsOf_sound hv hl1
  have hvl := VRL_length hcv
  have hcl := VRL_length hc
  have hput := putCells_sound cs cells.toList off (cellsOf a) v.cells.toList hc hcv hle
  have hfold := fold_put off v.cells.toList cells (by simp at hcl hvl ⊢; omega)
  simp only [Array.toArray_toList] at hfold
  rw [← hfold] at hput
  obtain ⟨cs', cells', hk, hfill, hcc, hone⟩ := fillK_sound hΘ fs places hpl as vs _ (v.cells.zipIdx.foldl (fun cs (x : Value × Nat) => cs.setIfInBounds (off + x.2) x.1) cells) κ r h hr hput (by
   rw [hfold]
   intro u hu
   simp only [List.mem_append] at hu
   rcases hu with (hu | hu) | hu
   ·exact h1 u (List.mem_of_mem_take hu)
   ·exact hv1 u hu
   ·exact h1 u (List.mem_of_mem_drop hu))
  refine ⟨cs', cells', hk, ?_, hcc, hone⟩
  unfold Instr.fill
  rw [hpl i off ft hi hok]
  have hvs : v.cells.size = (Θ ft).sz := by rw [← hsz, hvl]; simp
  simp only [Array.length_toList] at hcl hvl
  have hn : ¬ ((decide (v.cells.size ≠ (Θ ft).sz) || decide (off + v.cells.size > cells.size)) = true) := by
   simp [hvs]; omega
  show (if (decide (v.cells.size ≠ (Θ ft).sz) || decide (off + v.cells.size > cells.size)) = true then none else _) = _
  rw [if_neg hn]
  exact hfill
 | [], _ :: _, cs, cells, κ, r, h, hx, _, _ => hx.elim
 | _ :: _, [], cs, cells, κ, r, h, hx, _, _ => hx.elim
theorem buildStruct_sound {R : Type} {Θ : Nat → TD} (hΘ : TOk P Θ) {B : Base} {g : G} {o : Objs} {w : World} (hw : WInv B g o w) {t : Nat} {fs : List (Nat × Nat)} (hk : (Θ t).k = .struct fs) (as : List (Nat × AV)) (vs : Array (Nat × Value)) (κ : AV → Objs → Option R) (r : R)
  (hp : partsR g as vs.toList) (h : fillK Θ fs as (Θ t).zero (fun cs => κ (.agg cs) o) = some r) : SOk P B g w κ r (Instr.build t vs) := by
 have hrow := hΘ.get t (by rw [hk]; simp)
 obtain ⟨it, d, z, hit, hu, hk2, hs, hn, hz, hzz, hzs, hz1, hty⟩ := hrow.row
 cases d <;> (rw [hk] at hk2; simp [kOf] at hk2)
 rename_i fs'
 subst hk2
 obtain ⟨places, hpl, hpi⟩ := mapM_some (fun (f : Field) => (P.info? f.type).map fun i => (f.offset, i.size)) fs'.toList (fun f hf => by simpa using hrow.fields fs' hu f hf)
 obtain ⟨cs', cells', hk3, hfill, hcc, hone⟩ := fillK_sound hΘ (fs'.toList.map fun f => (f.offset, f.type)) (places.toArray[·]?) (fun i off ft hi hok => by
  simp only [List.getElem?_map, Option.map_eq_some_iff] at hi
  obtain ⟨f, hf, he⟩ := hi
  cases he
  obtain ⟨i2, d2, z2, hi2, hu2, hk4, hs2, _⟩ := (hΘ.ok hok).row
  simp [hpi, hf, hi2, hs2]) as vs.toList _ z.cells _ r h hp (by rw [hzz]; exact zeros_VRL g _) hz1
 have hb : P.built t vs.toList = some cells' := by
  unfold Program.built
  simp only [hit, hu, hz, hpl]
  exact hfill
 exact SOk.quiet hw _ _ hk3 (run_build w t vs cells' hb) ⟨cells'.toList, by simp, hcc, hone⟩
theorem made_RR {M : Mem} (t : Ty) (z : List Value) (hz : CR M t (zeroI t) z) : ∀ n, RR M t (List.replicate n (zeroI t)) ((List.replicate n z).flatten)
 | 0 => rfl
 | n + 1 => ⟨z, (List.replicate n z).flatten, by simp [List.replicate_succ], hz, made_RR t z hz n⟩
theorem madeCells_list (z : Array Value) (hz : 0 < z.size) (n : Nat) : (madeCells z (n * z.size)).toList = (List.replicate n z.toList).flatten := by
 induction n with
 | zero => simp [madeCells]
 | succ n ih =>
  apply List.ext_getElem?
  intro k
  simp only [madeCells, Array.toList_map, Array.toList_range, List.getElem?_map]
  rw [List.replicate_succ', List.flatten_append]
  have hl : (List.replicate n z.toList).flatten.length = n * z.size := by simp
  by_cases hk : k < n * z.size
  ·rw [List.getElem?_append_left (by omega), ← ih]
   have h1 : k < (n + 1) * z.size := by rw [Nat.add_mul]; omega
   simp [madeCells, hk, h1]
  ·rw [List.getElem?_append_right (by omega), hl]
   by_cases hk2 : k < (n + 1) * z.size
   ·have h3 : k - n * z.size < z.size := by rw [Nat.add_mul] at hk2; omega
    have h4 : k % z.size = k - n * z.size := by
     have h5 : k = (k - n * z.size) + z.size * n := by rw [Nat.mul_comm z.size n]; omega
     rw [h5, Nat.add_mul_mod_self_left, Nat.mod_eq_of_lt (by omega)]
     rw [Nat.mul_comm z.size n]; omega
    simp [hk2, h4, h3]
   ·rw [List.getElem?_eq_none (by simp; omega)]
    rw [List.getElem?_eq_none (by simp; rw [Nat.add_mul] at hk2; omega)]
    rfl
theorem make_sound {R : Type} {Θ : Nat → TD} (hΘ : TOk P Θ) {B : Base} {g : G} {o : Objs} {w : World} (hw : WInv B g o w) {t e : Nat} {te : Ty} (het : elemTy Θ t = some (e, te)) (N : Nat) (l c : Int) (kl kc : IntKind) (κ : AV → Objs → Option R) (r : R)
  (h : makeK (Θ e).nb l c (fun n => newK o N (.row e te (List.replicate n (zeroI te)) false) fun o => κ (.row N) o) = some r) : SOk P B g w κ r (Instr.makeSlice t (.int kl l) (.int kc c)) := by
 obtain ⟨i, z, hu, hi, hz, hzs, hsz, hf, hnbe, hb0, hs0, hsE, hzero⟩ := elemTy_ok hΘ het
 unfold makeK at h
 split at h
 case isFalse => cases h
 rename_i hc
 obtain ⟨h0, hlc, hcb, hcl⟩ := hc
 unfold newK at h
 split at h
 case h_2 => cases h
 rename_i hfree
 have hrun := run_make (P := P) w t e i z hu hi hz kl kc l c h0 hlc (by rw [hnbe] at hcb; rw [Int.mul_comm]; omega) (by omega)
 have hrr := made_RR te z.cells.toList (hzero g.M) l.toNat
 have hmade := madeCells_list z.cells (by omega) c.toNat
 rw [hzs] at hmade
 have hown : (w.alloc (.cells (madeCells z.cells (c.toNat * i.size)) e)).ownsR 0 e te.sz (.slice (some ⟨w.heap.size, 0, none⟩) l.toNat c.toNat) (List.replicate l.toNat (zeroI te)).length ((List.replicate l.toNat z.cells.toList).flatten) := by
  have hl2 := RR_length te _ _ hrr
  refine ⟨hl2, .inr ⟨w.heap.size, c.toNat, _, (0, 0), by simp, Nat.zero_le _, heap_alloc_new w _, .inl rfl, by simp; omega, by simp only [maxLen]; omega, by rw [size_madeCells, hsz], ?_⟩⟩
  rw [hmade]
  obtain ⟨m, hm⟩ : ∃ m, c.toNat = l.toNat + m := ⟨c.toNat - l.toNat, by omega⟩
  rw [hm, ← List.replicate_append_replicate, List.flatten_append]
  exact List.take_left' (by rw [hl2])
 exact ⟨_, _, _, _, _, h, hrun, new_row hw hfree e te _ _ _ false hf hrr hown (grown_alloc w _ _) (.inr rfl), setE_ge hw hfree _, ⟨te.sz, setE_at _ _ _, rfl⟩⟩
end Go.Den
set_option linter.unusedVariables false
set_option linter.unusedSimpArgs false
namespace Go.Den
variable {P : Program}
theorem fs_kOf {fs : Array Field} {l : List (Nat × Nat)} (h : K.struct l = kOf (.struct fs)) : l = fs.toList.map fun f => (f.offset, f.type) := by
 simp only [kOf] at h; cases h; rfl
theorem bin_int {op : BinOp} {k : IntKind} {a b : Int} {t : Nat} {Θ : Nat → TD} {R : Type} {κ : AV → Option R} {k' : IntKind} :
  binK Θ op t (.d (.int k) a) (.d (.int k') b) κ = (match op with
  | .shl => shiftK true k a b κ
  | .shr => shiftK false k a b κ
  | op => if k = k' then intK op k a b κ else none) := rfl
theorem VRL_at {g : G} {ws : List Value} {k : Nat} {a : AV} {as : List AV} (h : VRL g (a :: as) (ws.drop k)) : ∃ v, ws[k]? = some v ∧ VR g a v ∧ VRL g as (ws.drop (k + 1)) := by
 cases hd : ws.drop k with
 | nil => rw [hd] at h; exact h.elim
 | cons v vs =>
  rw [hd] at h
  refine ⟨v, ?_, h.1, ?_⟩
  ·have : (ws.drop k)[0]? = some v := by rw [hd]; rfl
   simpa using this
  ·have : ws.drop (k + 1) = vs := by rw [← List.drop_drop, hd]; simp
   rw [this]; exact h.2
theorem eqK_sound {R : Type} {Θ : Nat → TD} (hΘ : TOk P Θ) {g : G} {w : World} (d : Nat) (xs ys : List Value) : ∀ (fs : List Field) (k : Nat) (cs ds : List AV) (κ : Bool → Option R) (r : R),
  eqK Θ k (fs.map fun f => (f.offset, f.type)) cs ds κ = some r → (∀ f ∈ fs, f.name ≠ "_") → VRL g cs (xs.drop k) → VRL g ds (ys.drop k) →
  ∃ c, κ c = some r ∧ (Op.eqFields (d + 1) xs.toArray ys.toArray fs).run P w = .ok c w
 | [], k, [], [], κ, r, h, _, _, _ => ⟨true, h, by simp [Op.eqFields]⟩
 | f :: fs, k, a :: as, b :: bs, κ, r, h, hn, hx, hy => by
  simp only [List.map_cons, eqK] at h
  split at h
  case isFalse => cases h
  rename_i hoff
  obtain ⟨u, hu, hva, hxr⟩ := VRL_at hx
  obtain ⟨v, hv, hvb, hyr⟩ := VRL_at hy
  have hname : f.name ≠ "_" := hn f List.mem_cons_self
  have step : ∀ (dd : TypeDesc) (c : Bool), P.underlying f.type = some dd → aggD dd = false → (Op.equalIn (d + 1) f.type u v).run P w = .ok c w →
    eqK Θ (k + 1) (fs.map fun f => (f.offset, f.type)) as bs (fun c' => κ (if c then c' else false)) = some r →
    ∃ c, κ c = some r ∧ (Op.eqFields (d + 1) xs.toArray ys.toArray (f :: fs)).run P w = .ok c w := by
   intro dd c hdd hagg he hk
   obtain ⟨c', hc', hrun⟩ := eqK_sound hΘ d xs ys fs (k + 1) as bs _ r hk (fun f hf => hn f (List.mem_cons_of_mem _ hf)) hxr hyr
   have hp1 := run_part_one (P := P) w hdd hagg xs.toArray f.offset u (by rw [hoff]; simpa using hu)
   have hp2 := run_part_one (P := P) w hdd hagg ys.toArray f.offset v (by rw [hoff]; simpa using hv)
   refine ⟨_, hc', ?_⟩
   rw [Op.eqFields]
   simp only [if_pos hname, Sem.run_bind, hp1, hp2, he, Result.andThen_ok]
   cases c
   ·simp
   ·simpa using hrun
  split at h
  ·rename_i hk
   split at h
   ·rw [show u = _ from hva, show v = _ from hvb] at step
    exact step .bool _ (bool_of hΘ hk) rfl (equalIn_bool d (bool_of hΘ hk) _ _ w) h
   ·cases h
  ·rename_i k' hk
   split at h
   ·rename_i k1 x k2 y
    split at h
    case isFalse => cases h
    rename_i hkk
    subst hkk
    rw [show u = _ from hva, show v = _ from hvb] at step
    exact step (.int k') _ (int_of hΘ hk) rfl (run_equalIn_int (P := P) w d f.type k1 k' _ _ (int_of hΘ hk)) h
   ·cases h
  ·rename_i hk
   split at h
   ·rw [show u = _ from hva, show v = _ from hvb] at step
    exact step .string _ (str_of hΘ hk) rfl (run_equalIn_string (P := P) w d f.type _ _ (str_of hΘ hk)) h
   ·cases h
  ·cases h
 | [], k, [], _ :: _, κ, r, h, _, _, _ => by simp [eqK] at h
 | [], k, _ :: _, _, κ, r, h, _, _, _ => by simp [eqK] at h
 | _ :: _, k, [], _, κ, r, h, _, _, _ => by simp [eqK] at h
 | _ :: _, k, _ :: _, [], κ, r, h, _, _, _ => by simp [eqK] at h
theorem eqAgg_sound {R : Type} {Θ : Nat → TD} (hΘ : TOk P Θ) {B : Base} {g : G} {o : Objs} {w : World} (hw : WInv B g o w) (op : BinOp) (t : Nat) (x y : Operand) (cs ds : List AV) (a b : Value) (fs : List (Nat × Nat)) (hk : (Θ t).k = .struct fs) (heq : (Θ t).eq = true) (κ : AV → Objs → Option R) (r : R)
  (h : eqK Θ 0 fs cs ds (fun c => nilEq op c (fun v => κ v o)) = some r) (ha : VR g (.agg cs) a) (hb : VR g (.agg ds) b) : SOk P B g w κ r (binS op t x y a b) := by
 obtain ⟨xs, rfl, hxs, _⟩ := ha
 obtain ⟨ys, rfl, hys, _⟩ := hb
 have hrow := hΘ.get t (by rw [hk]; simp)
 obtain ⟨fs', hu, hg1, hst, hnm⟩ := hrow.eq heq
 obtain ⟨it, d, z, hit, hu2, hk2, _⟩ := hrow.row
 rw [hu] at hu2
 cases hu2
 rw [hk] at hk2
 have hfs := fs_kOf hk2
 subst hfs
 obtain ⟨c, hc, hrun⟩ := eqK_sound hΘ (w := w) 9998 xs ys fs'.toList 0 cs ds _ r h hnm (by simpa using hxs) (by simpa using hys)
 have hfo : P.fieldsOf t = fs' := by simp [Program.fieldsOf, hu]
 have he : (Op.equalIn 10000 t (.agg xs.toArray) (.agg ys.toArray)).run P w = .ok c w := by
  rw [run_equalIn_struct (P := P) w 9999 t _ _ (by rw [hfo]; exact hu) hst, hfo]
  exact hrun
 have hgd := run_eqGuard_agg (P := P) w op t x y xs.toArray ys.toArray hg1
 unfold nilEq at hc
 split at hc
 ·exact SOk.quiet hw _ (.bool c) hc (by simp [binS, hgd, run_eql_struct, he]) rfl
 ·exact SOk.quiet hw _ (.bool (!c)) hc (by simp [binS, hgd, run_neq_struct, he]) rfl
 ·cases hc
theorem bin_sound {R : Type} {Θ : Nat → TD} (hΘ : TOk P Θ) {B : Base} {g : G} {o : Objs} {w : World} (hw : WInv B g o w) (op : BinOp) (t : Nat) (x y : Operand) (u v : AV) (a b : Value) (κ : AV → Objs → Option R) (r : R)
  (h : binK Θ op t u v (fun v => κ v o) = some r) (ha : VR g u a) (hb : VR g v b) : SOk P B g w κ r (binS op t x y a b) := by
 unfold binK at h
 split at h
 ·rename_i k n k' m
  rw [show a = _ from ha, show b = _ from hb]
  split at h
  ·exact shiftK_sound hw true t x y k k' n m κ r h
  ·exact shiftK_sound hw false t x y k k' n m κ r h
  ·split at h
   ·rename_i e; subst e
    exact intK_sound hw op t x y k n m κ r h
   ·cases h
 ·rename_i n m
  rw [show a = _ from ha, show b = _ from hb]
  split at h
  ·rename_i hk
   exact nilEq_sound hw op t x y _ _ _ κ r h (guard_plain op t x y _ _ w (by rintro u v ⟨h, _⟩; cases h) (by rintro ⟨h, _⟩; cases h)) (equal_bool (bool_of hΘ hk) n m w) rfl rfl
  ·cases h
 ·rename_i n m
  rw [show a = _ from ha, show b = _ from hb]
  exact strK_sound hw op t x y n m κ r h
 ·split at h
  ·rename_i hk
   obtain ⟨e, hu⟩ := ptr_of hΘ hk
   obtain ⟨p, z, _, hv⟩ := ha
   rw [hv, show b = _ from hb]
   exact nilEq_sound hw op t x y _ _ _ κ r h (guard_plain op t x y _ _ w (by rintro u v ⟨h, _⟩; cases h) (by rintro ⟨h, _⟩; cases h)) (equal_ptr_nil hu _ w) rfl rfl
  ·cases h
 ·split at h
  ·rename_i hk
   obtain ⟨e, hu⟩ := ptr_of hΘ hk
   obtain ⟨p, z, u, _, _, hv⟩ := ha
   rw [hv, show b = _ from hb]
   exact nilEq_sound hw op t x y _ _ _ κ r h (guard_plain op t x y _ _ w (by rintro u v ⟨h, _⟩; cases h) (by rintro ⟨h, _⟩; cases h)) (equal_ptr_nil hu _ w) rfl rfl
  ·cases h
 ·split at h
  ·rename_i hk
   obtain ⟨e, hu⟩ := ptr_of hΘ hk
   obtain ⟨ad, ws, hv, _⟩ := ha
   rw [hv, show b = _ from hb]
   exact nilEq_sound hw op t x y _ _ _ κ r h (guard_plain op t x y _ _ w (by rintro u v ⟨h, _⟩; cases h) (by rintro ⟨h, _⟩; cases h)) (equal_ptr_nil hu _ w) rfl rfl
  ·cases h
 ·split at h
  ·rename_i hk
   obtain ⟨e, hu⟩ := ptr_of hΘ hk
   rw [show a = _ from ha, show b = _ from hb]
   exact nilEq_sound hw op t x y _ _ _ κ r h (guard_plain op t x y _ _ w (by rintro u v ⟨h, _⟩; cases h) (by rintro ⟨h, _⟩; cases h)) (equal_nil_nil hu w) rfl rfl
  ·cases h
 ·split at h
  ·rename_i fs hk
   split at h
   ·rename_i heq
    exact eqAgg_sound hΘ hw op t x y _ _ a b fs hk heq κ r h ha hb
   ·cases h
  ·cases h
 ·cases h
def Then (P : Program) (B : Base) (g : G) {R : Type} (κ : AV → Objs → Option R) (r : R) (o : Oper) (a : Act) (K : Act → World → Prop) : Prop :=
 ∀ av o' v w' g', κ av o' = some r → WInv B g' o' w' → GE g g' → VR g' av v → K (a.put o.dst v) w'
theorem wp_val {B : Base} {g : G} {w : World} {R : Type} {κ : AV → Objs → Option R} {r : R} {s : Sem Value} {o : Oper} {a : Act} {K : Act → World → Prop} {Q : Exit → Act → World → Prop}
  (he : execOp a.eval o = valS s) (h : SOk P B g w κ r s) (hK : Then P B g κ r o a K) : o.wp P a w K Q := by
 obtain ⟨av, o', v, w', g', hk, hr, hw, hg, hv⟩ := h
 unfold Oper.wp
 rw [he, run_valS hr]
 exact hK av o' v w' g' hk hw hg hv
theorem wp_pure {B : Base} {g : G} {ob : Objs} {w : World} (hw : WInv B g ob w) {R : Type} {κ : AV → Objs → Option R} {r : R} {o : Oper} {a : Act} {K : Act → World → Prop} {Q : Exit → Act → World → Prop} (v : Value) (av : AV)
  (he : (execOp a.eval o).run P w = .ok (.value v) w) (h : κ av ob = some r) (hv : VR g av v) (hK : Then P B g κ r o a K) : o.wp P a w K Q := by
 unfold Oper.wp
 rw [he]
 exact hK av ob v w g h hw (GE.refl g) hv
theorem opt_VR {g : G} {s : List AV} {a : Act} (hs : VRL g s a.tmps.toList) (lo : Option Operand) : (∀ x, lo.map (rho s) = some x → ∃ v, lo.map a.eval = some v ∧ VR g x v) ∧ (lo.map (rho s) = none → lo.map a.eval = none) := by
 cases lo with
 | none => exact ⟨fun x h => (by cases h), fun _ => rfl⟩
 | some y => exact ⟨fun x h => (by cases h; exact ⟨_, rfl, rho_VR hs y⟩), fun h => (by cases h)⟩
end Go.Den
