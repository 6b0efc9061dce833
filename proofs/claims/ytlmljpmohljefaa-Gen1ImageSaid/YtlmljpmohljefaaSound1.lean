/- What the evaluator's values say of memory. -/
import Derived.Test.YtlmljpmohljefaaDen
import Derived.Laws.AppendOwn
import Derived.WalkKit
set_option linter.unusedVariables false
set_option linter.unusedSimpArgs false
namespace Go.Den

abbrev Mem := Addr → Option Value

def CR (M : Mem) : (t : Ty) → t.I → List Value → Prop
  | .bool, b, vs => vs = [.bool b]
  | .int k, n, vs => vs = [.int k n]
  | .str, s, vs => vs = [.string s]
  | .sl t, l, vs => ∃ A c, vs = [.slice A l.length c] ∧ l.length ≤ c ∧ ∀ i x, l[i]? = some x → ∃ ad ws, A = some ad ∧ CR M t x ws ∧ ∀ j v, ws[j]? = some v → M (ad.add (i * t.sz + j)) = some v
  | .arr _ _, _, _ => False
  | .unit, _, _ => False
  | .pair a b, x, vs => ∃ v1 v2, vs = v1 ++ v2 ∧ CR M a x.1 v1 ∧ CR M b x.2 v2

def RR (M : Mem) (t : Ty) : List t.I → List Value → Prop
  | [], ws => ws = []
  | x :: l, ws => ∃ a b, ws = a ++ b ∧ CR M t x a ∧ RR M t l b

def DV (M : Mem) : (t : Ty) → t.I → Value → Prop
  | .bool, b, v => v = .bool b
  | .int k, n, v => v = .int k n
  | .str, s, v => v = .string s
  | .sl t, l, v => t.flat = true ∧ CR M (.sl t) l [v]
  | .arr n t, l, v => t.flat = true ∧ l.length = n ∧ ∃ ws : List Value, v = .agg ws.toArray ∧ RR M t l ws
  | .unit, _, _ => False
  | .pair _ _, _, _ => False

structure G where
  M : Mem
  E : Nat → Option (Value × Nat)

def baseOf : Value → Option Addr
  | .pointer a => a
  | .slice a _ _ => a
  | _ => none

mutual
def VR (g : G) : AV → Value → Prop
  | .d t x, v => DV g.M t x v
  | .ptr n off, v => ∃ p z, g.E n = some (.pointer (some p), z) ∧ v = .pointer (some (p.add off))
  | .eptr n i off, v => ∃ p z u, g.E n = some (u, z) ∧ baseOf u = some p ∧ v = .pointer (some (p.add (i.toNat * z + off)))
  | .dp cs, v => ∃ ad ws, v = .pointer (some ad) ∧ VRL g cs ws ∧ ∀ j u, ws[j]? = some u → g.M (ad.add j) = some u
  | .pnil, v => v = .pointer none
  | .nilsl, v => v = .slice none 0 0
  | .nilf, v => v = .nilFunc
  | .nili, v => v = .nilIface
  | .row n, v => ∃ z, g.E n = some (v, z) ∧ v.oneCell' = true
  | .fn f a b, v => ∃ a' b' : List Value, v = .func f a'.toArray b'.toArray ∧ VRL g a a' ∧ VRL g b b'
  | .agg cs, v => ∃ ws : List Value, v = .agg ws.toArray ∧ VRL g cs ws ∧ ∀ u ∈ ws, u.oneCell' = true
  | .tup cs, v => ∃ ws : List Value, v = .tuple ws.toArray ∧ VRL g cs ws
  | .dead, _ => True
def VRL (g : G) : List AV → List Value → Prop
  | [], [] => True
  | a :: as, v :: vs => VR g a v ∧ VRL g as vs
  | [], _ :: _ => False
  | _ :: _, [] => False
end

structure GE (g g' : G) : Prop where
  M : ∀ a v, g.M a = some v → g'.M a = some v
  E : ∀ n u, g.E n = some u → g'.E n = some u

theorem GE.refl (g : G) : GE g g := ⟨fun _ _ h => h, fun _ _ h => h⟩
theorem GE.trans {g g' g'' : G} (h : GE g g') (k : GE g' g'') : GE g g'' := ⟨fun a v x => k.M a v (h.M a v x), fun n u x => k.E n u (h.E n u x)⟩

theorem CR_mono {M M' : Mem} (h : ∀ a v, M a = some v → M' a = some v) : ∀ (t : Ty) (x : t.I) (vs : List Value), CR M t x vs → CR M' t x vs := by
  intro t
  induction t with
  | bool => intro x vs hx; exact hx
  | int k => intro x vs hx; exact hx
  | str => intro x vs hx; exact hx
  | sl t ih =>
    rintro l vs ⟨A, c, e, hc, hx⟩
    refine ⟨A, c, e, hc, fun i x hi => ?_⟩
    obtain ⟨ad, ws, ha, hw, hm⟩ := hx i x hi
    exact ⟨ad, ws, ha, ih x ws hw, fun j v hj => h _ _ (hm j v hj)⟩
  | arr n t ih => intro x vs hx; exact hx
  | unit => intro x vs hx; exact hx
  | pair a b iha ihb =>
    rintro x vs ⟨v1, v2, e, h1, h2⟩
    exact ⟨v1, v2, e, iha _ _ h1, ihb _ _ h2⟩

theorem RR_mono {M M' : Mem} (h : ∀ a v, M a = some v → M' a = some v) (t : Ty) : ∀ (l : List t.I) (ws : List Value), RR M t l ws → RR M' t l ws
  | [], ws, hx => hx
  | x :: l, ws, ⟨a, b, e, h1, h2⟩ => ⟨a, b, e, CR_mono h t x a h1, RR_mono h t l b h2⟩

theorem DV_mono {M M' : Mem} (h : ∀ a v, M a = some v → M' a = some v) (t : Ty) (x : t.I) (v : Value) (hx : DV M t x v) : DV M' t x v := by
  cases t with
  | bool => exact hx
  | int k => exact hx
  | str => exact hx
  | sl t => exact ⟨hx.1, CR_mono h (.sl t) x _ hx.2⟩
  | arr n t => obtain ⟨hf, hl, ws, e, hr⟩ := hx; exact ⟨hf, hl, ws, e, RR_mono h t _ _ hr⟩
  | unit => exact hx
  | pair a b => exact hx

mutual
theorem VR_mono {g g' : G} (h : GE g g') : ∀ (a : AV) (v : Value), VR g a v → VR g' a v
  | .d t x, v, hx => DV_mono h.M t x v hx
  | .ptr n off, v, ⟨p, z, he, hv⟩ => ⟨p, z, h.E _ _ he, hv⟩
  | .eptr n i off, v, ⟨p, z, u, he, hb, hv⟩ => ⟨p, z, u, h.E _ _ he, hb, hv⟩
  | .dp cs, v, ⟨ad, ws, hv, hc, hm⟩ => ⟨ad, ws, hv, VRL_mono h cs ws hc, fun j u hj => h.M _ _ (hm j u hj)⟩
  | .pnil, v, hx => hx
  | .nilsl, v, hx => hx
  | .nilf, v, hx => hx
  | .nili, v, hx => hx
  | .row n, v, ⟨z, he, h1⟩ => ⟨z, h.E _ _ he, h1⟩
  | .fn f a b, v, ⟨a', b', hv, ha, hb⟩ => ⟨a', b', hv, VRL_mono h a a' ha, VRL_mono h b b' hb⟩
  | .agg cs, v, ⟨ws, hv, hc, h1⟩ => ⟨ws, hv, VRL_mono h cs ws hc, h1⟩
  | .tup cs, v, ⟨ws, hv, hc⟩ => ⟨ws, hv, VRL_mono h cs ws hc⟩
  | .dead, v, hx => hx
theorem VRL_mono {g g' : G} (h : GE g g') : ∀ (as : List AV) (vs : List Value), VRL g as vs → VRL g' as vs
  | [], [], hx => hx
  | a :: as, v :: vs, ⟨h1, h2⟩ => ⟨VR_mono h a v h1, VRL_mono h as vs h2⟩
  | [], _ :: _, hx => hx.elim
  | _ :: _, [], hx => hx.elim
end

/-! lists -/
theorem VRL_length {g : G} : ∀ {as : List AV} {vs : List Value}, VRL g as vs → as.length = vs.length
  | [], [], _ => rfl
  | _ :: as, _ :: vs, ⟨_, h⟩ => by simp [VRL_length h]
  | [], _ :: _, h => h.elim
  | _ :: _, [], h => h.elim

theorem VRL_get {g : G} : ∀ {as : List AV} {vs : List Value}, VRL g as vs → ∀ (i : Nat) (a : AV), as[i]? = some a → ∃ v, vs[i]? = some v ∧ VR g a v
  | [], [], _, i, a, h => by simp at h
  | x :: as, v :: vs, ⟨h1, h2⟩, 0, a, h => by simp at h; subst h; exact ⟨v, by simp, h1⟩
  | x :: as, v :: vs, ⟨h1, h2⟩, i + 1, a, h => by simpa using VRL_get h2 i a (by simpa using h)
  | [], _ :: _, h, _, _, _ => h.elim
  | _ :: _, [], h, _, _, _ => h.elim

theorem VRL_drop {g : G} : ∀ {as : List AV} {vs : List Value} (n : Nat), VRL g as vs → VRL g (as.drop n) (vs.drop n)
  | [], [], n, h => by simpa using h
  | _ :: as, _ :: vs, 0, h => by simpa using h
  | _ :: as, _ :: vs, n + 1, ⟨_, h⟩ => by simpa using VRL_drop n h
  | [], _ :: _, _, h => h.elim
  | _ :: _, [], _, h => h.elim

theorem VRL_take {g : G} : ∀ {as : List AV} {vs : List Value} (n : Nat), VRL g as vs → VRL g (as.take n) (vs.take n)
  | [], [], n, h => by simpa using h
  | _ :: as, _ :: vs, 0, h => by simp [VRL]
  | _ :: as, _ :: vs, n + 1, ⟨h1, h⟩ => by simp only [List.take_succ_cons]; exact ⟨h1, VRL_take n h⟩
  | [], _ :: _, _, h => h.elim
  | _ :: _, [], _, h => h.elim

theorem VRL_append {g : G} : ∀ {as bs : List AV} {vs us : List Value}, VRL g as vs → VRL g bs us → VRL g (as ++ bs) (vs ++ us)
  | [], _, [], _, _, h => by simpa using h
  | _ :: as, _, _ :: vs, _, ⟨h1, h⟩, k => ⟨h1, VRL_append h k⟩
  | [], _, _ :: _, _, h, _ => h.elim
  | _ :: _, _, [], _, h, _ => h.elim

theorem VRL_set {g : G} : ∀ {as : List AV} {vs : List Value} (i : Nat) (a : AV) (v : Value), VRL g as vs → VR g a v → VRL g (as.set i a) (vs.set i v)
  | [], [], i, a, v, h, _ => by simpa using h
  | _ :: as, _ :: vs, 0, a, v, ⟨_, h⟩, hv => ⟨hv, h⟩
  | _ :: as, _ :: vs, i + 1, a, v, ⟨h1, h⟩, hv => ⟨h1, VRL_set i a v h hv⟩
  | [], _ :: _, _, _, _, h, _ => h.elim
  | _ :: _, [], _, _, _, h, _ => h.elim

theorem VRL_replicate {g : G} (n : Nat) (v : Value) : VRL g (List.replicate n .dead) (List.replicate n v) := by
  induction n with
  | zero => simp [VRL]
  | succ n ih => simp only [List.replicate_succ]; exact ⟨trivial, ih⟩

/-! sizes -/
theorem CR_length {M : Mem} : ∀ (t : Ty) (x : t.I) (vs : List Value), CR M t x vs → vs.length = t.sz := by
  intro t
  induction t with
  | bool => intro x vs h; rw [show vs = _ from h]; rfl
  | int k => intro x vs h; rw [show vs = _ from h]; rfl
  | str => intro x vs h; rw [show vs = _ from h]; rfl
  | sl t ih => rintro l vs ⟨A, c, e, _⟩; rw [e]; rfl
  | arr n t ih => intro x vs h; exact h.elim
  | unit => intro x vs h; exact h.elim
  | pair a b iha ihb => rintro x vs ⟨v1, v2, e, h1, h2⟩; rw [e, List.length_append, iha _ _ h1, ihb _ _ h2]; rfl

theorem CR_one {M : Mem} : ∀ (t : Ty) (x : t.I) (vs : List Value), CR M t x vs → ∀ v ∈ vs, v.oneCell' = true := by
  intro t
  induction t with
  | bool => intro x vs h; rw [show vs = _ from h]; simp [Value.oneCell']
  | int k => intro x vs h; rw [show vs = _ from h]; simp [Value.oneCell']
  | str => intro x vs h; rw [show vs = _ from h]; simp [Value.oneCell']
  | sl t ih => rintro l vs ⟨A, c, e, _⟩; rw [e]; simp [Value.oneCell']
  | arr n t ih => intro x vs h; exact h.elim
  | unit => intro x vs h; exact h.elim
  | pair a b iha ihb =>
    rintro x vs ⟨v1, v2, e, h1, h2⟩ v hv
    rw [e] at hv
    rcases List.mem_append.1 hv with h | h
    · exact iha _ _ h1 v h
    · exact ihb _ _ h2 v h

theorem RR_length {M : Mem} (t : Ty) : ∀ (l : List t.I) (ws : List Value), RR M t l ws → ws.length = l.length * t.sz
  | [], ws, h => by rw [show ws = [] from h]; simp
  | x :: l, ws, ⟨a, b, e, h1, h2⟩ => by rw [e, List.length_append, CR_length t x a h1, RR_length t l b h2, List.length_cons, Nat.add_mul]; omega

theorem RR_one {M : Mem} (t : Ty) : ∀ (l : List t.I) (ws : List Value), RR M t l ws → ∀ v ∈ ws, v.oneCell' = true
  | [], ws, h => by rw [show ws = [] from h]; simp
  | x :: l, ws, ⟨a, b, e, h1, h2⟩ => by
    intro v hv
    rw [e] at hv
    rcases List.mem_append.1 hv with h | h
    · exact CR_one t x a h1 v h
    · exact RR_one t l b h2 v h

theorem RR_append {M : Mem} (t : Ty) : ∀ (l : List t.I) (ws : List Value) (l' : List t.I) (ws' : List Value), RR M t l ws → RR M t l' ws' → RR M t (l ++ l') (ws ++ ws')
  | [], ws, l', ws', h, k => by rw [show ws = [] from h]; exact k
  | x :: l, ws, l', ws', ⟨a, b, e, h1, h2⟩, k => ⟨a, b ++ ws', by rw [e, List.append_assoc], h1, RR_append t l b l' ws' h2 k⟩

theorem RR_get {M : Mem} (t : Ty) : ∀ (l : List t.I) (ws : List Value), RR M t l ws → ∀ (i : Nat) (x : t.I), l[i]? = some x → ∃ a, CR M t x a ∧ a.length = t.sz ∧ (ws.drop (i * t.sz)).take t.sz = a
  | [], ws, h, i, x, hi => by simp at hi
  | y :: l, ws, ⟨a, b, e, h1, h2⟩, 0, x, hi => by
    simp at hi
    subst hi
    have := CR_length t y a h1
    exact ⟨a, h1, this, by rw [e]; simp [← this]⟩
  | y :: l, ws, ⟨a, b, e, h1, h2⟩, i + 1, x, hi => by
    obtain ⟨c, hc, hl, hd⟩ := RR_get t l b h2 i x (by simpa using hi)
    refine ⟨c, hc, hl, ?_⟩
    have ha := CR_length t y a h1
    rw [e, Nat.add_mul, Nat.one_mul, Nat.add_comm, ← List.drop_drop]
    rw [← ha, List.drop_left, ha]
    exact hd

theorem RR_cell {M : Mem} (t : Ty) (l : List t.I) (ws : List Value) (h : RR M t l ws) (i : Nat) (x : t.I) (hi : l[i]? = some x) : ∃ a, CR M t x a ∧ ∀ j v, a[j]? = some v → ws[i * t.sz + j]? = some v := by
  obtain ⟨a, hc, hl, hd⟩ := RR_get t l ws h i x hi
  refine ⟨a, hc, fun j v hj => ?_⟩
  have hlt : j < a.length := (List.getElem?_eq_some_iff.1 hj).1
  rw [← hd, List.getElem?_take_of_lt (by omega), List.getElem?_drop] at hj
  exact hj

theorem leaves_VRL {g : G} : ∀ (t : Ty) (x : t.I) (vs : List Value), t.flat = true → CR g.M t x vs → VRL g (leaves t x) vs := by
  intro t
  induction t with
  | bool => intro x vs _ h; rw [show vs = _ from h]; exact ⟨rfl, trivial⟩
  | int k => intro x vs _ h; rw [show vs = _ from h]; exact ⟨rfl, trivial⟩
  | str => intro x vs _ h; rw [show vs = _ from h]; exact ⟨rfl, trivial⟩
  | sl t ih =>
    intro l vs hf h
    have h' := h
    obtain ⟨A, c, e, _⟩ := h
    subst e
    exact ⟨⟨by simpa [Ty.flat] using hf, h'⟩, trivial⟩
  | arr n t ih => intro x vs _ h; exact h.elim
  | unit => intro x vs _ h; exact h.elim
  | pair a b iha ihb =>
    rintro x vs hf ⟨v1, v2, e, h1, h2⟩
    simp only [Ty.flat, Bool.and_eq_true] at hf
    rw [e]
    exact VRL_append (iha _ _ hf.1 h1) (ihb _ _ hf.2 h2)

theorem leaves_length : ∀ (t : Ty) (x : t.I), t.flat = true → (leaves t x).length = t.sz := by
  intro t
  induction t with
  | bool => intro x _; rfl
  | int k => intro x _; rfl
  | str => intro x _; rfl
  | sl t ih => intro x _; rfl
  | arr n t ih => intro x h; simp [Ty.flat] at h
  | unit => intro x h; simp [Ty.flat] at h
  | pair a b iha ihb =>
    intro x hf
    simp only [Ty.flat, Bool.and_eq_true] at hf
    simp [leaves, iha _ hf.1, ihb _ hf.2, Ty.sz]

/-- what is packed was there -/
theorem leafK_sound {R : Type} {g : G} (t : Ty) (h1 : ∀ (x : t.I) (v : Value), DV g.M t x v → CR g.M t x [v]) (cs : List AV) (vs : List Value) (κ : t.I → List AV → Option R) (r : R)
    (h : leafK t cs κ = some r) (hc : VRL g cs vs) : ∃ x cs' v1 v2, κ x cs' = some r ∧ vs = v1 ++ v2 ∧ CR g.M t x v1 ∧ VRL g cs' v2 := by
  unfold leafK at h
  split at h
  · rename_i t' x rest
    split at h
    · rename_i ht
      subst ht
      cases vs with
      | nil => exact hc.elim
      | cons v vs =>
        obtain ⟨hv, hr⟩ := hc
        exact ⟨x, rest, [v], vs, h, rfl, h1 x v hv, hr⟩
    · cases h
  · cases h

theorem packK_sound {R : Type} {g : G} : ∀ (t : Ty) (cs : List AV) (vs : List Value) (κ : t.I → List AV → Option R) (r : R), t.flat = true →
    packK t cs κ = some r → VRL g cs vs → ∃ x cs' v1 v2, κ x cs' = some r ∧ vs = v1 ++ v2 ∧ CR g.M t x v1 ∧ VRL g cs' v2 := by
  intro t
  induction t with
  | bool => intro cs vs κ r _ h hc; exact leafK_sound .bool (fun x v hv => by rw [show v = _ from hv]; rfl) cs vs κ r (by simpa [packK] using h) hc
  | int k => intro cs vs κ r _ h hc; exact leafK_sound (.int k) (fun x v hv => by rw [show v = _ from hv]; rfl) cs vs κ r (by simpa [packK] using h) hc
  | str => intro cs vs κ r _ h hc; exact leafK_sound .str (fun x v hv => by rw [show v = _ from hv]; rfl) cs vs κ r (by simpa [packK] using h) hc
  | sl t ih =>
    intro cs vs κ r _ h hc
    rw [show packK (.sl t) cs κ = slK t cs κ from rfl] at h
    unfold slK at h
    split at h
    · rename_i rest
      cases vs with
      | nil => exact hc.elim
      | cons v vs =>
        obtain ⟨hv, hr⟩ := hc
        exact ⟨[], rest, [v], vs, h, rfl, ⟨none, 0, by rw [show v = _ from hv]; rfl, Nat.le_refl _, fun i x hi => by simp at hi⟩, hr⟩
    · exact leafK_sound (.sl t) (fun x v hv => hv.2) _ vs κ r h hc
  | arr n t ih => intro cs vs κ r hf; simp [Ty.flat] at hf
  | unit => intro cs vs κ r hf; simp [Ty.flat] at hf
  | pair a b iha ihb =>
    intro cs vs κ r hf h hc
    simp only [Ty.flat, Bool.and_eq_true] at hf
    unfold packK at h
    obtain ⟨x, cs1, v1, v2, hk, e, hx, hr⟩ := iha cs vs _ r hf.1 h hc
    obtain ⟨y, cs2, v3, v4, hk2, e2, hy, hr2⟩ := ihb cs1 v2 _ r hf.2 hk hr
    exact ⟨(x, y), cs2, v1 ++ v3, v4, hk2, by rw [e, e2, List.append_assoc], ⟨v1, v3, rfl, hx, hy⟩, hr2⟩
end Go.Den
