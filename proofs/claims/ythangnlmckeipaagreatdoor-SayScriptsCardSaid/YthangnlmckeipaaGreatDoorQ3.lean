/- Acts as words, there and back. -/
import Derived.Test.YthangnlmckeipaaGreatDoorQ2
set_option linter.unusedVariables false
set_option linter.unusedSimpArgs false
namespace Go.Say
open Go.Lib

abbrev Word := List UInt8
structure Deed where
  kind : Int
  i : Int
  k : Int
  at' : Int
  by' : Int
  lo : Int
  hi : Int
  bag : List (Int × List Int)
  draws : List Int

def zero (k : Int) : Deed := ⟨k, 0, 0, 0, 0, 0, 0, [], []⟩

def i64 (v : Int) : Prop := -9223372036854775808 ≤ v ∧ v ≤ 9223372036854775807
def fieldOk (f : Int × List Int) : Prop := i64 f.1 ∧ ∀ c ∈ f.2, 0 ≤ c ∧ c ≤ 255

structure Ok (a : Deed) : Prop where
  i : i64 a.i
  k : i64 a.k
  at' : i64 a.at'
  by' : i64 a.by'
  bag : ∀ f ∈ a.bag, fieldOk f
  draws : ∀ d ∈ a.draws, i64 d

def names : List Word := [[], [115, 116, 97, 114, 116], [115, 116, 111, 112], [116, 105, 99, 107], [100, 101, 108, 105, 118, 101, 114], [108, 111, 115, 101], [99, 111, 112, 121], [116, 117, 114, 110], [99, 104, 111, 112], [106, 111, 105, 110], [108, 101, 97, 118, 101], [99, 104, 97, 110, 103, 101]]
def partsOf : List (List Nat) := [[], [0, 4, 5], [0], [0, 6], [1], [1], [1], [1, 2, 3], [1, 2], [0, 1], [0], [0, 5]]

def spanOk (lo hi : Int) : Bool := decide (1 ≤ lo ∧ lo ≤ hi ∧ hi ≤ 3)
def spanT (lo hi : Int) : Word := [UInt8.ofNat (48 + lo.toNat), 45, UInt8.ofNat (48 + hi.toNat)]
def spanR (w : Word) : Option (Int × Int) := match w with
  | [a, m, b] => if m = 45 ∧ spanOk ((a.toNat : Int) - 48) ((b.toNat : Int) - 48) = true then some ((a.toNat : Int) - 48, (b.toNat : Int) - 48) else none
  | _ => none

theorem span_there {lo hi : Int} (h : spanOk lo hi = true) : spanR (spanT lo hi) = some (lo, hi) := by
  have h' := of_decide_eq_true h
  have e1 : (UInt8.ofNat (48 + lo.toNat)).toNat = 48 + lo.toNat := by simp [UInt8.toNat_ofNat']; omega
  have e2 : (UInt8.ofNat (48 + hi.toNat)).toNat = 48 + hi.toNat := by simp [UInt8.toNat_ofNat']; omega
  have f1 : ((48 + lo.toNat : Nat) : Int) - 48 = lo := by omega
  have f2 : ((48 + hi.toNat : Nat) : Int) - 48 = hi := by omega
  unfold spanT spanR
  simp only [e1, e2, f1, f2, h, and_self, if_true]
theorem span_back {w : Word} {lo hi : Int} (h : spanR w = some (lo, hi)) : w = spanT lo hi ∧ spanOk lo hi = true := by
  unfold spanR at h
  split at h
  · rename_i a m b
    split at h
    · rename_i hc
      simp only [Option.some.injEq, Prod.mk.injEq] at h
      obtain ⟨rfl, rfl⟩ := h
      have h' := of_decide_eq_true hc.2
      refine ⟨?_, hc.2⟩
      unfold spanT
      have f1 : 48 + ((a.toNat : Int) - 48).toNat = a.toNat := by omega
      have f2 : 48 + ((b.toNat : Int) - 48).toNat = b.toNat := by omega
      rw [f1, f2, hc.1]
      simp
    · cases h
  · cases h

def say (a : Deed) : Nat → List Word
  | 0 => [itoa a.i]
  | 1 => [itoa a.k]
  | 2 => [itoa a.at']
  | 3 => [itoa a.by']
  | 4 => [spanT a.lo a.hi]
  | 5 => a.bag.map fieldW
  | 6 => a.draws.map itoa
  | _ => []

def words (k : Nat) (a : Deed) : List Word := names.getD k [] :: (partsOf.getD k []).flatMap (say a)

def mv1 (a to : Deed) : Nat → Deed
  | 0 => { to with i := a.i }
  | 1 => { to with k := a.k }
  | 2 => { to with at' := a.at' }
  | 3 => { to with by' := a.by' }
  | 4 => { to with lo := a.lo, hi := a.hi }
  | 5 => { to with bag := a.bag }
  | 6 => { to with draws := a.draws }
  | _ => to
def bare (k : Nat) (a : Deed) : Deed := (partsOf.getD k []).foldl (mv1 a) (zero a.kind)

def readAll {α : Type} (f : Word → Option α) : List Word → Option (List α)
  | [] => some []
  | w :: ws => match f w with
    | none => none
    | some x => match readAll f ws with
      | none => none
      | some l => some (x :: l)
theorem readAll_map {α : Type} (f : Word → Option α) (g : α → Word) : ∀ l : List α, (∀ x ∈ l, f (g x) = some x) → readAll f (l.map g) = some l
  | [], _ => rfl
  | x :: l, h => by
    show readAll f (g x :: l.map g) = _
    rw [readAll, h x List.mem_cons_self]
    simp only [readAll_map f g l fun y hy => h y (List.mem_cons_of_mem _ hy)]
theorem readAll_some {α : Type} {f : Word → Option α} : ∀ {ws : List Word} {l : List α} (g : α → Word) (p : α → Prop), (∀ w x, f w = some x → w = g x ∧ p x) → readAll f ws = some l → ws = l.map g ∧ ∀ x ∈ l, p x
  | [], l, g, p, hg, h => by cases h; exact ⟨rfl, by simp⟩
  | w :: ws, l, g, p, hg, h => by
    rw [readAll] at h
    cases hx : f w with
    | none => rw [hx] at h; cases h
    | some x =>
      rw [hx] at h
      simp only at h
      cases hl : readAll f ws with
      | none => rw [hl] at h; cases h
      | some l' =>
        rw [hl] at h
        cases h
        obtain ⟨e1, e2⟩ := hg w x hx
        obtain ⟨e3, e4⟩ := readAll_some g p hg hl
        refine ⟨by rw [e1, e3]; rfl, ?_⟩
        intro y hy
        rcases List.mem_cons.1 hy with rfl | hy
        · exact e2
        · exact e4 y hy

def read : Nat → Deed → List Word → Option (Deed × List Word)
  | 0, a, w :: ws => (parseN w).map fun v => ({ a with i := v }, ws)
  | 1, a, w :: ws => (parseN w).map fun v => ({ a with k := v }, ws)
  | 2, a, w :: ws => (parseN w).map fun v => ({ a with at' := v }, ws)
  | 3, a, w :: ws => (parseN w).map fun v => ({ a with by' := v }, ws)
  | 4, a, w :: ws => (spanR w).map fun s => ({ a with lo := s.1, hi := s.2 }, ws)
  | 5, a, ws => (readAll readW ws).map fun l => ({ a with bag := a.bag ++ l }, [])
  | 6, a, ws => (readAll parseN ws).map fun l => ({ a with draws := a.draws ++ l }, [])
  | _, _, _ => none
def reads : List Nat → Deed → List Word → Option (Deed × List Word)
  | [], a, ws => some (a, ws)
  | j :: js, a, ws => match read j a ws with
    | none => none
    | some (a', ws') => reads js a' ws'
def fin : Option (Deed × List Word) → Option Deed
  | some (a, []) => some a
  | _ => none
def parseK (k : Nat) (ws : List Word) : Option Deed := fin (reads (partsOf.getD k []) (zero k) ws)

theorem parseN_itoa {v : Int} (h : i64 v) : parseN (itoa v) = some v := (parseN_iff _ _).2 ⟨rfl, h.1, h.2⟩
theorem readW_f {f : Int × List Int} (h : fieldOk f) : readW (fieldW f) = some f := readW_field f h.1.1 h.1.2 h.2

/-- what is said is read -/
theorem read_words {k : Nat} (hk : 1 ≤ k ∧ k ≤ 11) {a : Deed} (ha : Ok a) (hkind : a.kind = k) (hs : k = 1 → spanOk a.lo a.hi = true) : parseK k (words k a).tail = some (bare k a) := by
  obtain ⟨kind, i, ak, at', by', lo, hi, bag, draws⟩ := a
  simp only at hkind
  subst hkind
  have hi := parseN_itoa ha.i
  have hk' := parseN_itoa ha.k
  have hat := parseN_itoa ha.at'
  have hby := parseN_itoa ha.by'
  have hb := readAll_map readW fieldW bag fun f hf => readW_f (ha.bag f hf)
  have hd := readAll_map parseN itoa draws fun d hd => parseN_itoa (ha.draws d hd)
  simp only at hi hk' hat hby hb hd
  obtain ⟨h1, h2⟩ := hk
  have : k = 1 ∨ k = 2 ∨ k = 3 ∨ k = 4 ∨ k = 5 ∨ k = 6 ∨ k = 7 ∨ k = 8 ∨ k = 9 ∨ k = 10 ∨ k = 11 := by omega
  rcases this with rfl | rfl | rfl | rfl | rfl | rfl | rfl | rfl | rfl | rfl | rfl
  · have hsp := span_there (hs rfl)
    simp [parseK, words, partsOf, names, say, reads, read, zero, bare, mv1, fin, hi, hsp, hb]
  all_goals simp [parseK, words, partsOf, names, say, reads, read, zero, bare, mv1, fin, hi, hk', hat, hby, hb, hd]

theorem map_some {α β : Type} {o : Option α} {f : α → β} {y : β} (h : o.map f = some y) : ∃ x, o = some x ∧ f x = y := by
  cases o with
  | none => cases h
  | some x => exact ⟨x, rfl, by simpa using h⟩
theorem fin_some {o : Option (Deed × List Word)} {a : Deed} (h : fin o = some a) : o = some (a, []) := by
  unfold fin at h
  split at h
  · cases h; rfl
  · cases h
theorem read_num {w : Word} {v : Int} (h : parseN w = some v) : w = itoa v ∧ i64 v := by
  obtain ⟨h1, h2, h3⟩ := (parseN_iff w v).1 h
  exact ⟨h1, h2, h3⟩
theorem read_field {w : Word} {f : Int × List Int} (h : readW w = some f) : w = fieldW f ∧ fieldOk f := readW_some h
end Go.Say
