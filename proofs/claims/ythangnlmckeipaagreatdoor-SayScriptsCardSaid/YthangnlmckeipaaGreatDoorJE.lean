/- slices.Clone of data: an address of any kind. -/
import Derived.Test.YthangnlmckeipaaGreatDoorJD
set_option linter.unusedVariables false
set_option linter.unusedSimpArgs false
namespace Go.Den
open Go.Shelf Go.Proofs Go.RowKit Go.Lib
variable {P : Program} {ρ : Ren}

set_option maxHeartbeats 2000000 in
set_option maxRecDepth 100000 in
theorem clone_at (L : SlLaysE0.n41 P ρ) (i0 : TypeInfo) (z : Value) (size bytes : Nat) (hi : P.info? (ρ.t 23) = some i0) (hz0 : i0.zero = some z) (hz1 : i0.size = size) (hz2 : i0.bytes = bytes) (hzs : z.cells.size = size) (hsz : 0 < size)
    (z23 : ∀ w, (Go.sizeOf (ρ.t 23)).run P w = .ok size w) (ad : Addr) (n c : Nat) (news : List Value) (w : World) (hl : news.length = n * size) (hn : n ≤ maxLen) (hbig : n * bytes ≤ 140737488355328)
    (hc : ∀ j u, news[j]? = some u → w.cell? (ad.add j) = some u) (h1 : ∀ u ∈ news, u.oneCell' = true) :
    Calls P (ρ.f 41) #[.slice (some ad) n c] w fun e w' => ∃ v', e = .returned v' ∧ w'.ownsRow w.heap.size (ρ.t 23) size v' n news ∧ Below w.heap.size w w' := by
  have mixed := L.mixed; have t4 := L.t4; have a4 := L.a4; have z4 := L.z4; have v4 := L.v4; have t22 := L.t22; have a22 := L.a22; have z22 := L.z22; have v22 := L.v22
  have q22 : ∀ (w : World) (a : Option Addr) (n c n' c' : Nat), (binOp .eql (ρ.t 22) (.slice a n c) (.slice none n' c')).run P w = .ok (.bool a.isNone) w := fun w a n c n' c' => Lib.run_eql_slice_nil w _ _ a n c n' c' L.t22
  have u22 : ∀ w, Sem.run P (underlying (ρ.t 22)) w = .ok (TypeDesc.slice (ρ.t 23)) w := run_underlying t22
  have A : Aside (∀ j u, news[j]? = some u → w.cell? (ad.add j) = some u) := hc
  clear hc
  obtain ⟨_, _, FG⟩ := L.f41
  go_enter FG, SlBodyN.n41_ntmps ρ
  go_wp2_with (at_builtin; refine wpList_append_own _ rfl _ _ (ρ.t 22) rfl w.heap.size (ρ.t 23) i0 z size bytes t22 hi hz0 hz1 hz2 hzs hsz _ _ _ rfl (World.ownsRow_made w #[] 0 (Nat.le_refl _) (Nat.zero_le _) (by simp)) ad n c news rfl ?qc1 ?qc2 ?qc3 ?qc4 ?qc5 ?qc6 ?_)
  case qc1 => exact hl
  case qc2 => exact fun j u hj => Lib.cell?_alloc_some _ (A.out j u hj)
  case qc3 => exact h1
  case qc4 => rw [Nat.zero_add]; exact hn
  case qc5 => rw [Nat.zero_add]; exact hbig
  case qc6 => simp
  intro v' w1 hown hgrow hnil
  go_wp2
  go_ret
  exact ⟨v', rfl, by simpa using hown, ((Below.refl _ w).alloc (Nat.le_refl _) _).grown hgrow (by simp) (by intro k hk; simp [Value.ownBlock] at hk; omega)⟩

noncomputable def s_cloneD (e : Nat) (t : Ty) (bytes : Nat) : Sum := ⟨[.dat (.sl t) false], fun args objs κ => match args, objs with
  | [.d (.sl t') l], [] => if h : t' = t then (if l.length * bytes ≤ 140737488355328 ∧ l.length ≤ maxLen then κ [.row 0] [.row e t (h ▸ l) false] else none) else none
  | _, _ => none⟩
theorem s_cloneD_det (e : Nat) (t : Ty) (bytes : Nat) : SumDet (s_cloneD e t bytes) := fun avs objs R κ => by
  show (s_cloneD e t bytes).run avs objs (two κ) = ((s_cloneD e t bytes).run avs objs (two some)).bind κ
  unfold s_cloneD
  simp only
  split
  · split
    · split <;> rfl
    · rfl
  · rfl

theorem s_cloneD_ok (L : SlLaysE0.n41 P ρ) (i0 : TypeInfo) (z : Value) (t : Ty) (bytes : Nat) (hi : P.info? (ρ.t 23) = some i0) (hz0 : i0.zero = some z) (hz1 : i0.size = t.sz) (hz2 : i0.bytes = bytes) (hzs : z.cells.size = t.sz) (hsz : 0 < t.sz)
    (z23 : ∀ w, (Go.sizeOf (ρ.t 23)).run P w = .ok t.sz w) {fn : Func} {c : Code} (hf : P.funcs[ρ.f 41]? = some fn) (hb : fn.body = some c) (hn : (fn.name == "runtime.NumGoroutine") = false) : SumOk P (ρ.f 41) (s_cloneD (ρ.t 23) t bytes) := by
  refine ⟨⟨fn, c, hf, hb, hn⟩, ?_⟩
  intro R avs objs κ r h B g w vs hw hv
  unfold s_cloneD at h
  simp only at h
  split at h
  · rename_i t' l
    split at h
    case isFalse => cases h
    rename_i ht
    subst ht
    split at h
    case isFalse => cases h
    rename_i hc
    obtain ⟨hbig, hmax⟩ := hc
    match vs, hv with
    | [v1], ⟨⟨hfl, hcr⟩, _⟩ =>
      obtain ⟨A, cc, news, rfl, hr, hm⟩ := CR_cells t' l v1 hcr
      have hnone : atL ([] : List Den.Obj) 0 = none := rfl
      have hlen := RR_length t' l news hr
      have fin : ∀ (v' : Value) (w' : World), w'.ownsRow w.heap.size (ρ.t 23) t'.sz v' l.length news → Below w.heap.size w w' → v'.oneCell' = true → ∃ v, (Ending.returned v' : Ending) = .returned v ∧ ∃ rs os g', κ rs os = some r ∧ WInv B g' (atL os) w' ∧ GE g g' ∧ VR g' (tupOf rs) v := by
        intro v' w' ho hbel hone
        refine ⟨v', rfl, [.row 0], [.row (ρ.t 23) t' l false], _, h, ?_, setE_ge hw hnone (v', t'.sz), ⟨_, setE_at g 0 _, hone⟩⟩
        have e := clone_new hw hnone (ρ.t 23) t' l news v' hfl hr ho hbel
        have e2 : atL [Den.Obj.row (ρ.t 23) t' l false] = upd (atL ([] : List Den.Obj)) 0 (Den.Obj.row (ρ.t 23) t' l false) := by
          funext k
          unfold upd atL
          match k with
          | 0 => rfl
          | k + 1 => simp
        rw [e2]
        exact e
      cases A with
      | none =>
        refine (AnyE.slices_Clone_nil L l.length cc w).mono ?_
        rintro e w' ⟨rfl, rfl⟩
        have hl0 : l.length = 0 := by
          obtain ⟨A', c', e', _, hx⟩ := hcr
          cases e'
          cases l with
          | nil => rfl
          | cons x l => obtain ⟨ad, _, ha, _⟩ := hx 0 x rfl; cases ha
        have hws : news = [] := by
          rw [hl0, Nat.zero_mul] at hlen
          exact List.eq_nil_of_length_eq_zero hlen
        exact fin _ _ ⟨hlen, .inl ⟨rfl, hl0⟩⟩ (Below.refl _ _) rfl
      | some ad =>
        have key := clone_at L i0 z t'.sz bytes hi hz0 hz1 hz2 hzs hsz z23 ad l.length cc news w hlen hmax hbig
          (fun j u hj => (hw.mem _ _ (hm ad rfl j u hj)).1) (RR_one t' l news hr)
        refine key.mono ?_
        rintro e w' ⟨v', rfl, ho, hbel⟩
        refine fin v' w' ho hbel ?_
        rcases ho.2 with ⟨rfl, _⟩ | ⟨_, _, _, rfl, _⟩ <;> rfl
  · cases h
end Go.Den
