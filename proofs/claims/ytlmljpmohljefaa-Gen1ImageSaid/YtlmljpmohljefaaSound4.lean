/- Loads and stores. -/
import Derived.Test.YtlmljpmohljefaaSound3
set_option linter.unusedVariables false
set_option linter.unusedSimpArgs false
namespace Go.Den
variable {P : Program}

theorem add_add (a : Addr) (m n : Nat) : (a.add m).add n = a.add (m + n) := by
  unfold Addr.add
  by_cases h1 : m = 0
  · subst h1; simp
  · by_cases h2 : n = 0
    · subst h2; simp [h1]
    · have : m + n ≠ 0 := by omega
      simp [h1, h2, this, Nat.add_assoc]

theorem add_at (b m : Nat) : (⟨b, 0, none⟩ : Addr).add m = ⟨b, m, none⟩ := by unfold Addr.add; split <;> simp_all

def aggD : TypeDesc → Bool
  | .struct _ => true
  | .array _ _ => true
  | _ => false

theorem run_isAggD {t : TypeId} {d : TypeDesc} (hu : P.underlying t = some d) (w : World) : (isAgg t).run P w = .ok (aggD d) w := by
  unfold isAgg
  rw [Sem.run_bind, run_underlying hu w]
  cases d <;> rfl

theorem run_sizeD {t : TypeId} {i : TypeInfo} (hi : P.info? t = some i) (w : World) : (sizeOf t).run P w = .ok i.size w := by
  simp [sizeOf, typeInfo, hi]

theorem run_zeroD {t : TypeId} {i : TypeInfo} {z : Value} (hi : P.info? t = some i) (hz : i.zero = some z) (w : World) : (zeroValue t).run P w = .ok z w := by
  simp [zeroValue, typeInfo, hi, hz]

theorem run_loadVar_agg {t : TypeId} {d : TypeDesc} {i : TypeInfo} (w : World) (hi : P.info? t = some i) (hu : P.underlying t = some d) (hd : aggD d = true) (a : Addr) (cs : List Value) (hl : cs.length = i.size)
    (h : ∀ j v, cs[j]? = some v → w.cell? (a.add j) = some v) : (loadVar t a).run P w = .ok (.agg cs.toArray) w := by
  have h1 := run_loadCells_list (P := P) w a cs h
  rw [hl] at h1
  simp [loadVar, Sem.run_bind, run_isAggD hu, hd, run_sizeD hi, h1]

theorem run_loadVar_one {t : TypeId} {d : TypeDesc} (w : World) (hu : P.underlying t = some d) (hd : aggD d = false) (a : Addr) (v : Value) (h : w.cell? a = some v) : (loadVar t a).run P w = .ok v w := by
  simp [loadVar, Sem.run_bind, run_isAggD hu, hd, load, Sem.run, h]

theorem TOk.get {Θ : Nat → TD} (h : TOk P Θ) (t : Nat) (hk : (Θ t).k ≠ .other) : TRow P t (Θ t) := by
  rcases h t with e | e
  · rw [e] at hk; exact absurd rfl hk
  · exact e

theorem TOk.ty {Θ : Nat → TD} (h : TOk P Θ) {t : Nat} {ty : Ty} (hk : (Θ t).ty = some ty) : TRow P t (Θ t) := by
  rcases h t with e | e
  · rw [e] at hk; cases hk
  · exact e

/-- what fromCells takes is there -/
theorem fromCells_sound {R : Type} {Θ : Nat → TD} (hΘ : TOk P Θ) {g : G} {w : World} (t : Nat) (cs : List AV) (ws : List Value) (ad : Addr) (κ : AV → Option R) (r : R)
    (h : fromCells Θ t cs κ = some r) (hc : VRL g cs ws) (h1 : ∀ u ∈ ws, u.oneCell' = true) (hm : ∀ j v, ws[j]? = some v → w.cell? (ad.add j) = some v) :
    ∃ av v, κ av = some r ∧ VR g av v ∧ (loadVar t ad).run P w = .ok v w := by
  have hne : (Θ t).k ≠ .other := by intro e; unfold fromCells at h; rw [e] at h; cases h
  obtain ⟨i, d, z, hi, hu, hk, hs, hn, hz, hzz, hzs, hz1, hty⟩ := (hΘ.get t hne).row
  have one : ∀ (hd : aggD d = false), headK cs κ = some r → ∃ av v, κ av = some r ∧ VR g av v ∧ (loadVar t ad).run P w = .ok v w := by
    intro hd h
    cases cs with
    | nil => cases h
    | cons c cs =>
      cases ws with
      | nil => exact hc.elim
      | cons v ws => exact ⟨c, v, h, hc.1, run_loadVar_one w hu hd ad v (by have := hm 0 v rfl; simpa [Addr.add] using this)⟩
  unfold fromCells at h
  cases d with
  | struct fs =>
    rw [hk] at h
    simp only [kOf] at h
    split at h
    · rename_i hle
      refine ⟨_, .agg (ws.take (Θ t).sz).toArray, h, ⟨_, rfl, VRL_take _ hc, fun u hu => h1 u (List.mem_of_mem_take hu)⟩, ?_⟩
      refine run_loadVar_agg w hi hu rfl ad _ (by rw [List.length_take, ← VRL_length hc, hs]; omega) fun j v hj => ?_
      refine hm j v ?_
      rw [List.getElem?_take] at hj
      split at hj
      · exact hj
      · cases hj
    · cases h
  | array n e => rw [hk] at h; cases h
  | bool => rw [hk] at h; exact one rfl h
  | int k => rw [hk] at h; exact one rfl h
  | string => rw [hk] at h; exact one rfl h
  | pointer e => rw [hk] at h; exact one rfl h
  | slice e => rw [hk] at h; exact one rfl h
  | func a b c => rw [hk] at h; exact one rfl h
  | invalid => rw [hk] at hne; exact absurd rfl hne
  | float k => rw [hk] at hne; exact absurd rfl hne
  | complex k => rw [hk] at hne; exact absurd rfl hne
  | unsafePointer => rw [hk] at hne; exact absurd rfl hne
  | map a b => rw [hk] at hne; exact absurd rfl hne
  | chan a b => rw [hk] at hne; exact absurd rfl hne
  | interface m => rw [hk] at hne; exact absurd rfl hne
  | tuple m => rw [hk] at hne; exact absurd rfl hne
  | named a b => rw [hk] at hne; exact absurd rfl hne

/-- an element, where it lies -/
theorem row_elem {g : G} {w : World} {t : Ty} {l : List t.I} {ws : List Value} {base e : Nat} {v : Value} {i : Int} {x : t.I}
    (ho : w.ownsRow base e t.sz v l.length ws) (hr : RR g.M t l ws) (hi : idx l i = some x) :
    ∃ p us, baseOf v = some p ∧ CR g.M t x us ∧ ∀ j u, us[j]? = some u → w.cell? (p.add (i.toNat * t.sz + j)) = some u := by
  unfold idx at hi
  split at hi
  · obtain ⟨us, hc, hu⟩ := RR_cell t l ws hr i.toNat x hi
    have hlt : i.toNat < l.length := (List.getElem?_eq_some_iff.1 hi).1
    rcases ho.2 with ⟨rfl, h0⟩ | ⟨b, cap, cur, rfl, hb⟩
    · omega
    · exact ⟨⟨b, 0, none⟩, us, rfl, hc, fun j u hj => ho.cells rfl _ _ (hu j u hj)⟩
  · cases hi

theorem arr_elem {g : G} {w : World} {t : Ty} {l : List t.I} {ws : List Value} {b : Nat} {ty : TypeId} {fr : Nat × Nat} {i : Int} {x : t.I}
    (hh : w.heap[b]? = some (.cells ws.toArray ty fr)) (hr : RR g.M t l ws) (hi : idx l i = some x) :
    ∃ us, CR g.M t x us ∧ ∀ j u, us[j]? = some u → w.cell? ((⟨b, 0, none⟩ : Addr).add (i.toNat * t.sz + j)) = some u := by
  unfold idx at hi
  split at hi
  · obtain ⟨us, hc, hu⟩ := RR_cell t l ws hr i.toNat x hi
    refine ⟨us, hc, fun j u hj => ?_⟩
    rw [add_at, cell_of_row w b _ _ ty fr hh]
    simpa using hu j u hj
  · cases hi

theorem loadK_sound {R : Type} {Θ : Nat → TD} (hΘ : TOk P Θ) {B : Base} {g : G} {o : Objs} {w : World} (hw : WInv B g o w) (t : Nat) (x : AV) (v : Value) (κ : AV → Option R) (r : R)
    (h : loadK Θ t x o κ = some r) (hx : VR g x v) : ∃ av u, κ av = some r ∧ VR g av u ∧ (Instr.loadAt t v).run P w = .ok u w := by
  have key : ∀ (ad : Addr), v = .pointer (some ad) → (Instr.loadAt t v).run P w = (loadVar t ad).run P w := by
    intro ad e; subst e; simp [Instr.loadAt, Instr.sureAddr]
  unfold loadK at h
  split at h
  · rename_i n off
    obtain ⟨p, z, hE, rfl⟩ := hx
    rw [key _ rfl]
    split at h
    · rename_i cs hn
      obtain ⟨b, ws, ty, hE2, hh, hc, h1, hm⟩ := hw.objs n _ hn
      rw [hE2] at hE
      cases hE
      refine fromCells_sound hΘ t (cs.drop off) (ws.drop off) _ κ r h (VRL_drop off hc) (fun u hu => h1 u (List.mem_of_mem_drop hu)) fun j u hj => ?_
      rw [add_add, add_at, cell_of_row w b _ _ ty _ hh]
      rw [List.getElem?_drop] at hj
      simpa using hj
    · rename_i m e l hn
      obtain ⟨b, ws, ty, hE2, ⟨hf, hlm⟩, hh, hr, hm⟩ := hw.objs n _ hn
      rw [hE2] at hE
      cases hE
      split at h
      · rename_i m' el hk
        split at h
        · rename_i hc
          obtain ⟨rfl, hsz⟩ := hc
          obtain ⟨i, d, zz, hi, hu, hk2, hs, _⟩ := (hΘ.get t (by rw [hk]; simp)).row
          have hd : aggD d = true := by rw [hk] at hk2; cases d <;> simp [kOf] at hk2 <;> rfl
          refine ⟨_, .agg ws.toArray, h, ⟨hf, hlm, ws, rfl, hr⟩, ?_⟩
          refine run_loadVar_agg w hi hu hd _ ws (by rw [RR_length e l ws hr, hlm, ← hs, hsz]) fun j u hj => ?_
          rw [add_add, add_at, cell_of_row w b _ _ ty _ hh]
          simpa using hj
        · cases h
      · cases h
    · cases h
  · rename_i cs
    obtain ⟨ad, ws, rfl, hc, hm⟩ := hx
    rw [key _ rfl]
    exact fromCells_sound hΘ t cs ws ad κ r h hc (fun u hu => by
      obtain ⟨j, hj⟩ := List.getElem?_of_mem hu
      exact (hw.mem _ _ (hm j u hj)).2) fun j u hj => (hw.mem _ _ (hm j u hj)).1
  · rename_i n i off
    obtain ⟨p, z, u0, hE, hb, rfl⟩ := hx
    rw [key _ rfl]
    split at h
    · rename_i e t' l frz hn
      obtain ⟨v', ws, hE2, hf, ho, hr, hm⟩ := hw.objs n _ hn
      rw [hE2] at hE
      cases hE
      split at h
      · rename_i x hi
        obtain ⟨p', us, hb', hc, hu⟩ := row_elem ho hr hi
        rw [hb] at hb'
        cases hb'
        refine fromCells_sound hΘ t _ (us.drop off) _ κ r h (VRL_drop off (leaves_VRL t' x us hf hc)) (fun u hu => CR_one t' x us hc u (List.mem_of_mem_drop hu)) fun j u hj => ?_
        rw [List.getElem?_drop] at hj
        rw [add_add, Nat.add_assoc]
        exact hu _ _ hj
      · cases h
    · rename_i m t' l hn
      obtain ⟨b, ws, ty, hE2, ⟨hf, hlm⟩, hh, hr, hm⟩ := hw.objs n _ hn
      rw [hE2] at hE
      cases hE
      cases hb
      split at h
      · rename_i x hi
        obtain ⟨us, hc, hu⟩ := arr_elem hh hr hi
        refine fromCells_sound hΘ t _ (us.drop off) _ κ r h (VRL_drop off (leaves_VRL t' x us hf hc)) (fun u hu => CR_one t' x us hc u (List.mem_of_mem_drop hu)) fun j u hj => ?_
        rw [List.getElem?_drop] at hj
        rw [add_add, Nat.add_assoc]
        exact hu _ _ hj
      · cases h
    · cases h
  · cases h
end Go.Den
