/- More single operations. -/
import Derived.Test.YtlmljpmohljefaaSound8
set_option linter.unusedVariables false
set_option linter.unusedSimpArgs false
namespace Go.Den
variable {P : Program}

theorem kd_eq {Θ : Nat → TD} (hΘ : TOk P Θ) {t : Nat} (hk : (Θ t).k ≠ .other) : ∃ d i, P.underlying t = some d ∧ P.info? t = some i ∧ (Θ t).k = kOf d ∧ (Θ t).sz = i.size := by
  obtain ⟨i, d, z, hi, hu, hk2, hs, _⟩ := (hΘ.get t hk).row
  exact ⟨d, i, hu, hi, hk2, hs⟩

theorem sl_of {Θ : Nat → TD} (hΘ : TOk P Θ) {t e : Nat} (hk : (Θ t).k = .sl e) : P.underlying t = some (.slice e) := by
  obtain ⟨d, i, hu, hi, hk2, _⟩ := kd_eq hΘ (t := t) (by rw [hk]; simp)
  rw [hk] at hk2
  cases d <;> simp [kOf] at hk2
  rw [hu, hk2]

theorem str_of {Θ : Nat → TD} (hΘ : TOk P Θ) {t : Nat} (hk : (Θ t).k = .str) : P.underlying t = some .string := by
  obtain ⟨d, i, hu, hi, hk2, _⟩ := kd_eq hΘ (t := t) (by rw [hk]; simp)
  rw [hk] at hk2
  cases d <;> simp [kOf] at hk2
  rw [hu]

theorem int_of {Θ : Nat → TD} (hΘ : TOk P Θ) {t : Nat} {k : IntKind} (hk : (Θ t).k = .int k) : P.underlying t = some (.int k) := by
  obtain ⟨d, i, hu, hi, hk2, _⟩ := kd_eq hΘ (t := t) (by rw [hk]; simp)
  rw [hk] at hk2
  cases d <;> simp [kOf] at hk2
  rw [hu, hk2]

theorem arr_of {Θ : Nat → TD} (hΘ : TOk P Θ) {t n e : Nat} (hk : (Θ t).k = .arr n e) : P.underlying t = some (.array n e) := by
  obtain ⟨d, i, hu, hi, hk2, _⟩ := kd_eq hΘ (t := t) (by rw [hk]; simp)
  rw [hk] at hk2
  cases d <;> simp [kOf] at hk2
  rw [hu, hk2.1, hk2.2]

theorem ptr_of {Θ : Nat → TD} (hΘ : TOk P Θ) {t : Nat} (hk : isPtrK (Θ t).k = true) : ∃ e, P.underlying t = some (.pointer e) := by
  cases hq : (Θ t).k <;> (rw [hq] at hk; simp [isPtrK] at hk)
  rename_i e
  obtain ⟨d, i, hu, hi, hk2, _⟩ := kd_eq hΘ (t := t) (by rw [hq]; simp)
  rw [hq] at hk2
  cases d <;> simp [kOf] at hk2
  exact ⟨_, hu⟩

theorem bool_of {Θ : Nat → TD} (hΘ : TOk P Θ) {t : Nat} (hk : (Θ t).k = .bool) : P.underlying t = some .bool := by
  obtain ⟨d, i, hu, hi, hk2, _⟩ := kd_eq hΘ (t := t) (by rw [hk]; simp)
  rw [hk] at hk2
  cases d <;> simp [kOf] at hk2
  rw [hu]

theorem size_of {Θ : Nat → TD} (hΘ : TOk P Θ) {e n : Nat} (hk : okK (Θ e).k = true) (hn : (Θ e).sz = n) (w : World) : (sizeOf e).run P w = .ok n w := by
  obtain ⟨i, d, z, hi, hu, hk2, hs, _⟩ := (hΘ.ok hk).row
  rw [run_sizeD hi, ← hs, hn]

theorem sizeOk {Θ : Nat → TD} (hΘ : TOk P Θ) {e n : Nat} (h : szOk Θ e n = true) (w : World) : (sizeOf e).run P w = .ok n w := by
  simp only [szOk, Bool.and_eq_true, beq_iff_eq] at h
  exact size_of hΘ h.1 h.2 w

/- len -/
theorem row_slice {w : World} {base e size n : Nat} {v : Value} {xs : List Value} (h : w.ownsRow base e size v n xs) : ∃ A c, v = .slice A n c ∧ n ≤ c := by
  rcases h.2 with ⟨rfl, rfl⟩ | ⟨b, cap, cur, rfl, _, _, hnc, _⟩
  · exact ⟨none, 0, rfl, Nat.le_refl _⟩
  · exact ⟨_, cap, rfl, hnc⟩

theorem len_sound {R : Type} {Θ : Nat → TD} (hΘ : TOk P Θ) {B : Base} {g : G} {o : Objs} {w : World} (hw : WInv B g o w) {t e : Nat} (hk : (Θ t).k = .sl e) (x : AV) (v : Value) (ty : TypeId) (κ : AV → Objs → Option R) (r : R)
    (hx : VR g x v) (h : lenK x o (fun v => κ v o) = some r) (hns : ∀ s, x ≠ .d .str s) : SOk P B g w κ r (Builtin.len_ #[t] ty #[v]) := by
  have hu := sl_of hΘ hk
  have key : ∀ A n c, v = .slice A n c → (Builtin.len_ #[t] ty #[v]).run P w = .ok (.int .i64 n) w := by
    rintro A n c rfl
    simp [Builtin.len_, run_underlying hu, goInt]
  unfold lenK at h
  split at h
  · obtain ⟨_, A, c, e1, _⟩ := hx
    cases e1
    exact SOk.quiet hw _ _ h (key _ _ _ rfl) rfl
  · rename_i s; exact absurd rfl (hns s)
  · rw [show v = _ from hx] at key ⊢
    exact SOk.quiet hw _ _ h (key _ _ _ rfl) rfl
  · rename_i n
    split at h
    · rename_i e' t' l frz hn
      obtain ⟨z, hE, _⟩ := hx
      obtain ⟨v', ws, hE2, hf, ho, hr, hm⟩ := hw.objs n _ hn
      rw [hE2] at hE
      cases hE
      obtain ⟨A, c, rfl, _⟩ := row_slice ho
      exact SOk.quiet hw _ _ h (key _ _ _ rfl) rfl
    · cases h
  · cases h

theorem lenStr_sound {R : Type} {Θ : Nat → TD} (hΘ : TOk P Θ) {B : Base} {g : G} {o : Objs} {w : World} (hw : WInv B g o w) {t : Nat} (hk : (Θ t).k = .str) (s : ByteArray) (v : Value) (ty : TypeId) (κ : AV → Objs → Option R) (r : R)
    (hx : VR g (.d .str s) v) (h : κ (.d (.int .i64) (s.size : Int)) o = some r) : SOk P B g w κ r (Builtin.len_ #[t] ty #[v]) := by
  rw [show v = _ from hx]
  exact SOk.quiet hw _ (.int .i64 s.size) h (by simp [Builtin.len_, run_underlying (str_of hΘ hk), goInt]) rfl

theorem lenArr_sound {R : Type} {Θ : Nat → TD} (hΘ : TOk P Θ) {B : Base} {g : G} {o : Objs} {w : World} (hw : WInv B g o w) {t n e : Nat} (hk : (Θ t).k = .arr n e) (v : Value) (ty : TypeId) (κ : AV → Objs → Option R) (r : R)
    (h : κ (.d (.int .i64) (n : Int)) o = some r) : SOk P B g w κ r (Builtin.len_ #[t] ty #[v]) :=
  SOk.quiet hw _ (.int .i64 n) h (by simp [Builtin.len_, run_underlying (arr_of hΘ hk), goInt]) rfl

/- indexing -/
theorem idx_some {α : Type} {l : List α} {i : Int} {x : α} (h : idx l i = some x) : 0 ≤ i ∧ i.toNat < l.length ∧ l[i.toNat]? = some x := by
  unfold idx at h
  split at h
  · rename_i h0; exact ⟨h0, (List.getElem?_eq_some_iff.1 h).1, h⟩
  · cases h

theorem indexAddr_sound {R : Type} {Θ : Nat → TD} (hΘ : TOk P Θ) {B : Base} {g : G} {o : Objs} {w : World} (hw : WInv B g o w) (t : Nat) (x : AV) (v : Value) (k : IntKind) (i : Int) (κ : AV → Objs → Option R) (r : R)
    (hx : VR g x v) (h : indexAddrK Θ t x i o (fun v => κ v o) = some r) : SOk P B g w κ r (Instr.indexAt t v (.int k i)) := by
  unfold indexAddrK at h
  split at h
  · rename_i e hk
    have hu := sl_of hΘ hk
    have run : ∀ (ad : Addr) (n c sz : Nat), 0 ≤ i → i.toNat < n → (sizeOf e).run P w = .ok sz w → (Instr.indexAt t (.slice (some ad) n c) (.int k i)).run P w = .ok (.pointer (some (ad.add (i.toNat * sz)))) w := by
      intro ad n c sz h0 hlt hsz
      have : 0 ≤ i ∧ i < (n : Int) := ⟨h0, by omega⟩
      simp [Instr.indexAt, asIntOf, run_underlying hu, this, hsz]
    split at h
    · rename_i t' l
      split at h
      case isFalse => cases h
      rename_i hsz
      split at h
      case h_2 => cases h
      rename_i y hi
      obtain ⟨h0, hlt, hy⟩ := idx_some hi
      obtain ⟨hf, A, c, e1, hlc, hxx⟩ := hx
      cases e1
      obtain ⟨ad, ws, rfl, hc, hm⟩ := hxx _ y hy
      refine SOk.quiet hw _ _ h (run ad _ c _ h0 hlt (sizeOk hΘ hsz w)) ⟨_, ws, rfl, leaves_VRL t' y ws hf hc, fun j u hj => ?_⟩
      rw [add_add]
      exact hm j u hj
    · rename_i n
      split at h
      case h_2 => cases h
      rename_i e' t' l frz hn
      split at h
      case isFalse => cases h
      rename_i hsz
      split at h
      case h_2 => cases h
      rename_i y hi
      obtain ⟨h0, hlt, hy⟩ := idx_some hi
      obtain ⟨z, hE, _⟩ := hx
      obtain ⟨v', ws, hE2, hf, ho, hr, hm⟩ := hw.objs n _ hn
      rw [hE2] at hE
      cases hE
      rcases ho.2 with ⟨rfl, h00⟩ | ⟨b, cap, cur, rfl, _⟩
      · omega
      · exact SOk.quiet hw _ _ h (run _ _ cap _ h0 hlt (sizeOk hΘ hsz w)) ⟨_, _, _, hE2, rfl, by rw [Nat.add_zero]⟩
    · cases h
  · rename_i m e hk
    have hu := arr_of hΘ hk
    split at h
    · rename_i n
      split at h
      case h_2 => cases h
      rename_i m' t' l hn
      split at h
      case isFalse => cases h
      rename_i hc
      obtain ⟨hsz, rfl⟩ := hc
      split at h
      case h_2 => cases h
      rename_i y hi
      obtain ⟨h0, hlt, hy⟩ := idx_some hi
      obtain ⟨p, z, hE, rfl⟩ := hx
      obtain ⟨b, ws, ty, hE2, ⟨hf, hlm⟩, hh, hr, hm⟩ := hw.objs n _ hn
      rw [hE2] at hE
      cases hE
      have hb : 0 ≤ i ∧ i < (m' : Int) := ⟨h0, by omega⟩
      refine SOk.quiet hw _ (.pointer (some ((⟨b, 0, none⟩ : Addr).add (i.toNat * t'.sz)))) h ?_ ⟨_, _, _, hE2, rfl, by rw [Nat.add_zero]⟩
      simp [Instr.indexAt, asIntOf, run_underlying hu, Instr.sureAddr, hb, sizeOk hΘ hsz w, Addr.add]
    · cases h
  · cases h
/- a cut -/
theorem optI_some {g : G} {lo : Option AV} {lv : Option Value} {x : Option Int} (h : optI lo = some x) (hl : ∀ a, lo = some a → ∃ v, lv = some v ∧ VR g a v) (hl0 : lo = none → lv = none) :
    (x = none ∧ lv = none) ∨ ∃ a k, x = some a ∧ lv = some (.int k a) := by
  unfold optI at h
  split at h
  · cases h; exact .inl ⟨rfl, hl0 rfl⟩
  · rename_i k a
    cases h
    obtain ⟨v, rfl, hv⟩ := hl _ rfl
    exact .inr ⟨a, k, rfl, by rw [show v = _ from hv]⟩
  · cases h

theorem cutK_sound {R : Type} {g : G} {w : World} (lo hi : Option AV) (lv hv : Option Value) (n c : Nat) (isSlice : Bool) (k : Nat → Nat → Option R) (r : R) (h : cutK lo hi n k = some r) (hnc : n ≤ c)
    (hl : ∀ a, lo = some a → ∃ v, lv = some v ∧ VR g a v) (hl0 : lo = none → lv = none) (hh : ∀ a, hi = some a → ∃ v, hv = some v ∧ VR g a v) (hh0 : hi = none → hv = none) :
    ∃ a b, k a b = some r ∧ a ≤ b ∧ b ≤ n ∧ (Instr.sliceBounds isSlice n c lv hv none).run P w = .ok (a, b, c) w := by
  unfold cutK at h
  split at h
  case h_2 => cases h
  rename_i lo' hi' h1 h2
  unfold cutI at h
  rcases optI_some h1 hl hl0 with ⟨rfl, rfl⟩ | ⟨a, k1, rfl, rfl⟩ <;> rcases optI_some h2 hh hh0 with ⟨rfl, rfl⟩ | ⟨b, k2, rfl, rfl⟩ <;> simp only at h
  · exact ⟨0, n, h, Nat.zero_le _, Nat.le_refl _, by simp [Instr.sliceBounds]⟩
  · split at h
    case isFalse => cases h
    rename_i hb
    obtain ⟨hb1, hb2⟩ := hb
    refine ⟨0, b.toNat, h, Nat.zero_le _, by omega, ?_⟩
    have : b ≤ (c : Int) := by omega
    simp [Instr.sliceBounds, Instr.sliceBound, asIntOf, hb1, this]
  · split at h
    case isFalse => cases h
    rename_i hb
    obtain ⟨hb1, hb2⟩ := hb
    refine ⟨a.toNat, n, h, by omega, Nat.le_refl _, ?_⟩
    simp [Instr.sliceBounds, Instr.sliceBound, asIntOf, hb1, hb2]
  · split at h
    case isFalse => cases h
    rename_i hb
    obtain ⟨hb1, hb2, hb3⟩ := hb
    refine ⟨a.toNat, b.toNat, h, by omega, by omega, ?_⟩
    have h1 : 0 ≤ b := by omega
    have h2 : b ≤ (c : Int) := by omega
    have h3 : a ≤ (b.toNat : Int) := by omega
    have h4 : a ≤ max b 0 := by omega
    simp [Instr.sliceBounds, Instr.sliceBound, asIntOf, hb1, h1, h2, h3, h4]

theorem cut_CR {M : Mem} (t : Ty) (l : List t.I) (A : Option Addr) (c a b : Nat) (hab : a ≤ b) (hb : b ≤ l.length) (hf : t.flat = true) (h : CR M (.sl t) l [.slice A l.length c]) :
    CR M (.sl t) ((l.take b).drop a) [.slice (if c = a then A else A.map (·.add (a * t.sz))) (b - a) (c - a)] := by
  obtain ⟨A', c', e, hlc, hx⟩ := h
  cases e
  have hlen : ((l.take b).drop a).length = b - a := by simp; omega
  refine ⟨_, c - a, by rw [hlen], by rw [hlen]; omega, fun i x hi => ?_⟩
  rw [List.getElem?_drop, List.getElem?_take] at hi
  split at hi
  case isFalse => cases hi
  rename_i hlt
  obtain ⟨ad, ws, rfl, hc, hm⟩ := hx (a + i) x hi
  have hne : ¬ c = a := by omega
  refine ⟨ad.add (a * t.sz), ws, by simp [hne], hc, fun j v hj => ?_⟩
  rw [add_add]
  have := hm j v hj
  rw [Nat.add_mul] at this
  rw [← Nat.add_assoc]
  exact this

theorem fromPart_sound' {R : Type} {Θ : Nat → TD} (hΘ : TOk P Θ) {g : G} {w : World} (t : Nat) (cs : List AV) (ws : List Value) (off : Nat) (κ : AV → Option R) (r : R)
    (h : fromCells Θ t cs κ = some r) (a : List Value) (hc : VRL g cs a) (hlt : off + a.length ≤ ws.length) (had : (ws.drop off).take a.length = a) (hsz : a.length = (Θ t).sz) (h1 : ∀ u ∈ ws, u.oneCell' = true) :
    ∃ av v, κ av = some r ∧ VR g av v ∧ (part t ws.toArray off).run P w = .ok v w := by
  have hne : (Θ t).k ≠ .other := by intro e; unfold fromCells at h; rw [e] at h; cases h
  obtain ⟨i, d, z, hi, hu, hk, hs, hn, hz, hzz, hzs, hz1, hty⟩ := (hΘ.get t hne).row
  have one : ∀ (hd : aggD d = false), headK cs κ = some r → ∃ av v, κ av = some r ∧ VR g av v ∧ (part t ws.toArray off).run P w = .ok v w := by
    intro hd h
    unfold headK at h
    cases cs with
    | nil => cases h
    | cons c rest =>
      cases a with
      | nil => exact hc.elim
      | cons v vs =>
        refine ⟨c, v, h, hc.1, run_part_one w hu hd _ off v ?_⟩
        have : ((ws.drop off).take (vs.length + 1))[0]? = some v := by rw [List.length_cons] at had; rw [had]; rfl
        rw [List.getElem?_take_of_lt (by omega), List.getElem?_drop] at this
        simpa using this
  unfold fromCells at h
  cases d with
  | struct fs =>
    rw [hk] at h
    simp only [kOf] at h
    split at h
    · rename_i hle
      have hal := VRL_length hc
      refine ⟨_, .agg a.toArray, h, ⟨_, rfl, by rw [List.take_of_length_le (by omega)]; exact hc, fun u hu => h1 u (by rw [← had] at hu; exact List.mem_of_mem_drop (List.mem_of_mem_take hu))⟩, ?_⟩
      rw [run_part_agg w hi hu rfl, ← hs, ← hsz]
      congr 2
      apply Array.ext'
      simp only [Array.toList_extract, List.extract_eq_take_drop, Nat.add_sub_cancel_left]
      exact had
    · cases h
  | array n e => rw [hk] at h; cases h
  | bool => rw [hk] at h; exact one rfl h
  | int k => rw [hk] at h; exact one rfl h
  | string => rw [hk] at h; exact one rfl h
  | pointer e => rw [hk] at h; exact one rfl h
  | slice e => rw [hk] at h; exact one rfl h
  | func a b c => rw [hk] at h; exact one rfl h
  | invalid => rw [hk] at hne; exact absurd rfl hne
  | float k => rw [hk] at hne; exact absurd rfl hne
  | complex k => rw [hk] at hne; exact absurd rfl hne
  | unsafePointer => rw [hk] at hne; exact absurd rfl hne
  | map a b => rw [hk] at hne; exact absurd rfl hne
  | chan a b => rw [hk] at hne; exact absurd rfl hne
  | interface m => rw [hk] at hne; exact absurd rfl hne
  | tuple m => rw [hk] at hne; exact absurd rfl hne
  | named a b => rw [hk] at hne; exact absurd rfl hne

theorem slice_sound {R : Type} {Θ : Nat → TD} (hΘ : TOk P Θ) {B : Base} {g : G} {o : Objs} {w : World} (hw : WInv B g o w) (t : Nat) (x : AV) (v : Value) (lo hi : Option AV) (lv hv : Option Value) (κ : AV → Objs → Option R) (r : R)
    (h : sliceK Θ t x lo hi o κ = some r) (hx : VR g x v)
    (hl : ∀ a, lo = some a → ∃ v, lv = some v ∧ VR g a v) (hl0 : lo = none → lv = none) (hh : ∀ a, hi = some a → ∃ v, hv = some v ∧ VR g a v) (hh0 : hi = none → hv = none) :
    SOk P B g w κ r (Instr.sliceAt t v lv hv none) := by
  unfold sliceK at h
  split at h
  · rename_i hk
    have hu := str_of hΘ hk
    split at h
    · rename_i s
      obtain ⟨a, b, hk2, hab, hbn, hrun⟩ := cutK_sound (P := P) (w := w) lo hi lv hv s.size s.size false _ r h (Nat.le_refl _) hl hl0 hh hh0
      rw [show v = _ from hx]
      exact SOk.quiet hw _ (.string (s.extract a b)) hk2 (by simp [Instr.sliceAt, Instr.slice, run_underlying hu, hrun]) rfl
    · cases h
  · rename_i e hk
    have hu := sl_of hΘ hk
    have run : ∀ (A : Option Addr) (n c sz a b : Nat), (sizeOf e).run P w = .ok sz w → (Instr.sliceBounds true n c lv hv none).run P w = .ok (a, b, c) w →
        (Instr.sliceAt t (.slice A n c) lv hv none).run P w = .ok (.slice (if c = a then A else A.map (·.add (a * sz))) (b - a) (c - a)) w := by
      intro A n c sz a b hsz hb
      simp [Instr.sliceAt, Instr.slice, run_underlying hu, hb, hsz]
    split at h
    · rename_i t' l
      split at h
      case isFalse => cases h
      rename_i hsz
      obtain ⟨hf, hcr⟩ := hx
      have hcr' := hcr
      obtain ⟨A, c, e1, hlc, hxx⟩ := hcr
      cases e1
      obtain ⟨a, b, hk2, hab, hbn, hrun⟩ := cutK_sound (P := P) (w := w) lo hi lv hv l.length c true _ r h hlc hl hl0 hh hh0
      exact SOk.quiet hw _ _ hk2 (run A _ c _ a b (sizeOk hΘ hsz w) hrun) ⟨hf, cut_CR t' l A c a b hab hbn hf hcr'⟩
    · rename_i n
      split at h
      case h_2 => cases h
      rename_i e' t' l frz hn
      split at h
      case isFalse => cases h
      rename_i hsz
      obtain ⟨z, hE, _⟩ := hx
      obtain ⟨M', hw', hg, hf, hcr⟩ := freeze_sound hw hn hE
      have hcr' := hcr
      obtain ⟨A, c, e1, hlc, hxx⟩ := hcr
      cases e1
      obtain ⟨a, b, hk2, hab, hbn, hrun⟩ := cutK_sound (P := P) (w := w) lo hi lv hv l.length c true _ r h hlc hl hl0 hh hh0
      exact ⟨_, _, _, w, _, hk2, run A _ c _ a b (sizeOk hΘ hsz w) hrun, hw', hg, ⟨hf, cut_CR t' l A c a b hab hbn hf hcr'⟩⟩
    · cases h
  · cases h

theorem index_sound {R : Type} {Θ : Nat → TD} (hΘ : TOk P Θ) {B : Base} {g : G} {o : Objs} {w : World} (hw : WInv B g o w) (t : Nat) (x : AV) (v : Value) (k : IntKind) (i : Int) (κ : AV → Objs → Option R) (r : R)
    (hx : VR g x v) (h : indexK Θ t x i (fun v => κ v o) = some r) : SOk P B g w κ r (Instr.index t v (.int k i)) := by
  unfold indexK at h
  split at h
  · rename_i hk
    have hu := str_of hΘ hk
    split at h
    · rename_i s
      split at h
      case h_2 => cases h
      rename_i b hi
      obtain ⟨h0, hlt, hb⟩ := idx_some hi
      rw [show v = _ from hx]
      have hs : s[i.toNat]? = some b := by
        have hlt' : i.toNat < s.size := by simpa using hlt
        have : s.data[i.toNat]? = some b := by simpa using hb
        rw [getElem?_pos s i.toNat hlt']
        have h2 : s.data[i.toNat] = b := by
          have h3 := Array.getElem?_eq_getElem (xs := s.data) (i := i.toNat) hlt'
          rw [h3] at this
          exact Option.some.inj this
        exact congrArg some h2
      exact SOk.quiet hw _ (.int .u8 b.toNat) h (by simp [Instr.index, asIntOf, run_underlying hu, h0, hs]) rfl
    · cases h
  · rename_i m e hk
    have hu := arr_of hΘ hk
    split at h
    · rename_i m' t' l
      split at h
      case isFalse => cases h
      rename_i hc
      obtain ⟨rfl, hsz⟩ := hc
      split at h
      case h_2 => cases h
      rename_i y hi
      obtain ⟨h0, hlt, hy⟩ := idx_some hi
      obtain ⟨hf, hlm, ws, rfl, hr⟩ := hx
      obtain ⟨a, hca, hal, had⟩ := RR_get t' l ws hr i.toNat y hy
      have hb : 0 ≤ i ∧ i < (m' : Int) := ⟨h0, by omega⟩
      -- the element's cells stand at its place
      have hlv := leaves_VRL t' y a hf hca
      have hpart : ∃ av u, κ av o = some r ∧ VR g av u ∧ (part e ws.toArray (i.toNat * t'.sz)).run P w = .ok u w := by
        have hwl := RR_length t' l ws hr
        have hmul : i.toNat * t'.sz + t'.sz ≤ l.length * t'.sz := by
          have : (i.toNat + 1) * t'.sz ≤ l.length * t'.sz := Nat.mul_le_mul_right _ hlt
          rw [Nat.add_mul] at this; omega
        have hszE : (Θ e).sz = t'.sz := by simp only [szOk, Bool.and_eq_true, beq_iff_eq] at hsz; exact hsz.2
        -- cells in front, so that the element begins at its offset
        have hdrop : ((List.replicate (i.toNat * t'.sz) AV.dead ++ leaves t' y).drop (i.toNat * t'.sz)) = leaves t' y := by
          rw [List.drop_append_of_le_length (by simp)]; simp
        refine fromPart_sound' hΘ (w := w) e (leaves t' y) ws (i.toNat * t'.sz) (fun v => κ v o) r h a hlv ?_ (by rw [hal]; exact had) (by rw [hal, hszE]) (RR_one t' l ws hr)
        omega
      obtain ⟨av, u, hk2, hv2, hrun⟩ := hpart
      exact SOk.quiet hw av u hk2 (by simp [Instr.index, asIntOf, run_underlying hu, hb, sizeOk hΘ hsz w, hrun]) hv2
    · cases h
  · cases h
end Go.Den
