/- Appending, and other operations on sequences. -/
import Derived.Test.YtlmljpmohljefaaSound6
import Derived.Lib.AppendStr
import Derived.Laws.CopyRow
set_option linter.unusedVariables false
set_option linter.unusedSimpArgs false
namespace Go.Den
variable {P : Program}

theorem flat_pos : ∀ (t : Ty), t.flat = true → 0 < t.sz := by
  intro t
  induction t with
  | bool => simp [Ty.sz]
  | int k => simp [Ty.sz]
  | str => simp [Ty.sz]
  | sl t _ => simp [Ty.sz]
  | arr n t _ => intro h; simp [Ty.flat] at h
  | unit => intro h; simp [Ty.flat] at h
  | pair a b iha ihb =>
    intro h
    simp only [Ty.flat, Bool.and_eq_true] at h
    have := iha h.1
    simp only [Ty.sz]
    omega

theorem elemTy_ok {Θ : Nat → TD} (hΘ : TOk P Θ) {t e : Nat} {ty : Ty} (h : elemTy Θ t = some (e, ty)) :
    ∃ i z, P.underlying t = some (.slice e) ∧ P.info? e = some i ∧ i.zero = some z ∧ z.cells.size = i.size ∧ i.size = ty.sz ∧ ty.flat = true ∧ (Θ e).nb = i.bytes ∧ 0 < i.bytes ∧ 0 < i.size ∧ (Θ e).sz = i.size ∧
      (∀ M : Mem, CR M ty (zeroI ty) z.cells.toList) := by
  unfold elemTy at h
  split at h
  · rename_i e' hk
    split at h
    · rename_i te hty
      split at h
      · rename_i hc
        cases h
        obtain ⟨i, d, z, hi, hu, hk2, _⟩ := (hΘ.get t (by rw [hk]; simp)).row
        have hd : d = .slice e := by rw [hk] at hk2; cases d <;> simp [kOf] at hk2; rw [hk2]
        subst hd
        obtain ⟨ie, de, ze, hie, hue, hke, hse, hne, hze, hzz, hzs, hz1, htt⟩ := (hΘ.ty hty).row
        obtain ⟨hf, hsz, hzero⟩ := htt ty hty
        exact ⟨ie, ze, hu, hie, hze, hzs, hsz.symm, hf, hne, by rw [← hne]; exact hc.2, by rw [← hsz]; exact flat_pos ty hf, hse, hzero⟩
      · cases h
    · cases h
  · cases h

/-- the cells of a list that is read -/
theorem cells_of_list {M : Mem} (t : Ty) (A : Option Addr) : ∀ (l : List t.I) (k : Nat), (∀ i x, l[i]? = some x → ∃ ad ws, A = some ad ∧ CR M t x ws ∧ ∀ j v, ws[j]? = some v → M (ad.add ((k + i) * t.sz + j)) = some v) →
    ∃ news, RR M t l news ∧ ∀ ad, A = some ad → ∀ j v, news[j]? = some v → M (ad.add (k * t.sz + j)) = some v
  | [], k, h => ⟨[], rfl, fun ad _ j v hj => by simp at hj⟩
  | x :: l, k, h => by
    obtain ⟨ad, ws, hA, hc, hm⟩ := h 0 x rfl
    obtain ⟨news, hr, hn⟩ := cells_of_list t A l (k + 1) (fun i y hi => by
      obtain ⟨ad, ws, hA, hc, hm⟩ := h (i + 1) y (by simpa using hi)
      exact ⟨ad, ws, hA, hc, fun j v hj => by have := hm j v hj; rw [show k + 1 + i = k + (i + 1) by omega]; exact this⟩)
    refine ⟨ws ++ news, ⟨ws, news, rfl, hc, hr⟩, fun ad' hA' j v hj => ?_⟩
    rw [hA] at hA'
    cases hA'
    have hwl := CR_length t x ws hc
    by_cases hlt : j < ws.length
    · rw [List.getElem?_append_left hlt] at hj
      exact hm j v hj
    · rw [List.getElem?_append_right (by omega)] at hj
      have := hn ad hA _ _ hj
      rw [show (k + 1) * t.sz + (j - ws.length) = k * t.sz + j by rw [Nat.add_mul, hwl]; omega] at this
      exact this

theorem CR_cells {M : Mem} (t : Ty) (l : List t.I) (v : Value) (h : CR M (.sl t) l [v]) : ∃ A c news, v = .slice A l.length c ∧ RR M t l news ∧ ∀ ad, A = some ad → ∀ j u, news[j]? = some u → M (ad.add j) = some u := by
  obtain ⟨A, c, e, hc, hx⟩ := h
  cases e
  obtain ⟨news, hr, hn⟩ := cells_of_list t A l 0 (fun i x hi => by simpa using hx i x hi)
  exact ⟨A, c, news, rfl, hr, fun ad hA j u hj => by simpa using hn ad hA j u hj⟩

theorem RR_bytes {M : Mem} : ∀ (l : List UInt8), RR M (.int .u8) (l.map fun b => (b.toNat : Int)) (l.map fun b => .int .u8 b.toNat)
  | [] => rfl
  | x :: l => ⟨[.int .u8 x.toNat], l.map fun b => .int .u8 b.toNat, rfl, rfl, RR_bytes l⟩

theorem firstCells_nil (size n len cap : Nat) (w : World) : (Builtin.firstCells size n (.slice none len cap)).run P w = .ok #[] w := run_firstCells_none w size n len cap

theorem elemsK_sound {R : Type} {B : Base} {g : G} {o : Objs} {w : World} (hw : WInv B g o w) (t : Ty) (y : AV) (yv : Value) (κ : List t.I → Option R) (r : R)
    (h : elemsK t y o κ = some r) (hy : VR g y yv) :
    ∃ ys news, κ ys = some r ∧ RR g.M t ys news ∧ (∀ w, (Builtin.lenOf yv).run P w = .ok ys.length w) ∧
      ∀ k, (Builtin.firstCells t.sz ys.length yv).run P { w with drawn := k } = .ok news.toArray { w with drawn := k } := by
  unfold elemsK at h
  split at h
  · rename_i t' l
    split at h
    · rename_i ht
      subst ht
      obtain ⟨hf, hc⟩ := hy
      obtain ⟨A, c, news, rfl, hr, hm⟩ := CR_cells t' l yv hc
      refine ⟨l, news, h, hr, fun w => by simp [Builtin.lenOf], fun k => ?_⟩
      cases A with
      | none =>
        have hl : l = [] := by
          cases l with
          | nil => rfl
          | cons x l =>
            obtain ⟨A, c', e, _, hx⟩ := hc
            obtain ⟨ad, ws, hA, _⟩ := hx 0 x rfl
            cases e
            cases hA
        subst hl
        rw [show news = [] from hr]
        exact firstCells_nil _ _ _ _ _
      | some ad =>
        refine run_firstCells_some _ _ _ ad _ c news (RR_length t' l news hr) fun j u hj => ?_
        exact (hw.mem _ _ (hm ad rfl j u hj)).1
    · cases h
  · rename_i n
    split at h
    · rename_i e t' l frz hn
      split at h
      · rename_i ht
        subst ht
        obtain ⟨z, hE, _⟩ := hy
        obtain ⟨v, ws, hE2, hf, ho, hr, hm⟩ := hw.objs n _ hn
        rw [hE2] at hE
        cases hE
        rcases ho.2 with ⟨rfl, h0⟩ | ⟨b, cap, cur, rfl, _⟩
        · have hl : l = [] := List.eq_nil_of_length_eq_zero h0
          subst hl
          refine ⟨[], ws, h, hr, fun w => by simp [Builtin.lenOf], fun k => ?_⟩
          rw [show ws = [] from hr]
          exact firstCells_nil _ _ _ _ _
        · refine ⟨l, ws, h, hr, fun w => by simp [Builtin.lenOf], fun k => ?_⟩
          exact run_firstCells_some _ _ _ _ _ cap ws (RR_length t' l ws hr) fun j u hj => ho.cells rfl j u hj
      · cases h
    · cases h
  · rw [show yv = _ from hy]
    exact ⟨[], [], h, rfl, fun w => by simp [Builtin.lenOf], fun k => firstCells_nil _ _ _ _ _⟩
  · rename_i s
    split at h
    · rename_i ht
      subst ht
      rw [show yv = _ from hy]
      refine ⟨bytesOf s, s.data.toList.map fun b => .int .u8 b.toNat, h, RR_bytes _, fun w => by simp [Builtin.lenOf, bytesOf], fun k => ?_⟩
      have := Lib.run_firstCells_string (P := P) { w with drawn := k } (Ty.int .u8).sz s
      simpa [bytesOf, Lib.strCells] using this
    · cases h
  · cases h

theorem appendK_sound {R : Type} {Θ : Nat → TD} (hΘ : TOk P Θ) {B : Base} {g : G} {o : Objs} {w : World} (hw : WInv B g o w) {t0 t1 e : Nat} {t : Ty} (het : elemTy Θ t0 = some (e, t)) (d1 : TypeDesc) (hu1 : P.underlying t1 = some d1) (hd1 : d1 = .string ∨ ∃ e', d1 = .slice e')
    (dst : Nat) (x y : AV) (xv yv : Value) (ty : TypeId) (κ : AV → Objs → Option R) (r : R) (h : appendK Θ e t dst x y o κ = some r) (hx : VR g x xv) (hy : VR g y yv) :
    ∃ av o' v' w' g', κ av o' = some r ∧ (Builtin.append_ #[t0, t1] ty #[xv, yv]).run P w = .ok v' w' ∧ WInv B g' o' w' ∧ GE g g' ∧ VR g' av v' := by
  obtain ⟨i, z, hu, hi, hz, hzs, hsz, hf, hnb, hb0, hs0, _, hzero⟩ := elemTy_ok hΘ het
  unfold appendK at h
  obtain ⟨ys, news, hk, hr, hlen, hcells⟩ := elemsK_sound (P := P) hw t y yv _ r h hy
  have hnl := RR_length t ys news hr
  have hn1 := RR_one t ys news hr
  split at hk
  · split at hk
    case isFalse => cases hk
    rename_i hlim
    unfold newK at hk
    split at hk
    case h_2 => cases hk
    rename_i hfree
    rw [show xv = _ from hx]
    have hbytes : ys.length * i.bytes ≤ 1099511627776 := by rw [← hnb]; exact hlim
    have hle : ys.length ≤ ys.length * i.bytes := Nat.le_mul_of_pos_right _ hb0
    obtain ⟨v', w', hrun, hown, hone, hcase⟩ := run_app w t0 t1 ty e i z d1 hu hi hz hzs hu1 hd1 hs0 (.slice none 0 0) 0 [] (World.ownsRow_nil w 0 e i.size) yv ys.length news (by rw [hsz]; exact hnl) hlen (by rw [hsz]; exact hcells) hn1
      (by simp only [maxLen]; omega) (by simp only [Nat.zero_add]; omega)
    have hcase' : w.grownBy w' none ∧ (v' = .slice none 0 0 ∨ v'.ownBlock = some w.heap.size) := by
      rcases hcase with hc | ⟨b, hb, _⟩
      · exact hc
      · simp [Value.ownBlock] at hb
    rw [Nat.zero_add, List.nil_append, hsz] at hown
    refine ⟨_, _, v', w', _, hk, hrun, new_row hw hfree e t ys news v' false hf hr hown hcase'.1 hcase'.2, setE_ge hw hfree _, ⟨t.sz, setE_at g _ _, hone⟩⟩
  · rename_i n
    split at hk
    case h_2 => cases hk
    rename_i e' t' l frz hn
    split at hk
    case isFalse => cases hk
    rename_i ht
    subst ht
    split at hk
    case isFalse => cases hk
    rename_i he
    subst he
    split at hk
    case isFalse => cases hk
    rename_i hlim
    unfold newK at hk
    split at hk
    case h_2 => cases hk
    rename_i hfree
    obtain ⟨zz, hE, _⟩ := hx
    obtain ⟨v, ws, hE2, _, ho, hrl, hm⟩ := hw.objs n _ hn
    rw [hE2] at hE
    cases hE
    have hbytes : (l.length + ys.length) * i.bytes ≤ 1099511627776 := by rw [← hnb]; exact hlim
    have hle : l.length + ys.length ≤ (l.length + ys.length) * i.bytes := Nat.le_mul_of_pos_right _ hb0
    obtain ⟨v', w', hrun, hown, hone, hcase⟩ := run_app w t0 t1 ty e' i z d1 hu hi hz hzs hu1 hd1 hs0 xv l.length ws (by rw [hsz]; exact ho) yv ys.length news (by rw [hsz]; exact hnl) hlen (by rw [hsz]; exact hcells) hn1
      (by simp only [maxLen]; omega) (by omega)
    rw [hsz] at hown
    have hne : nm dst 0 ≠ n := by
      intro e
      rw [e] at hfree
      simp [upd] at hfree
    have hfree' : o (nm dst 0) = none := by simpa [upd, hne] using hfree
    have hw1 := gone_put hw hn
    have hrr := RR_append t' l ws ys news hrl hr
    have hllen : (l ++ ys).length = l.length + ys.length := List.length_append
    rcases hcase with ⟨hgr, hfresh⟩ | ⟨b, hvb, hvb', hgr⟩
    · refine ⟨_, _, v', w', _, hk, hrun, new_row hw1 hfree e' t' (l ++ ys) (ws ++ news) v' frz hf hrr (by rw [hllen]; exact hown) hgr hfresh, setE_ge hw hfree' _, ⟨t'.sz, setE_at g _ _, hone⟩⟩
    · have hbk : blkOf g n = some b := by simp only [blkOf, hE2, Option.bind_some]; rw [ownBlock_base ho]; exact hvb
      refine ⟨_, _, v', w', setE g (nm dst 0) (v', t'.sz), hk, hrun, ?_, setE_ge hw hfree' _, ⟨t'.sz, setE_at g _ _, hone⟩⟩
      have hother : ∀ m x bm, o m = some x → m ≠ n → live x = true → blkOf g m = some bm → bm ≠ b := by
        intro m x bm hm hmn hl hbm e
        exact hw.apart m n x _ hmn hm hn hl rfl bm hbm (by rw [hbk, e])
      refine hw1.put2 (nm dst 0) _ (setE_ge hw1 hfree _) (fun m hm => setE_ne g _ hm) rfl ⟨v', ws ++ news, setE_at g _ _, hf, by rw [hllen]; exact hown, hrr, ?_⟩ ⟨hgr.os, hgr.tape, hgr.output, hgr.size⟩ ?_ ?_ ?_ ?_
      · intro a ha hc
        refine hm a (by rw [hvb]; rw [hvb'] at ha; exact ha) ?_
        rcases hc with h | h | h
        · exact .inl h
        · rw [hllen, Nat.add_mul] at h; exact .inr (.inl (by omega))
        · exact .inr (.inr h)
      · intro m x bm hm hmo hl hbm
        unfold upd at hmo
        split at hmo
        · cases hmo; cases hl
        · rename_i hmn
          exact hgr.block bm (OR_blk (hw.objs m x hmo) hl bm hbm) (by simp; exact hother m x bm hmo hmn hl hbm)
      · intro a u ha
        obtain ⟨hc, _⟩ := hw.mem a u ha
        by_cases hab : a.block = b
        · have hsp := World.cell?_spot hc
          have hlt : a.off < ws.length := by
            rcases Nat.lt_or_ge a.off ws.length with h | h
            · exact h
            · rw [RR_length t' l ws hrl] at h
              rw [hm a (by rw [hvb, hab]) (.inr (.inl h))] at ha
              cases ha
          have e1 := ho.cells hvb a.off _ (List.getElem?_eq_getElem hlt)
          have e2 := hown.cells hvb' a.off ws[a.off] (by rw [List.getElem?_append_left hlt, List.getElem?_eq_getElem hlt])
          rw [add_at] at e1 e2
          have ea : a = ⟨b, a.off, none⟩ := by cases a; simp at hsp hab; subst hsp; subst hab; rfl
          rw [ea] at hc ⊢
          rw [e2, ← e1]
          exact hc
        · rw [World.cell?_of_block (hgr.block a.block (World.block_lt_of_cell? w a hc) (by simp; exact hab))]
          exact hc
      · intro c hc hX
        refine hgr.block c (Nat.lt_of_lt_of_le hc hw.ext.size) ?_
        simp
        intro e
        subst e
        rcases hw.mine n _ _ hn rfl hbk with h | h
        · exact hX h
        · omega
      · intro c hl hbc
        have hcb : c = b := by
          have : (baseOf v').map (·.block) = some c := by simpa [blkOf, setE_at] using hbc
          rw [ownBlock_base hown, hvb'] at this
          simpa using this.symm
        subst hcb
        refine ⟨fun m x hm hmo hl hbm => ?_, hw.mine n _ _ hn rfl hbk⟩
        unfold upd at hmo
        split at hmo
        · cases hmo; cases hl
        · rename_i hmn
          exact hother m x _ hmo hmn hl hbm rfl
  · cases hk

theorem RR_drop {M : Mem} (t : Ty) : ∀ (l : List t.I) (ws : List Value) (k : Nat), RR M t l ws → k ≤ l.length → RR M t (l.drop k) (ws.drop (k * t.sz))
  | l, ws, 0, h, _ => by simpa using h
  | [], ws, k + 1, h, hk => by simp at hk
  | x :: l, ws, k + 1, ⟨a, b, e, hc, hr⟩, hk => by
    have ha := CR_length t x a hc
    have h0 := RR_drop t l b k hr (by simpa using hk)
    subst e
    have h1 : a.drop ((k + 1) * t.sz) = [] := List.drop_of_length_le (by rw [ha, Nat.add_mul]; omega)
    have h2 : (k + 1) * t.sz - a.length = k * t.sz := by rw [ha, Nat.add_mul]; omega
    rw [List.drop_succ_cons, List.drop_append, h1, h2, List.nil_append]
    exact h0

theorem copyK_sound {R : Type} {Θ : Nat → TD} (hΘ : TOk P Θ) {B : Base} {g : G} {o : Objs} {w : World} (hw : WInv B g o w) {t0 t1 e : Nat} {t : Ty} (het : elemTy Θ t0 = some (e, t))
    (x y : AV) (xv yv : Value) (ty : TypeId) (κ : AV → Objs → Option R) (r : R) (h : copyK t x y o κ = some r) (hx : VR g x xv) (hy : VR g y yv) :
    ∃ av o' v' w' g', κ av o' = some r ∧ (Builtin.copy_ #[t0, t1] ty #[xv, yv]).run P w = .ok v' w' ∧ WInv B g' o' w' ∧ GE g g' ∧ VR g' av v' := by
  obtain ⟨i, z, hu, hi, hz, hzs, hsz, hf, hnb, hb0, hs0, _, hzero⟩ := elemTy_ok hΘ het
  unfold copyK at h
  obtain ⟨ys, news, hk, hr, hlen, hcells⟩ := elemsK_sound (P := P) hw t y yv _ r h hy
  have hnl := RR_length t ys news hr
  have hn1 := RR_one t ys news hr
  have hc0 : (Builtin.firstCells t.sz ys.length yv).run P w = .ok news.toArray w := hcells w.drawn
  have hsize : (sizeOf e).run P w = .ok t.sz w := by simp [sizeOf, typeInfo, hi, hsz]
  have nothing : ys.length = 0 → ∀ (b : Option Addr) (n c : Nat), (Builtin.copy_ #[t0, t1] ty #[.slice b n c, yv]).run P w = .ok (goInt ys.length) w := by
    intro h0 b n c
    have hnn : news = [] := List.eq_nil_of_length_eq_zero (by rw [hnl, h0, Nat.zero_mul])
    rw [hnn, h0] at hc0
    have h1 := hlen w
    rw [h0] at h1
    cases b <;> simp [Builtin.copy_, run_underlying hu, h1, hsize, hc0, storeCells, h0]
  unfold copK at hk
  split at hk
  · rename_i n
    split at hk
    case h_2 => cases hk
    rename_i e' t' l frz hn
    split at hk
    case isFalse => cases hk
    rename_i ht
    subst ht
    split at hk
    case isFalse => cases hk
    rename_i hc
    obtain ⟨rfl, hle⟩ := hc
    obtain ⟨zz, hE, _⟩ := hx
    obtain ⟨v, ws, hE2, _, ho, hrl, hm⟩ := hw.objs n _ hn
    rw [hE2] at hE
    cases hE
    have hlen2 := RR_length t' l ws hrl
    have hl' : (ys ++ l.drop ys.length).length = l.length := by simp; omega
    have hrr := RR_append t' ys news (l.drop ys.length) (ws.drop (ys.length * t'.sz)) hr (RR_drop t' l ws ys.length hrl hle)
    rcases ho.2 with ⟨rfl, h0⟩ | ⟨b, cap, cur, rfl, _, hh, hnc, hcm, hcs, htk⟩
    · have hy0 : ys = [] := List.eq_nil_of_length_eq_zero (by omega)
      refine ⟨_, _, goInt ys.length, w, g, hk, nothing (by rw [hy0]; rfl) _ _ _, ?_, GE.refl g, rfl⟩
      subst hy0
      have hid : upd o n (.row e' t' ([] ++ l.drop ([] : List t'.I).length) false) = o := by
        funext m
        unfold upd
        split
        · rename_i e; subst e; rw [hn]; simp
        · rfl
      rw [hid]
      exact hw
    · have hws : ws.length ≤ cur.size := by rw [hlen2, hcs]; exact Nat.mul_le_mul_right _ hnc
      have hmul : ys.length * t'.sz ≤ l.length * t'.sz := Nat.mul_le_mul_right _ hle
      have hst := run_storeCells_at P b 0 e' news 0 cur w hh (by omega) hn1
      have hmin : Nat.min ys.length l.length = ys.length := Nat.min_eq_left hle
      have h1 := hlen w
      refine ⟨_, _, goInt ys.length, w.setRow b (cur.toList.take (0 + 0) ++ news ++ cur.toList.drop (0 + 0 + news.length)).toArray, g, hk, ?_, ?_, GE.refl g, rfl⟩
      · simp [Builtin.copy_, run_underlying hu, h1, hmin, hsize, hc0, hst]
      · have hb : blkOf g n = some b := by simp [blkOf, hE2, baseOf]
        have hnew := setRow_heap w b cur (cur.toList.take (0 + 0) ++ news ++ cur.toList.drop (0 + 0 + news.length)).toArray e' (0, 0) hh
        refine hw.put n _ (GE.refl g) (fun _ _ => rfl) ?_ (setRow_same w b _) ?_ rfl ?_ ?_
        · refine ⟨.slice (some ⟨b, 0, none⟩) l.length cap, _, hE2, hf, ?_, hrr, ?_⟩
          · rw [hl']
            refine ⟨by simp; omega, .inr ⟨b, cap, _, rfl, Nat.zero_le _, hnew, hnc, hcm, ?_, ?_⟩⟩
            · simp; omega
            · obtain ⟨tl, hct⟩ : ∃ tl, cur.toList = ws ++ tl := ⟨cur.toList.drop (l.length * t'.sz), by rw [← htk, List.take_append_drop]⟩
              have hc2 : cur.toList.take (0 + 0) ++ news ++ cur.toList.drop (0 + 0 + news.length) = (news ++ ws.drop (ys.length * t'.sz)) ++ tl := by
                rw [hct, Nat.add_zero, List.take_zero, List.nil_append, Nat.zero_add, hnl, List.drop_append_of_le_length (by omega), List.append_assoc]
              simp only [hc2]
              rw [List.take_left' (by simp; omega)]
          · intro a ha hc
            rw [hl'] at hc
            exact hm a ha (.inl rfl)
        · intro k hk hx
          exact setRow_other w b k _ (fun e => hx _ hn rfl (by rw [hb, e]))
        · rintro k a v ⟨x, _, _, hk⟩ hab ha
          rw [hb] at hk
          cases hk
          rw [hm a (by simp [Value.ownBlock, hab]) (.inl rfl)] at ha
          cases ha
        · intro k _ hk
          exact .inr ⟨_, hn, rfl, hk⟩
  · split at hk
    case isFalse => cases hk
    rename_i h0
    rw [show xv = _ from hx]
    exact ⟨_, _, goInt ys.length, w, g, hk, nothing h0 _ _ _, hw, GE.refl g, rfl⟩
  · cases hk
end Go.Den
