/- Operators, conversions, literals. -/
import Derived.Test.YtlmljpmohljefaaSound9
import Derived.Great.FillDense
import Derived.Lib.ConvBytes
set_option linter.unusedVariables false
set_option linter.unusedSimpArgs false
namespace Go.Den
variable {P : Program}

def valS (s : Sem Value) : Sem Next := do pure (.value (← s))

theorem run_valS {s : Sem Value} {w w' : World} {v : Value} (h : s.run P w = .ok v w') : (valS s).run P w = .ok (.value v) w' := by
  simp [valS, h]

/- '==' and its like -/
theorem guard_plain (op : BinOp) (t : TypeId) (x y : Operand) (a b : Value) (w : World) (h1 : ∀ u v, ¬ (a = .agg u ∧ b = .agg v)) (h2 : ¬ (a = .nilIface ∧ b = .nilIface)) : (eqGuard op t x y a b).run P w = .ok () w := by
  unfold eqGuard
  by_cases hop : op = .eql ∨ op = .neq
  · rcases hop with rfl | rfl <;>
    · simp only [Bool.not_true, Bool.false_eq_true, if_false]
      split
      · exact absurd ⟨rfl, rfl⟩ h2
      · rename_i u v; exact absurd ⟨rfl, rfl⟩ (h1 u v)
      · simp
  · cases op <;> simp at hop ⊢

theorem equalIn_bool (d : Nat) {t : TypeId} (hu : P.underlying t = some .bool) (a b : Bool) (w : World) : (Op.equalIn (d + 1) t (.bool a) (.bool b)).run P w = .ok (a == b) w := by
  simp [Op.equalIn, run_underlying hu]

theorem equalIn_ptr_nil (d : Nat) {t e : TypeId} (hu : P.underlying t = some (.pointer e)) (p : Addr) (w : World) : (Op.equalIn (d + 1) t (.pointer (some p)) (.pointer none)).run P w = .ok false w := by
  simp [Op.equalIn, run_underlying hu]

theorem equalIn_nil_nil (d : Nat) {t e : TypeId} (hu : P.underlying t = some (.pointer e)) (w : World) : (Op.equalIn (d + 1) t (.pointer none) (.pointer none)).run P w = .ok true w := by
  simp [Op.equalIn, run_underlying hu]

theorem equal_bool {t : TypeId} (hu : P.underlying t = some .bool) (a b : Bool) (w : World) : (Op.equal t (.bool a) (.bool b)).run P w = .ok (a == b) w := equalIn_bool 9999 hu a b w
theorem equal_ptr_nil {t e : TypeId} (hu : P.underlying t = some (.pointer e)) (p : Addr) (w : World) : (Op.equal t (.pointer (some p)) (.pointer none)).run P w = .ok false w := equalIn_ptr_nil 9999 hu p w
theorem equal_nil_nil {t e : TypeId} (hu : P.underlying t = some (.pointer e)) (w : World) : (Op.equal t (.pointer none) (.pointer none)).run P w = .ok true w := equalIn_nil_nil 9999 hu w

/-- the operation with its guard -/
def binS (op : BinOp) (t : TypeId) (x y : Operand) (a b : Value) : Sem Value := do eqGuard op t x y a b; binOp op t a b

theorem nilEq_sound {R : Type} {B : Base} {g : G} {o : Objs} {w : World} (hw : WInv B g o w) (op : BinOp) (t : TypeId) (x y : Operand) (a b : Value) (c : Bool) (κ : AV → Objs → Option R) (r : R)
    (h : nilEq op c (fun v => κ v o) = some r) (hg : (eqGuard op t x y a b).run P w = .ok () w) (he : (Op.equal t a b).run P w = .ok c w)
    (hb1 : binOp .eql t a b = (do let c ← Op.equal t a b; pure (.bool c) : Sem Value)) (hb2 : binOp .neq t a b = (do let c ← Op.equal t a b; pure (.bool (!c)) : Sem Value)) : SOk P B g w κ r (binS op t x y a b) := by
  unfold nilEq at h
  split at h
  · refine SOk.quiet hw _ (.bool c) h ?_ rfl
    simp [binS, hg, hb1, he]
  · refine SOk.quiet hw _ (.bool (!c)) h ?_ rfl
    simp [binS, hg, hb2, he]
  · cases h

theorem intK_sound {R : Type} {B : Base} {g : G} {o : Objs} {w : World} (hw : WInv B g o w) (op : BinOp) (t : TypeId) (x y : Operand) (k : IntKind) (a b : Int) (κ : AV → Objs → Option R) (r : R)
    (h : intK op k a b (fun v => κ v o) = some r) : SOk P B g w κ r (binS op t x y (.int k a) (.int k b)) := by
  have hg := guard_plain (P := P) op t x y (.int k a) (.int k b) w (by rintro u v ⟨h, _⟩; cases h) (by rintro ⟨h, _⟩; cases h)
  cases op with
  | add => exact SOk.quiet hw _ (.int k (k.wrap (a + b))) h (by simp [binS, hg, binOp, Op.intArith]) rfl
  | sub => exact SOk.quiet hw _ (.int k (k.wrap (a - b))) h (by simp [binS, hg, binOp, Op.intArith]) rfl
  | mul => exact SOk.quiet hw _ (.int k (k.wrap (a * b))) h (by simp [binS, hg, binOp, Op.intArith]) rfl
  | quo =>
    simp only [intK] at h
    split at h
    · cases h
    · rename_i hb
      exact SOk.quiet hw _ (.int k (k.wrap (a.tdiv b))) h (by simp [binS, hg, binOp, Op.intDiv, hb]) rfl
  | rem =>
    simp only [intK] at h
    split at h
    · cases h
    · rename_i hb
      exact SOk.quiet hw _ (.int k (a.tmod b)) h (by simp [binS, hg, binOp, Op.intDiv, hb]) rfl
  | and => exact SOk.quiet hw _ (.int k (bits .and k a b)) h (by simp [binS, hg, binOp, Op.intBits, bits]) rfl
  | or => exact SOk.quiet hw _ (.int k (bits .or k a b)) h (by simp [binS, hg, binOp, Op.intBits, bits]) rfl
  | xor => exact SOk.quiet hw _ (.int k (bits .xor k a b)) h (by simp [binS, hg, binOp, Op.intBits, bits]) rfl
  | andNot => exact SOk.quiet hw _ (.int k (bits .andNot k a b)) h (by simp [binS, hg, binOp, Op.intBits, bits]) rfl
  | eql => exact SOk.quiet hw _ (.bool (a == b)) h (by simp [binS, hg, binOp, Op.intCmp]) rfl
  | neq => exact SOk.quiet hw _ (.bool (a != b)) h (by simp [binS, hg, binOp, Op.intCmp]) rfl
  | lss => exact SOk.quiet hw _ (.bool (decide (a < b))) h (by simp [binS, hg, binOp, Op.intCmp]) rfl
  | leq => exact SOk.quiet hw _ (.bool (decide (a ≤ b))) h (by simp [binS, hg, binOp, Op.intCmp]) rfl
  | gtr => exact SOk.quiet hw _ (.bool (decide (a > b))) h (by simp [binS, hg, binOp, Op.intCmp]) rfl
  | geq => exact SOk.quiet hw _ (.bool (decide (a ≥ b))) h (by simp [binS, hg, binOp, Op.intCmp]) rfl
  | _ => simp [intK] at h

theorem shiftK_sound {R : Type} {B : Base} {g : G} {o : Objs} {w : World} (hw : WInv B g o w) (left : Bool) (t : TypeId) (x y : Operand) (k k' : IntKind) (a b : Int) (κ : AV → Objs → Option R) (r : R)
    (h : shiftK left k a b (fun v => κ v o) = some r) : SOk P B g w κ r (binS (if left then .shl else .shr) t x y (.int k a) (.int k' b)) := by
  have hg := fun op => guard_plain (P := P) op t x y (.int k a) (.int k' b) w (by rintro u v ⟨h, _⟩; cases h) (by rintro ⟨h, _⟩; cases h)
  unfold shiftK at h
  split at h
  · cases h
  · rename_i hb
    cases left
    · exact SOk.quiet hw _ (.int k (a.fdiv (2 ^ (min b.toNat k.bits)))) h (by simp [binS, hg, binOp, Op.shift, hb]) rfl
    · exact SOk.quiet hw _ (.int k (k.wrap (a * 2 ^ (min b.toNat k.bits)))) h (by simp [binS, hg, binOp, Op.shift, hb]) rfl

theorem strK_sound {R : Type} {B : Base} {g : G} {o : Objs} {w : World} (hw : WInv B g o w) (op : BinOp) (t : TypeId) (x y : Operand) (a b : ByteArray) (κ : AV → Objs → Option R) (r : R)
    (h : (match op with
    | .add => if a.size + b.size ≤ 1099511627776 then κ (.d .str (a ++ b)) o else none
    | .eql => κ (.d .bool (a.toList == b.toList)) o
    | .neq => κ (.d .bool (!(a.toList == b.toList))) o
    | .lss => κ (.d .bool (Op.bytesLess a.toList b.toList)) o
    | _ => none) = some r) : SOk P B g w κ r (binS op t x y (.string a) (.string b)) := by
  have hg := guard_plain (P := P) op t x y (.string a) (.string b) w (by rintro u v ⟨h, _⟩; cases h) (by rintro ⟨h, _⟩; cases h)
  cases op with
  | add =>
    simp only at h
    split at h
    · rename_i hs
      have hn : ¬ (9223372036854775807 < ((a.size : Int) + (b.size : Int))) := by omega
      exact SOk.quiet hw _ (.string (a ++ b)) h (by simp [binS, hg, binOp, Op.stringOp, show IntKind.i64.max = 9223372036854775807 from rfl, hn]) rfl
    · cases h
  | eql => exact SOk.quiet hw _ (.bool (a.toList == b.toList)) h (by simp [binS, hg, binOp, Op.stringOp]) rfl
  | neq => exact SOk.quiet hw _ (.bool (!(a.toList == b.toList))) h (by simp [binS, hg, binOp, Op.stringOp]) rfl
  | lss => exact SOk.quiet hw _ (.bool (Op.bytesLess a.toList b.toList)) h (by simp [binS, hg, binOp, Op.stringOp]) rfl
  | _ => simp at h

theorem unary_not {w : World} (b : Bool) : (Op.unary .not (.bool b)).run P w = .ok (.bool (!b)) w := by simp [Op.unary]
theorem unary_neg {w : World} (k : IntKind) (n : Int) : (Op.unary .neg (.int k n)).run P w = .ok (.int k (k.wrap (0 - n))) w := by simp [Op.unary, Op.intArith]
theorem unary_xor {w : World} (k : IntKind) (n : Int) : (Op.unary .xor (.int k n)).run P w = .ok (.int k (bits .xor k (if k.signed then -1 else k.max) n)) w := by simp [Op.unary, Op.intBits, bits]

/-- new data on new memory -/
theorem new_data {B : Base} {g : G} {o : Objs} {w w' : World} (h : WInv B g o w) (hw : w.grownBy w' none) (M' : Mem) (hlo : ∀ a : Addr, a.block < w.heap.size → M' a = g.M a)
    (hhi : ∀ (a : Addr) v, w.heap.size ≤ a.block → M' a = some v → w'.cell? a = some v ∧ v.oneCell' = true) : WInv B ⟨M', g.E⟩ o w' ∧ GE g ⟨M', g.E⟩ := by
  have hgrow : ∀ a v, g.M a = some v → M' a = some v := fun a v ha => by rw [hlo a (World.block_lt_of_cell? w a (h.mem a v ha).1)]; exact ha
  have hg : GE g ⟨M', g.E⟩ := ⟨hgrow, fun _ _ e => e⟩
  refine ⟨⟨?_, h.dom, h.apart, ?_, ?_, fun a v ha => hgrow a v (h.grow a v ha), ?_, h.mine⟩, hg⟩
  · intro n x hn
    refine OR_keep (h.objs n x hn) hg fun b hb hl => ?_
    have hlt := OR_blk (h.objs n x hn) hl b hb
    exact ⟨hw.block b hlt (by simp), fun a ha => hlo a (by omega)⟩
  · intro a v ha
    change M' a = some v at ha
    rcases Nat.lt_or_ge a.block w.heap.size with hlt | hge
    · rw [hlo a hlt] at ha
      obtain ⟨hc, h1⟩ := h.mem a v ha
      rw [World.cell?_of_block (hw.block a.block hlt (by simp))]
      exact ⟨hc, h1⟩
    · exact hhi a v hge ha
  · exact ⟨hw.os.trans h.ext.os, hw.tape.trans h.ext.tape, hw.output.trans h.ext.output, Nat.le_trans h.ext.size hw.size, fun b hb hX => (hw.block b (Nat.lt_of_lt_of_le hb h.ext.size) (by simp)).trans (h.ext.block b hb hX)⟩
  · intro a ha hX
    exact (hlo a (Nat.lt_of_lt_of_le ha h.ext.size)).trans (h.old a ha hX)

theorem grown_bytes (w : World) (e : TypeId) (s : ByteArray) : w.grownBy (Lib.bytesWorld w e s) none :=
  ⟨rfl, rfl, rfl, by rw [Lib.bytesWorld_size]; omega, fun k hk _ => Lib.bytesWorld_at_old w e s k hk⟩

theorem conv_sound {R : Type} {Θ : Nat → TD} (hΘ : TOk P Θ) {B : Base} {g : G} {o : Objs} {w : World} (hw : WInv B g o w) (src dst : Nat) (N : Nat) (x : AV) (v : Value) (κ : AV → Objs → Option R) (r : R)
    (h : convK Θ src dst N x o κ = some r) (hx : VR g x v) : SOk P B g w κ r (convert src dst v) := by
  unfold convK at h
  split at h
  · rename_i ks k kn n hs hd
    rw [show v = _ from hx]
    exact SOk.quiet hw _ (.int k (k.wrap n)) h (by simp [convert, run_underlying (int_of hΘ hs), run_underlying (int_of hΘ hd), Conv.intToInt]) rfl
  · rename_i s hs hd
    rw [show v = _ from hx]
    exact SOk.quiet hw _ (.string s) h (by simp [convert, run_underlying (str_of hΘ hs), run_underlying (str_of hΘ hd)]) rfl
  · rename_i e s hs hd
    split at h
    · rename_i he
      rw [show v = _ from hx]
      have hrun := Lib.run_convert_string_bytes (P := P) w src dst e s (str_of hΘ hs) (sl_of hΘ hd) (int_of hΘ he)
      let M' : Mem := fun a => if a.block = w.heap.size ∧ a.spot = none ∧ a.off < s.size then some (.int .u8 (s.data.toList.getD a.off 0).toNat) else g.M a
      obtain ⟨hw', hg'⟩ := new_data hw (grown_bytes w e s) M' (fun a ha => by simp only [M']; rw [if_neg]; rintro ⟨h1, _⟩; omega) (fun a v ha hv => by
        simp only [M'] at hv
        split at hv
        · rename_i hc
          cases hv
          have ea : a = ⟨w.heap.size, a.off, none⟩ := by
            obtain ⟨h1, h2, h3⟩ := hc
            cases a; simp at h1 h2; subst h1; subst h2; rfl
          rw [ea]
          exact ⟨Lib.bytesWorld_cell w e s a.off hc.2.2, rfl⟩
        · rw [M_new hw a ha] at hv; cases hv)
      refine ⟨_, o, _, _, _, h, hrun, hw', hg', ⟨rfl, ?_⟩⟩
      have hlen : (bytesOf s).length = s.size := by simp [bytesOf]
      refine ⟨some ⟨w.heap.size, 0, none⟩, grownCap w s.size 0 e, by rw [hlen], by rw [hlen]; exact grownCap_ge w s.size 0 e, fun i x hi => ?_⟩
      refine ⟨⟨w.heap.size, 0, none⟩, [.int .u8 x], rfl, rfl, fun j u hj => ?_⟩
      have hj0 : j = 0 := by
        have := (List.getElem?_eq_some_iff.1 hj).1
        simp at this; exact this
      subst hj0
      cases hj
      have hi' : i < s.size := by rw [← hlen]; exact (List.getElem?_eq_some_iff.1 hi).1
      have hx2 : x = ((s.data.toList.getD i 0).toNat : Int) := by
        simp only [bytesOf, List.getElem?_map, Option.map_eq_some_iff] at hi
        obtain ⟨b, hb, rfl⟩ := hi
        simp [List.getD, hb]
      simp only [Ty.sz, Nat.mul_one, Nat.add_zero, add_at, M']
      rw [if_pos ⟨trivial, trivial, hi'⟩, hx2]
    · cases h
  · rename_i x' e hs hd
    split at h
    · rename_i he
      have hs' := sl_of hΘ hs
      have hd' := str_of hΘ hd
      have he' := int_of hΘ he
      have fin : ∀ (A : Option Addr) (l : List Int) (c : Nat) (κr : κ (.d .str (strOf l)) o = some r), (A = none → l = []) → (∀ ad, A = some ad → ∀ i, i < l.length → w.cell? (ad.add i) = some (.int .u8 (l.getD i 0))) →
          SOk P B g w κ r (convert src dst (.slice A l.length c)) := by
        intro A l c κr hn hc
        cases A with
        | none =>
          have := hn rfl
          subst this
          exact SOk.quiet hw _ (.string ByteArray.empty) κr (run_convert_bytes_nil w src e hs' he' 0 c dst hd') rfl
        | some ad =>
          cases hl : l with
          | nil =>
            subst hl
            refine SOk.quiet hw _ (.string ByteArray.empty) κr ?_ rfl
            rw [run_convert_bytes_string w src dst e (some ad) _ c hs' he' hd']
            simp [Conv.bytesToString, loadCells, loadCellsFrom]
          | cons z zs =>
            rw [← hl]
            have h0 := hc ad rfl 0 (by rw [hl]; simp)
            have hsp := World.cell?_spot h0
            obtain ⟨b, off, rfl⟩ : ∃ b off, ad = ⟨b, off, none⟩ := by
              cases ad
              simp [Addr.add] at hsp
              subst hsp
              exact ⟨_, _, rfl⟩
            refine SOk.quiet hw _ _ κr (run_convert_bytes_arg w src e hs' he' b off l.length c l rfl (fun i hi => ?_) dst hd') rfl
            have := hc _ rfl i hi
            have e2 : (⟨b, off, none⟩ : Addr).add i = ⟨b, off + i, none⟩ := by
              unfold Addr.add
              split
              · rename_i h0; subst h0; rfl
              · rfl
            rw [e2] at this
            exact this
      split at h
      · cases h
      rename_i hns
      unfold elemsK at h
      split at h
      · rename_i t' l
        split at h
        · rename_i ht
          subst ht
          obtain ⟨hf, hcr⟩ := hx
          have hcr' := hcr
          obtain ⟨A, c, e1, hlc, hxx⟩ := hcr
          cases e1
          refine fin A l c h (fun hA => ?_) (fun ad hA i hi => ?_)
          · cases l with
            | nil => rfl
            | cons z zs => obtain ⟨ad, ws, hA2, _⟩ := hxx 0 z rfl; rw [hA] at hA2; cases hA2
          · obtain ⟨ad2, ws, hA2, hc2, hm⟩ := hxx i l[i] (List.getElem?_eq_getElem hi)
            rw [hA] at hA2
            cases hA2
            rw [show ws = [.int .u8 l[i]] from hc2] at hm
            have := (hw.mem _ _ (hm 0 _ rfl)).1
            rw [show i * (Ty.int .u8).sz + 0 = i from by show i * 1 + 0 = i; omega] at this
            rw [this, List.getD_eq_getElem?_getD, List.getElem?_eq_getElem hi]
            rfl
        · cases h
      · rename_i n
        split at h
        · rename_i e2 t' l frz hn
          split at h
          · rename_i ht
            subst ht
            obtain ⟨z, hE, _⟩ := hx
            obtain ⟨M', hw', hg, hf, hcr⟩ := freeze_sound hw hn hE
            obtain ⟨A, c, e1, hlc, hxx⟩ := hcr
            cases e1
            refine fin A l c h (fun hA => ?_) (fun ad hA i hi => ?_)
            · cases l with
              | nil => rfl
              | cons z zs => obtain ⟨ad, ws, hA2, _⟩ := hxx 0 z rfl; rw [hA] at hA2; cases hA2
            · obtain ⟨ad2, ws, hA2, hc2, hm⟩ := hxx i l[i] (List.getElem?_eq_getElem hi)
              rw [hA] at hA2
              cases hA2
              rw [show ws = [.int .u8 l[i]] from hc2] at hm
              have := (hw'.mem _ _ (hm 0 _ rfl)).1
              rw [show i * (Ty.int .u8).sz + 0 = i from by show i * 1 + 0 = i; omega] at this
              rw [this, List.getD_eq_getElem?_getD, List.getElem?_eq_getElem hi]
              rfl
          · cases h
        · cases h
      · rw [show v = _ from hx]
        exact fin none [] 0 h (fun _ => rfl) (fun _ hA => by cases hA)
      · rename_i s; exact absurd rfl (hns s)
      · cases h
    · cases h
  · cases h
end Go.Den
