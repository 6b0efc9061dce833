/- One operation, all kinds but the call. -/
import Derived.Test.YtlmljpmohljefaaSound12
set_option linter.unusedVariables false
set_option linter.unusedSimpArgs false
namespace Go.Den
variable {P : Program}

def isCall : Op → Bool
  | .call c => match c.callee with
    | .builtin _ => false
    | _ => true
  | _ => false

theorem builtin_sound {R : Type} {Θ : Nat → TD} (hΘ : TOk P Θ) {B : Base} {g : G} {ob : Objs} {w : World} (hw : WInv B g ob w) (b : Builtin) (ats : Array Nat) (dst : Nat) (args : List AV) (vs : Array Value) (ty : TypeId) (κ : AV → Objs → Option R) (r : R)
    (h : builtinK Θ b ats.toList dst args ob κ = some r) (ha : VRL g args vs.toList) (cs : Array Bool) :
    ∃ s, builtin b ats ty cs vs = valS s ∧ SOk P B g w κ r s := by
  obtain ⟨ats⟩ := ats
  obtain ⟨vs⟩ := vs
  simp only at h ha
  unfold builtinK at h
  split at h
  · rename_i x
    refine ⟨Builtin.len_ ⟨ats⟩ ty ⟨vs⟩, rfl, ?_⟩
    obtain ⟨v, rfl, hx⟩ : ∃ v, vs = [v] ∧ VR g x v := by
      match vs, ha with
      | [v], ⟨h1, _⟩ => exact ⟨v, rfl, h1⟩
      | [], h => exact h.elim
      | _ :: _ :: _, ⟨_, h⟩ => exact h.elim
    split at h
    case h_2 => cases h
    rename_i t0
    split at h
    · rename_i hk
      split at h
      · exact lenStr_sound hΘ hw hk _ v ty κ r hx h
      · cases h
    · rename_i hk
      exact lenArr_sound hΘ hw hk v ty κ r h
    · rename_i hk
      split at h
      · cases h
      · rename_i hns
        exact len_sound hΘ hw hk x v ty κ r hx h hns
    · cases h
  · rename_i x y
    refine ⟨Builtin.append_ ⟨ats⟩ ty ⟨vs⟩, rfl, ?_⟩
    obtain ⟨v, u, rfl, hx, hy⟩ : ∃ v u, vs = [v, u] ∧ VR g x v ∧ VR g y u := by
      match vs, ha with
      | [v, u], ⟨h1, h2, _⟩ => exact ⟨v, u, rfl, h1, h2⟩
      | [], h => exact h.elim
      | [_], ⟨_, h⟩ => exact h.elim
      | _ :: _ :: _ :: _, ⟨_, _, h⟩ => exact h.elim
    split at h
    case h_2 => cases h
    rename_i t0 t1
    split at h
    · rename_i e t e' het hk
      obtain ⟨av, o', v', w', g', h1, h2, h3, h4, h5⟩ := appendK_sound hΘ hw het _ (sl_of hΘ hk) (.inr ⟨_, rfl⟩) dst x y v u ty κ r h hx hy
      exact ⟨av, o', v', w', g', h1, h2, h3, h4, h5⟩
    · rename_i e t het hk
      obtain ⟨av, o', v', w', g', h1, h2, h3, h4, h5⟩ := appendK_sound hΘ hw het _ (str_of hΘ hk) (.inl rfl) dst x y v u ty κ r h hx hy
      exact ⟨av, o', v', w', g', h1, h2, h3, h4, h5⟩
    · cases h
  · rename_i x y
    refine ⟨Builtin.copy_ ⟨ats⟩ ty ⟨vs⟩, rfl, ?_⟩
    obtain ⟨v, u, rfl, hx, hy⟩ : ∃ v u, vs = [v, u] ∧ VR g x v ∧ VR g y u := by
      match vs, ha with
      | [v, u], ⟨h1, h2, _⟩ => exact ⟨v, u, rfl, h1, h2⟩
      | [], h => exact h.elim
      | [_], ⟨_, h⟩ => exact h.elim
      | _ :: _ :: _ :: _, ⟨_, _, h⟩ => exact h.elim
    split at h
    case h_2 => cases h
    rename_i t0 t1
    split at h
    case h_2 => cases h
    rename_i e t het
    obtain ⟨av, o', v', w', g', h1, h2, h3, h4, h5⟩ := copyK_sound hΘ hw (t1 := t1) het x y v u ty κ r h hx hy
    exact ⟨av, o', v', w', g', h1, h2, h3, h4, h5⟩
  · rename_i k x k' y
    refine ⟨Builtin.min_ ⟨ats⟩ ty ⟨vs⟩, rfl, ?_⟩
    obtain ⟨rfl⟩ : vs = [.int k x, .int k' y] := by
      match vs, ha with
      | [v, u], ⟨h1, h2, _⟩ => rw [show v = _ from h1, show u = _ from h2]
      | [], h => exact h.elim
      | [_], ⟨_, h⟩ => exact h.elim
      | _ :: _ :: _ :: _, ⟨_, _, h⟩ => exact h.elim
    split at h
    case isFalse => cases h
    exact SOk.quiet hw _ (.int k (minI x y)) h (by simp [Builtin.min_, Builtin.min2, minI]) rfl
  · rename_i k x k' y
    refine ⟨Builtin.max_ ⟨ats⟩ ty ⟨vs⟩, rfl, ?_⟩
    obtain ⟨rfl⟩ : vs = [.int k x, .int k' y] := by
      match vs, ha with
      | [v, u], ⟨h1, h2, _⟩ => rw [show v = _ from h1, show u = _ from h2]
      | [], h => exact h.elim
      | [_], ⟨_, h⟩ => exact h.elim
      | _ :: _ :: _ :: _, ⟨_, _, h⟩ => exact h.elim
    split at h
    case isFalse => cases h
    exact SOk.quiet hw _ (.int k (maxI x y)) h (by simp [Builtin.max_, Builtin.max2, maxI]) rfl
  · cases h

theorem opK_sound {R : Type} {E : Env} (hΘ : TOk P E.Θ) {B : Base} {g : G} {ob : Objs} {w : World} (hw : WInv B g ob w) (o : Oper) (dst : Nat) (s : List AV) (a : Act) (hs : VRL g s a.tmps.toList) (κ : AV → Objs → Option R) (r : R)
    (h : opK E o.op dst s ob κ = some r) (hnc : isCall o.op = false) (K : Act → World → Prop) (Q : Exit → Act → World → Prop) (hK : Then P B g κ r o a K) : o.wp P a w K Q := by
  cases hop : o.op with
  | move x =>
    rw [hop] at h
    exact wp_pure hw (a.eval x) (rho s x) (by simp [execOp, hop]) h (rho_VR hs x) hK
  | assign x =>
    rw [hop] at h
    exact wp_pure hw (a.eval x) (rho s x) (by simp [execOp, hop]) h (rho_VR hs x) hK
  | pick c x y =>
    rw [hop] at h
    simp only [opK] at h
    split at h
    case h_2 => cases h
    rename_i c' hc
    have hcv := rho_VR hs c
    rw [hc] at hcv
    have hx := rho_VR hs x
    have hy := rho_VR hs y
    have hrun : (execOp a.eval o).run P w = .ok (.value (if c' then a.eval x else a.eval y)) w := by
      simp [execOp, hop, show a.eval c = _ from hcv, asBool]
    cases c'
    · exact wp_pure hw _ _ hrun h hy hK
    · exact wp_pure hw _ _ hrun h hx hK
  | alloc t =>
    rw [hop] at h
    simp only [opK] at h
    refine wp_val (s := Instr.alloc t true (.tuple #[])) (by simp only [execOp, hop]; rfl) ?_ hK
    split at h
    · exact allocArr_sound hΘ hw t _ κ r h
    · cases h
    · rename_i hk1 hk2
      exact alloc_sound hΘ hw t _ κ r (by unfold okK; split <;> simp_all) h
  | box t x =>
    rw [hop] at h
    simp only [opK] at h
    refine wp_val (s := Instr.box t (a.eval x)) (by simp only [execOp, hop]; rfl) ?_ hK
    have hx := rho_VR hs x
    split at h
    · rename_i n ty l e
      rw [e] at hx
      exact boxArr_sound hw t n ty l _ _ κ r hx h
    · split at h
      · rename_i hl
        exact box_sound hw t _ _ _ κ r hx hl h
      · cases h
  | build t parts =>
    rw [hop] at h
    simp only [opK, buildK] at h
    refine wp_val (s := Instr.build t (parts.map fun p => (p.1, a.eval p.2))) (by simp only [execOp, hop]; rfl) ?_ hK
    have hp : partsR g (parts.toList.map fun p => (p.1, rho s p.2)) (parts.map fun p => (p.1, a.eval p.2)).toList := by
      rw [Array.toList_map]; exact parts_of hs parts.toList
    split at h
    · rename_i fs hk
      exact buildStruct_sound hΘ hw hk _ _ κ r hp h
    · rename_i n e hk
      split at h
      case h_2 => cases h
      rename_i te hte
      split at h
      case isFalse => cases h
      rename_i hc
      exact buildArr_sound hΘ hw hk hte _ _ κ r hp hc.1 hc.2.1 hc.2.2.1 hc.2.2.2 h
    · cases h
  | buildSlice t len parts =>
    rw [hop] at h
    simp only [opK] at h
    refine wp_val (s := Instr.buildSlice t len (parts.map fun p => (p.1, a.eval p.2))) (by simp only [execOp, hop]; rfl) ?_ hK
    have hp : partsR g (parts.toList.map fun p => (p.1, rho s p.2)) (parts.map fun p => (p.1, a.eval p.2)).toList := by
      rw [Array.toList_map]; exact parts_of hs parts.toList
    split at h
    case h_2 => cases h
    rename_i e te het
    split at h
    case isFalse => cases h
    rename_i hc
    exact buildSlice_sound hΘ hw het len _ _ _ κ r hp hc.1 (by simpa using hc.2.1) hc.2.2.1 hc.2.2.2.1 hc.2.2.2.2 h
  | load t x =>
    rw [hop] at h
    simp only [opK] at h
    obtain ⟨av, u, h1, h2, h3⟩ := loadK_sound hΘ hw t _ _ _ r h (rho_VR hs x)
    exact wp_val (s := Instr.loadAt t (a.eval x)) (by simp only [execOp, hop]; rfl) (SOk.quiet hw av u h1 h3 h2) hK
  | store t x v =>
    rw [hop] at h
    simp only [opK] at h
    obtain ⟨o', g', w', h1, h2, h3, h4⟩ := storeK_sound hΘ hw t _ _ _ _ _ r h (rho_VR hs x) (rho_VR hs v)
    unfold Oper.wp
    have hrun : (execOp a.eval o).run P w = .ok .skip w' := by simp [execOp, hop, h4]
    rw [hrun]
    exact hK .dead o' undef w' g' h1 h2 h3 trivial
  | nilCheck x =>
    rw [hop] at h
    simp only [opK, nilCheckK] at h
    have hx := rho_VR hs x
    split at h
    · rename_i n off e
      rw [e] at hx
      obtain ⟨p, z, he, hv⟩ := hx
      exact wp_pure hw (a.eval x) _ (by simp [execOp, hop, hv]) h ⟨p, z, he, hv⟩ hK
    · rename_i n i off e
      rw [e] at hx
      obtain ⟨p, z, u, he, hb, hv⟩ := hx
      exact wp_pure hw (a.eval x) _ (by simp [execOp, hop, hv]) h ⟨p, z, u, he, hb, hv⟩ hK
    · rename_i cs e
      rw [e] at hx
      obtain ⟨ad, ws, hv, hr⟩ := hx
      exact wp_pure hw (a.eval x) _ (by simp [execOp, hop, hv]) h ⟨ad, ws, hv, hr⟩ hK
    · rename_i f l1 l2 e
      rw [e] at hx
      obtain ⟨a', b', hv, hr⟩ := hx
      exact wp_pure hw (a.eval x) _ (by simp [execOp, hop, hv]) h ⟨a', b', hv, hr⟩ hK
    · cases h
  | binOp op t x y ty =>
    rw [hop] at h
    simp only [opK] at h
    exact wp_val (s := binS op t x y (a.eval x) (a.eval y)) (by simp only [execOp, hop]; rfl) (bin_sound hΘ hw op t x y _ _ _ _ κ r h (rho_VR hs x) (rho_VR hs y)) hK
  | unOp op t x =>
    rw [hop] at h
    simp only [opK] at h
    have hx := rho_VR hs x
    split at h
    · rename_i b e
      rw [e] at hx
      exact wp_val (s := Op.unary .not (a.eval x)) (by simp only [execOp, hop]; rfl) (SOk.quiet hw _ (.bool (!b)) h (by rw [show a.eval x = _ from hx]; exact unary_not b) rfl) hK
    · rename_i k n e
      rw [e] at hx
      exact wp_val (s := Op.unary .neg (a.eval x)) (by simp only [execOp, hop]; rfl) (SOk.quiet hw _ _ h (by rw [show a.eval x = _ from hx]; exact unary_neg k n) rfl) hK
    · rename_i k n e
      rw [e] at hx
      exact wp_val (s := Op.unary .xor (a.eval x)) (by simp only [execOp, hop]; rfl) (SOk.quiet hw _ _ h (by rw [show a.eval x = _ from hx]; exact unary_xor k n) rfl) hK
    · cases h
  | convert src d x =>
    rw [hop] at h
    simp only [opK] at h
    exact wp_val (s := convert src d (a.eval x)) (by simp only [execOp, hop]; rfl) (conv_sound hΘ hw src d dst _ _ κ r h (rho_VR hs x)) hK
  | makeFunc f first caps =>
    rw [hop] at h
    cases f with
    | func f =>
      simp only [opK] at h
      have h1 := rhos_VRL hs first.toList
      have h2 := rhos_VRL hs caps.toList
      exact wp_pure hw (.func (.func f) (first.map a.eval) (caps.map a.eval)) _ (by simp only [execOp, hop, Instr.makeFunc]; simp) h ⟨first.toList.map a.eval, caps.toList.map a.eval, by rw [← Array.toList_map, ← Array.toList_map], h1, h2⟩ hK
    | _ => simp [opK] at h
  | makeSlice t l c =>
    rw [hop] at h
    simp only [opK] at h
    have hl := rho_VR hs l
    have hc := rho_VR hs c
    split at h
    case h_2 => cases h
    rename_i e te l' c' het el ec
    rw [el] at hl; rw [ec] at hc
    exact wp_val (s := Instr.makeSlice t (a.eval l) (a.eval c)) (by simp only [execOp, hop]; rfl) (by rw [show a.eval l = _ from hl, show a.eval c = _ from hc]; exact make_sound hΘ hw het _ l' c' .i64 .i64 κ r h) hK
  | slice t x lo hi mx =>
    rw [hop] at h
    cases mx with
    | some m => simp [opK] at h
    | none =>
      simp only [opK] at h
      exact wp_val (s := Instr.sliceAt t (a.eval x) (lo.map a.eval) (hi.map a.eval) none) (by simp only [execOp, hop]; rfl) (slice_sound hΘ hw t _ _ _ _ _ _ κ r h (rho_VR hs x) (opt_VR hs lo).1 (opt_VR hs lo).2 (opt_VR hs hi).1 (opt_VR hs hi).2) hK
  | fieldAddr t x f =>
    rw [hop] at h
    simp only [opK] at h
    split at h
    case h_2 => cases h
    rename_i off ft hf
    split at h
    case isFalse => cases h
    rename_i hok
    exact wp_val (s := Instr.fieldAt t (a.eval x) f) (by simp only [execOp, hop]; rfl) (fieldAddr_sound hΘ hw t f off ft _ _ κ r hf hok h (rho_VR hs x)) hK
  | field t x f =>
    rw [hop] at h
    simp only [opK] at h
    have hx := rho_VR hs x
    split at h
    case h_2 => cases h
    rename_i off ft cs hf e
    rw [e] at hx
    exact wp_val (s := Instr.field t (a.eval x) f) (by simp only [execOp, hop]; rfl) (field_sound hΘ hw t f off ft cs _ κ r hf h hx) hK
  | indexAddr t x i =>
    rw [hop] at h
    simp only [opK] at h
    have hi := rho_VR hs i
    split at h
    case h_2 => cases h
    rename_i k n e
    rw [e] at hi
    exact wp_val (s := Instr.indexAt t (a.eval x) (a.eval i)) (by simp only [execOp, hop]; rfl) (by rw [show a.eval i = _ from hi]; exact indexAddr_sound hΘ hw t _ _ k n κ r (rho_VR hs x) h) hK
  | index t x i =>
    rw [hop] at h
    simp only [opK] at h
    have hi := rho_VR hs i
    split at h
    case h_2 => cases h
    rename_i k n e
    rw [e] at hi
    exact wp_val (s := Instr.index t (a.eval x) (a.eval i)) (by simp only [execOp, hop]; rfl) (by rw [show a.eval i = _ from hi]; exact index_sound hΘ hw t _ _ k n κ r (rho_VR hs x) h) hK
  | extract x i =>
    rw [hop] at h
    simp only [opK] at h
    have hx := rho_VR hs x
    split at h
    case h_2 => cases h
    rename_i vs e
    split at h
    case isFalse => cases h
    rename_i hi
    rw [e] at hx
    exact wp_val (s := Instr.extract (a.eval x) i) (by simp only [execOp, hop]; rfl) (extract_sound hw vs i _ κ r hi h hx) hK
  | call c =>
    rw [hop] at h hnc
    simp only [opK] at h
    cases hcal : c.callee with
    | builtin b =>
      rw [hcal] at h
      simp only at h
      obtain ⟨sm, he, hok⟩ := builtin_sound hΘ hw b c.argTypes dst _ (c.args.map a.eval) o.type κ r h (by rw [Array.toList_map]; exact rhos_VRL hs c.args.toList) (c.args.map fun | .const _ => true | _ => false)
      refine wp_val (s := sm) ?_ hok hK
      rw [← he]
      simp only [execOp, hop, resolve, hcal]
      rfl
    | value f => simp [isCall, hcal] at hnc
    | invoke f n => simp [isCall, hcal] at hnc
  | _ => rw [hop] at h; simp [opK] at h
end Go.Den
