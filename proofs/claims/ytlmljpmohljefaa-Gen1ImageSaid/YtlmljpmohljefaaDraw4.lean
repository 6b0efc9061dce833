/- Any order: the text's order tells all. -/
import Derived.Test.YtlmljpmohljefaaDraw3
set_option linter.unusedVariables false
set_option linter.unusedSimpArgs false
namespace Go.Den
variable {P : Program}

theorem getS_ren (f : Nat → Option Nat) (s : List AV) (t : Nat) : getS (renL f s) t = renV f (getS s t) := by
  have hl : ∀ (s : List AV) (t : Nat), (renL f s)[t]? = (s[t]?).map (renV f) := by
    intro s
    induction s with
    | nil => intro t; simp [renL]
    | cons a s ih =>
      intro t
      cases t with
      | zero => simp [renL]
      | succ t => simpa [renL] using ih t
  unfold getS
  rw [List.getD_eq_getElem?_getD, List.getD_eq_getElem?_getD, hl]
  cases s[t]? with
  | none => simp [renV]
  | some a => rfl

theorem rho_same {s s' : List AV} {x : Operand} (h : ∀ t, x = .tmp t → getS s t = getS s' t) : rho s x = rho s' x := by
  cases x with
  | tmp t => exact h t rfl
  | _ => rfl

theorem rho_ren_same {f : Nat → Option Nat} {s s' : List AV} {x : Operand} (h : ∀ t, x = .tmp t → getS s t = getS s' t) : rho (renL f s) x = rho (renL f s') x := by
  cases x with
  | tmp t => show getS _ _ = getS _ _; rw [getS_ren, getS_ren, h t rfl]
  | _ => rfl

theorem onF_some {F : List Nat} {n m : Nat} (h : onF F n = some m) : m = n ∧ F.contains n = true := by
  unfold onF at h
  split at h
  · rename_i hc; cases h; exact ⟨rfl, hc⟩
  · cases h

theorem viewF_some {F : List Nat} {o : Objs} {m : Nat} {x2 : Obj} (h : viewF F o m = some x2) : ∃ n x, onF F n = some m ∧ o n = some x ∧ x2 = renO (onF F) x := by
  unfold viewF at h
  split at h
  · rename_i hc
    rw [Option.map_eq_some_iff] at h
    obtain ⟨x, hx, rfl⟩ := h
    exact ⟨m, x, by unfold onF; rw [if_pos hc], hx, rfl⟩
  · cases h

def gF (F : List Nat) (g : G) : G := ⟨g.M, fun n => if F.contains n then g.E n else none⟩

theorem gF_E {F : List Nat} {g : G} {n m : Nat} (h : onF F n = some m) : (gF F g).E m = g.E n := by
  obtain ⟨rfl, hc⟩ := onF_some h
  simp only [gF, hc, if_true]

theorem viewF_none {F : List Nat} {B : Base} {g : G} {o : Objs} {w : World} (hw : WInv B g o w) {m : Nat} (h : viewF F o m = none) : (gF F g).E m = none := by
  simp only [gF]
  split
  · rename_i hc
    unfold viewF at h
    rw [if_pos hc, Option.map_eq_none_iff] at h
    exact hw.dom m h
  · rfl

/-- an operation within what it touches -/
theorem opW_sound {E : Env} (hE : EnvOk P E) {B : Base} {g : G} {ob : Objs} {w : World} (hw : WInv B g ob w) (o : Oper) (F : List Nat) (s : List AV) (a : Act) (hs : VRL g s a.tmps.toList) (v : AV) (o' : Objs)
    (h : ∀ (R : Type) (κ : AV → Objs → Option R), opK E o.op (o.dst.getD 0) (renL (onF F) s) (viewF F ob) κ = κ v o') (K : Act → World → Prop) (Q : Exit → Act → World → Prop)
    (hK : ∀ u w' g', WInv B g' (overF F (viewF F o') ob) w' → GE g g' → VR g' (renV (onF F) v) u → K (a.put o.dst u) w') : o.wp P a w K Q := by
  classical
  have hw2 : WInv (within w g ob F.contains) (gF F g) (viewF F ob) w :=
    hw.part F.contains (onF F) (fun m x2 hm => viewF_some hm) (fun n m x hm _ => (onF_some hm).2) (fun n m hm => gF_E hm) (fun m hm => viewF_none hw hm) rfl
  have hs2 : VRL (gF F g) (renL (onF F) s) a.tmps.toList := VRL_ren (g := g) (g2 := gF F g) (onF F) rfl (fun n m u h1 h2 => (gF_E h1).trans h2) s _ hs
  refine op_sound hE hw2 o (o.dst.getD 0) _ a hs2 (fun v1 o1 => if v1 = v ∧ o1 = o' then some () else none) () ?_ K Q ?_
  · rw [h Unit]
    exact if_pos ⟨rfl, rfl⟩
  · intro av o1 u w' g' hk hw' hg' hv
    have hk' : (if av = v ∧ o1 = o' then some () else none) = some () := hk
    split at hk'
    case isFalse => cases hk'
    rename_i he
    obtain ⟨rfl, rfl⟩ := he
    have hw3 : WInv (within w g ob F.contains) (gF F g') (viewF F o1) w' :=
      hw'.ren (onF F) (fun m x2 hm => viewF_some hm) (fun n m hm => gF_E hm) (fun m hm => viewF_none hw' hm) rfl
    obtain ⟨hwm, hgm, hgm'⟩ := hw.merge F.contains F.contains hw3 (fun _ h => h) (fun n u hn hu => by
      have h1 : (gF F g).E n = some u := by simp only [gF]; rw [if_pos hn]; exact hu
      have h2 := hg'.E n u h1
      simp only [gF]; rw [if_pos hn]; exact h2) (fun n hn => by simp only [viewF, hn]; rfl)
    refine hK u w' _ hwm hgm ?_
    exact VR_mono hgm' _ _ (VR_ren (g := g') (g2 := gF F g') (onF F) rfl (fun n m u h1 h2 => (gF_E h1).trans h2) _ _ hv)

theorem looks_op {all : Array Oper} {o : Oper} {t : Nat} (h : Operand.tmp t ∈ o.op.operands.toList) : t ∈ o.looksAt all := by
  unfold Oper.looksAt
  rw [List.mem_append]
  left
  rw [List.mem_filterMap]
  exact ⟨.tmp t, h, rfl⟩

theorem looks_guard {all : Array Oper} {o : Oper} {j : Nat} {want : Bool} {g : Nat} (h : o.guard = some (j, want)) (hg : (all[j]?).bind (·.dst) = some g) : g ∈ o.looksAt all := by
  unfold Oper.looksAt
  rw [List.mem_append]
  right
  rw [h]
  simp only [hg]
  simp

theorem drawOk {E : Env} (hE : EnvOk P E) : DrawOk P E := by
  intro R B g0 m d id ops hslots κ r st0 a0 w0 h hi0 Q hQ
  obtain ⟨x, _, hfin, hrec⟩ := extract hE.D ops.toList 0 (fun _ => ⟨false, false, [], .dead, st0.o⟩) (by simp) h
  simp only [Nat.zero_add, Array.length_toList, Nat.zero_le, true_implies] at hfin hrec
  have hspec := slotsOk_spec hslots
  have hpl : ∀ k, k < ops.size → ∀ p ∈ preds (opAt ops k), p < k := fun k hk => (hspec k hk).1
  refine wp_region_any hE.any ?_
  let Lof : Array Bool → Nat → Bool := fun listed k => listed.getD k false
  -- the statement for all that may be listed
  have key : ∀ (fuel : Nat) (listed : Array Bool) (a : Act) (w : World), listed.size = ops.size →
      (∀ k, Lof listed k = true → ∀ p ∈ preds (opAt ops k), Lof listed p = true) →
      ((List.range ops.size).countP fun k => !Lof listed k) ≤ fuel → Inv B g0 m d (stL ops x st0 (Lof listed) ops.size) a w → wpAny P .any ops Q fuel listed a w := by
    intro fuel
    -- when nothing is ready, all is done
    have done : ∀ (listed : Array Bool) (a : Act) (w : World), listed.size = ops.size → (∀ k, k < ops.size → Lof listed k = true) → Inv B g0 m d (stL ops x st0 (Lof listed) ops.size) a w → Q .normal a w := by
      intro listed a w _ hall hi
      refine hQ _ a w hfin ?_
      have : stL ops x st0 (Lof listed) ops.size = stL ops x st0 (fun _ => true) ops.size := by
        have : ∀ n, n ≤ ops.size → stL ops x st0 (Lof listed) n = stL ops x st0 (fun _ => true) n := by
          intro n
          induction n with
          | zero => intro _; rfl
          | succ n ih =>
            intro hn
            unfold stL
            rw [ih (by omega), hall n (by omega)]
        exact this _ (Nat.le_refl _)
      rw [← this]; exact hi
    have readyAll : ∀ (listed : Array Bool), listed.size = ops.size → Region.ready .any ops listed = [] → ∀ k, k < ops.size → Lof listed k = true := by
      intro listed hsz hr k
      induction k using Nat.strongRecOn with
      | _ k ih =>
        intro hk
        cases hL : Lof listed k with
        | true => rfl
        | false =>
          exfalso
          have : k ∈ Region.ready .any ops listed := by
            rw [mem_ready]
            refine ⟨?_, opAt ops k, opAt_lt hk, fun e he hb => ?_⟩
            · have hk' : k < listed.size := by omega
              simp only [Lof, Array.getD_eq_getD_getElem?, Array.getElem?_eq_getElem hk', Option.getD_some] at hL ⊢
              exact hL
            · have hp : e.on ∈ preds (opAt ops k) := by
                unfold preds
                rw [List.mem_map]
                exact ⟨e, by rw [List.mem_filter]; exact ⟨by simpa using he, hb⟩, rfl⟩
              have hlt := hpl k hk _ hp
              exact ih e.on hlt (by omega)
          rw [hr] at this
          cases this
    -- one more that is ready
    have step : ∀ (fuel : Nat), (∀ (listed : Array Bool) (a : Act) (w : World), listed.size = ops.size →
        (∀ k, Lof listed k = true → ∀ p ∈ preds (opAt ops k), Lof listed p = true) →
        ((List.range ops.size).countP fun k => !Lof listed k) ≤ fuel → Inv B g0 m d (stL ops x st0 (Lof listed) ops.size) a w → wpAny P .any ops Q fuel listed a w) →
        ∀ (listed : Array Bool) (a : Act) (w : World), listed.size = ops.size → (∀ k, Lof listed k = true → ∀ p ∈ preds (opAt ops k), Lof listed p = true) →
        ((List.range ops.size).countP fun k => !Lof listed k) ≤ fuel + 1 → Inv B g0 m d (stL ops x st0 (Lof listed) ops.size) a w →
        ∀ k ∈ Region.ready .any ops listed, wpOp P ops Q k (wpAny P .any ops Q fuel (listed.setIfInBounds k true)) a w := by
      intro fuel IH listed a w hsz hcl hcnt hi k hk
      obtain ⟨hun, o, ho, haft⟩ := mem_ready.1 hk
      have hksz : k < ops.size := (Array.getElem?_eq_some_iff.1 ho).1
      have hopk : opAt ops k = o := opAt_some ho
      have hLk : Lof listed k = false := by
        have hk' : k < listed.size := by omega
        simp only [Lof, Array.getD_eq_getD_getElem?, Array.getElem?_eq_getElem hk', Option.getD_some] at hun ⊢
        exact hun
      have hpk : ∀ p ∈ preds (opAt ops k), Lof listed p = true := by
        intro p hp
        unfold preds at hp
        rw [hopk, List.mem_map] at hp
        obtain ⟨e, he, rfl⟩ := hp
        rw [List.mem_filter] at he
        exact haft e (by simpa using he.1) he.2
      have hancL : ∀ i, anc (ancs ops.toList) i k = true → Lof listed i = true := fun i hi => anc_closed hcl k hpk hi
      have hancK : ∀ i, Lof listed i = true → anc (ancs ops.toList) k i = true → False := by
        intro i hLi hik
        have := anc_closed hcl i (hcl i hLi) hik
        rw [hLk] at this; cases this
      have hL0 : ∀ i, Lof listed i = true → i < ops.size := by
        intro i hLi
        rcases Nat.lt_or_ge i ops.size with h1 | h1
        · exact h1
        · simp only [Lof] at hLi
          rw [Array.getD_eq_getD_getElem?, Array.getElem?_eq_none (by omega)] at hLi
          cases hLi
      -- the slots that it looks at
      have hslot : ∀ t ∈ (opAt ops k).looksAt ops, getS (stL ops x st0 (Lof listed) ops.size).s t = getS (stL ops x st0 (fun _ => true) k).s t := by
        intro t ht
        have e1 : stL ops x st0 (fun _ => true) k = stL ops x st0 (fun i => decide (i < k)) ops.size := by
          have := pre_ge (all := ops) (x := x) (st0 := st0) k (ops.size - k)
          rw [show k + (ops.size - k) = ops.size from by omega] at this
          exact this.symm
        rw [e1]
        refine slot_eq _ _ t ops.size fun i hi hd => ?_
        rcases ((hspec k hksz).2 i hi t hd).1 ht with ha | ha | ha
        · rw [hancL i ha]
          have := anc_lt hpl k ha
          simp [this]
        · have hlt := anc_lt hpl i ha
          cases hLi : Lof listed i with
          | true => exact (hancK i hLi ha).elim
          | false => simp; omega
        · subst ha
          rw [hLk]
          simp
      have hobj : ∀ c, (x k).on = true → (x k).F.contains c = true → (stL ops x st0 (Lof listed) ops.size).o c = (stL ops x st0 (fun _ => true) k).o c := by
        intro c hon hc
        have e1 : stL ops x st0 (fun _ => true) k = stL ops x st0 (fun i => decide (i < k)) ops.size := by
          have := pre_ge (all := ops) (x := x) (st0 := st0) k (ops.size - k)
          rw [show k + (ops.size - k) = ops.size from by omega] at this
          exact this.symm
        rw [e1]
        refine obj_eq _ _ c ops.size fun i hi hwr hci => ?_
        simp only [Bool.and_eq_true] at hwr
        rcases Nat.lt_trichotomy i k with hik | hik | hik
        · cases ha : anc (ancs ops.toList) i k with
          | true => rw [hancL i ha]; simp [hik]
          | false =>
            exact (meets_no ((hrec k hksz).clash hon i hik hwr.1 (by simp [hwr.2]) ha) c hc hci).elim
        · subst hik; rw [hLk]; simp
        · have : decide (i < k) = false := by simp; omega
          rw [this]
          cases hLi : Lof listed i with
          | false => rfl
          | true =>
            exfalso
            cases ha : anc (ancs ops.toList) k i with
            | true => exact hancK i hLi ha
            | false => exact meets_no ((hrec i hi).clash hwr.1 k hik hon (by simp [hwr.2]) ha) c hci hc
      -- what comes behind
      let listed' := listed.setIfInBounds k true
      have hL' : ∀ i, Lof listed' i = (Lof listed i || i == k) := by
        intro i
        have hk' : k < listed.size := by omega
        simp only [Lof, listed', Array.getD_eq_getD_getElem?, Array.getElem?_setIfInBounds]
        by_cases e : k = i
        · subst e; simp [hk']
        · have : (i == k) = false := by simp; exact fun h => e h.symm
          simp [e, this]
      have hst' : stL ops x st0 (Lof listed') ops.size = app (opAt ops k) (x k) (stL ops x st0 (Lof listed) ops.size) := by
        have := add_eq (all := ops) (x := x) (st0 := st0) (Lof listed) (Lof listed') k hLk (by rw [hL']; simp) (fun i hne => by rw [hL']; simp [hne]) (fun j hkj hLj => by
          have hj := hL0 j hLj
          refine ⟨fun dd hdj => ((hspec k hksz).2 j hj dd hdj).2 (by omega), fun hwj hwk => ?_⟩
          simp only [Bool.and_eq_true] at hwj hwk
          cases ha : anc (ancs ops.toList) k j with
          | true => exact (hancK j hLj ha).elim
          | false => exact (hrec j hj).clash hwj.1 k hkj hwk.1 (by simp [hwj.2]) ha) ops.size
        rw [this, if_pos hksz]
      have behind : ∀ a' w', Inv B g0 m d (app (opAt ops k) (x k) (stL ops x st0 (Lof listed) ops.size)) a' w' → wpAny P .any ops Q fuel listed' a' w' := by
        intro a' w' hi'
        refine IH listed' a' w' (by simp [listed', hsz]) ?_ ?_ (by rw [hst']; exact hi')
        · intro i hLi p hp
          rw [hL'] at hLi ⊢
          simp only [Bool.or_eq_true, beq_iff_eq] at hLi ⊢
          rcases hLi with hLi | rfl
          · exact .inl (hcl i hLi p hp)
          · exact .inl (hpk p hp)
        · have h1 : ((List.range ops.size).countP fun i => !Lof listed' i) < ((List.range ops.size).countP fun i => !Lof listed i) := by
            have : ∀ (l : List Nat), k ∈ l → (l.countP fun i => !Lof listed' i) < (l.countP fun i => !Lof listed i) ∧ True := by
              intro l
              induction l with
              | nil => intro hmem; cases hmem
              | cons b l ihl =>
                intro hmem
                have hle : (l.countP fun i => !Lof listed' i) ≤ (l.countP fun i => !Lof listed i) := by
                  refine List.countP_mono_left fun i _ hh => ?_
                  rw [hL'] at hh
                  simp at hh ⊢
                  exact hh.1
                rw [List.countP_cons, List.countP_cons]
                by_cases e : b = k
                · subst e
                  rw [hL', hLk]
                  simp
                  omega
                · rcases List.mem_cons.1 hmem with e2 | e2
                  · exact absurd e2.symm e
                  · have := (ihl e2).1
                    rw [hL']
                    have hbk : (b == k) = false := by simpa using e
                    simp only [hbk, Bool.or_false]
                    exact ⟨by omega, trivial⟩
            exact (this _ (List.mem_range.2 hksz)).1
          omega
      obtain ⟨g, hw, hs, hg, hm, hd⟩ := hi
      have hm' : st0.m = m := by rw [← hm, stL_m]
      have hrk := hrec k hksz
      -- is it wanted?
      have hwant : Region.wanted o (yielded ops a.tmps) = (x k).on := by
        unfold Region.wanted
        cases hgd : o.guard with
        | none =>
          have := hrk.plain (by rw [hopk]; exact hgd)
          rw [this]
        | some jw =>
          obtain ⟨j, want⟩ := jw
          obtain ⟨t, h1, h2⟩ := hrk.guard j want (by rw [hopk]; exact hgd)
          have ht : t ∈ (opAt ops k).looksAt ops := looks_guard (by rw [hopk]; exact hgd) h1
          rcases h2 with ⟨c, h2, h3⟩ | ⟨h2, h3⟩
          · have h4 := getS_some hs ((hslot t ht).trans h2)
            simp only [yielded, h1, Option.bind_some, h4]
            rw [h3]
            cases c <;> cases want <;> rfl
          · have h4 := getS_tup hs ((hslot t ht).trans h2)
            simp only [yielded, h1, Option.bind_some, h4, undef]
            rw [h3]
            rfl
      unfold wpOp
      simp only [ho]
      rw [hwant]
      cases hon : (x k).on with
      | false =>
        simp only [Bool.false_eq_true, if_false]
        refine behind _ w ⟨g, ?_, ?_, hg, ?_, by rw [put_defers]; exact hd⟩
        · simp only [app, hon, Bool.false_and, Bool.false_eq_true, if_false]; exact hw
        · simp only [app, hopk]
          rw [hrk.off hon]
          exact put_VRL hs o.dst (.tup []) undef ⟨[], rfl, trivial⟩
        · simp only [app]; rw [stL_m]; exact hm'
      | true =>
        simp only [if_true]
        left
        have hops : ∀ y ∈ (opAt ops k).op.operands.toList, ∀ t, y = Operand.tmp t → getS (stL ops x st0 (Lof listed) ops.size).s t = getS (stL ops x st0 (fun _ => true) k).s t := fun y hy t e => hslot t (looks_op (by rw [← e]; exact hy))
        cases hq : isQ E (opAt ops k).op with
        | true =>
          obtain ⟨hnw, hF, hall⟩ := hrk.quiet hon hq
          classical
          refine op_sound hE hw o (o.dst.getD 0) _ a hs (fun v1 o1 => if v1 = (x k).v ∧ o1 = (stL ops x st0 (Lof listed) ops.size).o then some () else none) () ?_ _ Q ?_
          · rw [hopk] at hall hq hF hops
            rw [opK_congr E o.op _ _ (stL ops x st0 (fun _ => true) k).s _ _ (fun y hy => rho_same (hops y hy))]
            rw [opQ_same E o.op hq]
            rw [opQ_local E o.op hq _ _ _ (stL ops x st0 (fun _ => true) k).o _ (fun n hn => hobj n hon (by rw [hF]; simpa using hn))]
            rw [hall Unit]
            exact if_pos ⟨rfl, rfl⟩
          · intro av o1 u w' g' hk1 hw' hg' hv
            have hk' : (if av = (x k).v ∧ o1 = (stL ops x st0 (Lof listed) ops.size).o then some () else none) = some () := hk1
            split at hk'
            case isFalse => cases hk'
            rename_i he
            obtain ⟨rfl, rfl⟩ := he
            refine behind _ w' ⟨g', ?_, ?_, hg.trans hg', ?_, by rw [put_defers]; exact hd⟩
            · simp only [app, hnw, Bool.and_false, Bool.false_eq_true, if_false]; exact hw'
            · simp only [app, hopk]
              exact put_VRL (VRL_mono hg' _ _ hs) o.dst _ u hv
            · simp only [app]; rw [stL_m]; exact hm'
        | false =>
          obtain ⟨hwr, v, hv0, hall⟩ := hrk.wr hon hq
          have hview : viewF (x k).F (stL ops x st0 (Lof listed) ops.size).o = viewF (x k).F (stL ops x st0 (fun _ => true) k).o := by
            funext c
            unfold viewF
            split
            · rename_i hc; rw [hobj c hon hc]
            · rfl
          refine opW_sound hE hw o (x k).F _ a hs v (x k).o' ?_ _ Q ?_
          · intro R' κ'
            rw [hopk] at hall hops
            rw [hview, opK_congr E o.op _ _ (renL (onF (x k).F) (stL ops x st0 (fun _ => true) k).s) _ _ (fun y hy => rho_ren_same (hops y hy))]
            exact hall R' κ'
          · intro u w' g' hw' hg' hv
            refine behind _ w' ⟨g', ?_, ?_, hg.trans hg', ?_, by rw [put_defers]; exact hd⟩
            · simp only [app, hon, hwr, Bool.and_self, if_true]; exact hw'
            · simp only [app, hopk]
              rw [hv0]
              exact put_VRL (VRL_mono hg' _ _ hs) o.dst _ u hv
            · simp only [app]; rw [stL_m]; exact hm'
    induction fuel with
    | zero =>
      intro listed a w hsz hcl hcnt hi
      have hall : ∀ k, k < ops.size → Lof listed k = true := by
        intro k hk
        have h0 : ((List.range ops.size).countP fun k => !Lof listed k) = 0 := by omega
        rw [List.countP_eq_zero] at h0
        have := h0 k (List.mem_range.2 hk)
        simpa using this
      refine ⟨?_, done listed a w hsz hall hi⟩
      cases hr : Region.ready .any ops listed with
      | nil => rfl
      | cons k ks =>
        have hk : k ∈ Region.ready .any ops listed := by rw [hr]; exact List.mem_cons_self
        obtain ⟨hun, o, ho, _⟩ := mem_ready.1 hk
        have hksz : k < ops.size := (Array.getElem?_eq_some_iff.1 ho).1
        have h1 := hall k hksz
        have hk' : k < listed.size := by omega
        simp only [Lof, Array.getD_eq_getD_getElem?, Array.getElem?_eq_getElem hk', Option.getD_some] at hun h1
        rw [hun] at h1; cases h1
    | succ fuel ih =>
      intro listed a w hsz hcl hcnt hi
      refine ⟨fun hr => done listed a w hsz (readyAll listed hsz hr) hi, fun k hk => step fuel ih listed a w hsz hcl hcnt hi k hk⟩
  refine key ops.size (Array.replicate ops.size false) a0 _ (by simp) ?_ ?_ ?_
  · intro k hk
    simp only [Lof, Array.getD_eq_getD_getElem?, Array.getElem?_replicate] at hk
    split at hk <;> cases hk
  · exact Nat.le_trans List.countP_le_length (by simp)
  · obtain ⟨g, hw, hs, hg, hm, hd⟩ := hi0
    have : stL ops x st0 (Lof (Array.replicate ops.size false)) ops.size = st0 := by
      have : ∀ n, stL ops x st0 (Lof (Array.replicate ops.size false)) n = st0 := by
        intro n
        induction n with
        | zero => rfl
        | succ n ih =>
          unfold stL
          rw [ih]
          have : Lof (Array.replicate ops.size false) n = false := by
            simp only [Lof, Array.getD_eq_getD_getElem?, Array.getElem?_replicate]
            split <;> rfl
          rw [this]; rfl
      exact this _
    rw [this]
    exact ⟨g, hw.drawn _, hs, hg, hm, hd⟩
end Go.Den
