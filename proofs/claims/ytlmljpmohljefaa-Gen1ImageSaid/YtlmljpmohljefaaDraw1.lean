/- What an operation looks at. -/
import Derived.Test.YtlmljpmohljefaaSound19
set_option linter.unusedVariables false
set_option linter.unusedSimpArgs false
namespace Go.Den

theorem map_rho {s s' : List AV} {xs : List Operand} (h : ∀ x ∈ xs, rho s x = rho s' x) : xs.map (rho s) = xs.map (rho s') := List.map_congr_left h
theorem map_rho2 {s s' : List AV} {ps : List (Nat × Operand)} (h : ∀ x ∈ ps.map (·.2), rho s x = rho s' x) : ps.map (fun p => (p.1, rho s p.2)) = ps.map (fun p => (p.1, rho s' p.2)) := by
  apply List.map_congr_left
  intro p hp
  rw [h p.2 (List.mem_map_of_mem hp)]
theorem opt_rho {s s' : List AV} {x : Option Operand} (h : ∀ y ∈ x, rho s y = rho s' y) : x.map (rho s) = x.map (rho s') := by
  cases x with
  | none => rfl
  | some y => simp [h y rfl]

theorem opK_congr {R : Type} (E : Env) (op : Op) (dst : Nat) (s s' : List AV) (o : Objs) (κ : AV → Objs → Option R) (h : ∀ x ∈ op.operands.toList, rho s x = rho s' x) : opK E op dst s o κ = opK E op dst s' o κ := by
  cases op with
  | move x => simp only [opK]; rw [h x (by simp [Op.operands])]
  | assign x => simp only [opK]; rw [h x (by simp [Op.operands])]
  | pick c x y => simp only [opK]; rw [h c (by simp [Op.operands]), h x (by simp [Op.operands]), h y (by simp [Op.operands])]
  | box t x => simp only [opK]; rw [h x (by simp [Op.operands])]
  | build t ps => simp only [opK]; rw [map_rho2 (s := s) (s' := s') (by simpa [Op.operands] using h)]
  | buildSlice t len ps => simp only [opK]; rw [map_rho2 (s := s) (s' := s') (by simpa [Op.operands] using h)]
  | load t x => simp only [opK]; rw [h x (by simp [Op.operands])]
  | store t x v => simp only [opK]; rw [h x (by simp [Op.operands]), h v (by simp [Op.operands])]
  | nilCheck x => simp only [opK]; rw [h x (by simp [Op.operands])]
  | binOp op t x y ty => simp only [opK]; rw [h x (by simp [Op.operands]), h y (by simp [Op.operands])]
  | unOp op t x => simp only [opK]; rw [h x (by simp [Op.operands])]
  | convert a b x => simp only [opK]; rw [h x (by simp [Op.operands])]
  | makeFunc f first caps =>
    cases f with
    | func f =>
      simp only [opK]
      rw [map_rho (s := s) (s' := s') (xs := first.toList) (fun x hx => h x (by simp [Op.operands]; exact .inl (by simpa using hx))), map_rho (s := s) (s' := s') (xs := caps.toList) (fun x hx => h x (by simp [Op.operands]; exact .inr (by simpa using hx)))]
    | _ => rfl
  | makeSlice t l c => simp only [opK]; rw [h l (by simp [Op.operands]), h c (by simp [Op.operands])]
  | slice t x lo hi mx =>
    cases mx with
    | some m => rfl
    | none =>
      simp only [opK]
      rw [h x (by simp [Op.operands]), opt_rho (s := s) (s' := s') (x := lo) (fun y hy => h y (by simp [Op.operands]; exact .inr (.inl (by simpa using hy)))), opt_rho (s := s) (s' := s') (x := hi) (fun y hy => h y (by simp [Op.operands]; exact .inr (.inr (by simpa using hy))))]
  | fieldAddr t x f => simp only [opK]; rw [h x (by simp [Op.operands])]
  | field t x f => simp only [opK]; rw [h x (by simp [Op.operands])]
  | indexAddr t x i => simp only [opK]; rw [h x (by simp [Op.operands]), h i (by simp [Op.operands])]
  | index t x i => simp only [opK]; rw [h x (by simp [Op.operands]), h i (by simp [Op.operands])]
  | extract x i => simp only [opK]; rw [h x (by simp [Op.operands])]
  | call c =>
    simp only [opK]
    have ha : c.args.toList.map (rho s) = c.args.toList.map (rho s') := map_rho fun x hx => h x (by
      simp only [Op.operands, Call.operands]
      split <;> simp <;> first | exact .inr (by simpa using hx) | (simpa using hx))
    rw [ha]
    split
    · rfl
    · rename_i f hf
      rw [h f (by simp [Op.operands, Call.operands, hf])]
    · rfl
  | _ => rfl

theorem opQ_same {R : Type} (E : Env) (op : Op) (hq : isQ E op = true) (dst : Nat) (s : List AV) (o : Objs) (κ : AV → Objs → Option R) : opK E op dst s o κ = opK E op dst s o (fun v _ => κ v o) := by
  cases op with
  | convert a b x =>
    simp only [opK]
    unfold convK
    split
    · rfl
    · rfl
    · split <;> rfl
    · split
      · split <;> rfl
      · rfl
    · rfl
  | build t ps =>
    simp only [isQ] at hq
    simp only [opK]
    unfold buildK
    split
    · rfl
    · rename_i hk; rw [hk] at hq; simp at hq
    · rfl
  | call c =>
    simp only [isQ] at hq
    simp only [opK]
    split at hq
    · rename_i hc
      rw [hc]
      simp only [builtinK]
      split
      · split
        · split
          · split <;> rfl
          · rfl
          · split <;> rfl
          · rfl
        · rfl
      all_goals first | rfl | (split <;> rfl) | contradiction
    · rename_i hc
      rw [hc]
      simp only [builtinK]
      split
      all_goals first | rfl | (split <;> rfl) | contradiction
    · rename_i hc
      rw [hc]
      simp only [builtinK]
      split
      all_goals first | rfl | (split <;> rfl) | contradiction
    · cases hq
  | unOp op t x => simp only [opK]
  | pick c x y => simp only [opK]
  | makeFunc f a b => cases f <;> rfl
  | alloc t => cases hq
  | box t x => cases hq
  | buildSlice t n ps => cases hq
  | store t x v => cases hq
  | makeSlice t a b => cases hq
  | slice t x lo hi mx => cases hq
  | _ => rfl

theorem loadK_local {R : Type} (Θ : Nat → TD) (t : Nat) (x : AV) (o o' : Objs) (κ : AV → Option R) (h : ∀ n ∈ namesV x, o n = o' n) : loadK Θ t x o κ = loadK Θ t x o' κ := by
  unfold loadK
  split
  · rename_i n off; rw [h n (by simp [namesV])]
  · rfl
  · rename_i n i off; rw [h n (by simp [namesV])]
  · rfl

theorem elemsK_local {R : Type} (t : Ty) (x : AV) (o o' : Objs) (κ : List t.I → Option R) (h : ∀ n ∈ namesV x, o n = o' n) : elemsK t x o κ = elemsK t x o' κ := by
  unfold elemsK
  split
  · rfl
  · rename_i n; rw [h n (by simp [namesV])]
  · rfl
  · rfl
  · rfl

theorem lenK_local {R : Type} (x : AV) (o o' : Objs) (κ : AV → Option R) (h : ∀ n ∈ namesV x, o n = o' n) : lenK x o κ = lenK x o' κ := by
  unfold lenK
  split
  · rfl
  · rfl
  · rfl
  · rename_i n; rw [h n (by simp [namesV])]
  · rfl

theorem indexAddrK_local {R : Type} (Θ : Nat → TD) (t : Nat) (x : AV) (i : Int) (o o' : Objs) (κ : AV → Option R) (h : ∀ n ∈ namesV x, o n = o' n) : indexAddrK Θ t x i o κ = indexAddrK Θ t x i o' κ := by
  unfold indexAddrK
  split
  · split
    · rfl
    · rename_i n; rw [h n (by simp [namesV])]
    · rfl
  · split
    · rename_i n; rw [h n (by simp [namesV])]
    · rfl
  · rfl

theorem mem_namesL {v : AV} {vs : List AV} (hv : v ∈ vs) {n : Nat} (hn : n ∈ namesV v) : n ∈ namesL vs := by
  induction vs with
  | nil => cases hv
  | cons a vs ih =>
    simp only [namesL, List.mem_append]
    rcases List.mem_cons.1 hv with e | e
    · subst e; exact .inl hn
    · exact .inr (ih e)

theorem opQ_local {R : Type} (E : Env) (op : Op) (hq : isQ E op = true) (dst : Nat) (s : List AV) (o o' : Objs) (κ : AV → Option R) (h : ∀ n ∈ namesL (op.operands.toList.map (rho s)), o n = o' n) : opK E op dst s o (fun v _ => κ v) = opK E op dst s o' (fun v _ => κ v) := by
  have hx : ∀ x ∈ op.operands.toList, ∀ n ∈ namesV (rho s x), o n = o' n := fun x hx n hn => h n (mem_namesL (List.mem_map_of_mem hx) hn)
  cases op with
  | load t x => exact loadK_local _ _ _ _ _ _ (hx x (by simp [Op.operands]))
  | indexAddr t x i =>
    simp only [opK]
    split
    · exact indexAddrK_local _ _ _ _ _ _ _ (hx x (by simp [Op.operands]))
    · rfl
  | convert a b x =>
    simp only [opK]
    unfold convK
    split
    · rfl
    · rfl
    · split <;> rfl
    · split
      · split
        · rfl
        · exact elemsK_local _ _ _ _ _ (hx x (by simp [Op.operands]))
      · rfl
    · rfl
  | build t ps =>
    simp only [isQ] at hq
    simp only [opK]
    unfold buildK
    split
    · rfl
    · rename_i hk; rw [hk] at hq; simp at hq
    · rfl
  | call c =>
    simp only [isQ] at hq
    simp only [opK]
    split at hq
    · rename_i hc
      rw [hc]
      simp only
      have ha : ∀ x ∈ c.args.toList, ∀ n ∈ namesV (rho s x), o n = o' n := fun x hx' => hx x (by simp only [Op.operands, Call.operands, hc]; simpa using hx')
      cases hargs : c.args.toList with
      | nil => rfl
      | cons a as =>
        cases as with
        | nil =>
          simp only [List.map_cons, List.map_nil, builtinK]
          split
          · split
            · rfl
            · rfl
            · split
              · rfl
              · exact lenK_local _ _ _ _ (ha a (by rw [hargs]; simp))
            · rfl
          · rfl
        | cons b bs => rfl
    · rename_i hc
      rw [hc]
      simp only [builtinK]
      split
      all_goals first | rfl | (split <;> rfl) | contradiction
    · rename_i hc
      rw [hc]
      simp only [builtinK]
      split
      all_goals first | rfl | (split <;> rfl) | contradiction
    · cases hq
  | makeFunc f a b => cases f <;> rfl
  | alloc t => cases hq
  | box t x => cases hq
  | buildSlice t n ps => cases hq
  | store t x v => cases hq
  | makeSlice t a b => cases hq
  | slice t x lo hi mx => cases hq
  | _ => rfl
end Go.Den
