/- What the evaluator does does not hang on what comes behind: the operations. -/
import Derived.Test.YtlmljpmohljefaaPar
set_option linter.unusedVariables false
set_option linter.unusedSimpArgs false
namespace Go.Den

theorem headK_det (cs : List AV) : Det fun R κ => headK cs κ := by
  intro R κ; show headK cs κ = (headK cs some).bind κ
  cases cs <;> rfl

theorem fromCells_det (Θ : Nat → TD) (t : Nat) (cs : List AV) : Det fun R κ => fromCells Θ t cs κ := by
  intro R κ; show fromCells Θ t cs κ = (fromCells Θ t cs some).bind κ
  unfold fromCells
  split
  · split <;> rfl
  · rfl
  · rfl
  · exact headK_det cs R κ

theorem loadK_det (Θ : Nat → TD) (t : Nat) (x : AV) (o : Objs) : Det fun R κ => loadK Θ t x o κ := by
  intro R κ; show loadK Θ t x o κ = (loadK Θ t x o some).bind κ
  unfold loadK
  split
  · split
    · exact fromCells_det Θ t _ R κ
    · split
      · split <;> rfl
      · rfl
    · rfl
  · exact fromCells_det Θ t _ R κ
  · split
    · split
      · exact fromCells_det Θ t _ R κ
      · rfl
    · split
      · exact fromCells_det Θ t _ R κ
      · rfl
    · rfl
  · rfl

theorem storeK_det (Θ : Nat → TD) (t : Nat) (x v : AV) (o : Objs) : Det fun R κ => storeK Θ t x v o κ := by
  intro R κ; show storeK Θ t x v o κ = (storeK Θ t x v o some).bind κ
  unfold storeK
  split
  · split
    · split <;> rfl
    · split
      · split
        · split <;> rfl
        · rfl
      · rfl
    · rfl
  · rename_i n i off
    split
    · refine (Det.bind (resolveK_det (cellsOf v) o) (h := fun p R (κ : Objs → Option R) => match p.2 n with
        | some (.row el e l false) => match idx l i with
          | some x => if okK (Θ t).k = true ∧ p.1.length = (Θ t).sz ∧ off + p.1.length ≤ e.sz then
              packK e (putCells (leaves e x) off p.1) fun y _ => κ (upd p.2 n (.row el e (l.set i.toNat y) false))
            else none
          | none => none
        | some (.arr m e l) => match idx l i with
          | some x => if okK (Θ t).k = true ∧ p.1.length = (Θ t).sz ∧ off + p.1.length ≤ e.sz then
              packK e (putCells (leaves e x) off p.1) fun y _ => κ (upd p.2 n (.arr m e (l.set i.toNat y)))
            else none
          | none => none
        | _ => none) ?_) R κ
      intro p R κ
      simp only
      split
      · rename_i el e l _
        split
        · split
          · exact Det.map (packK_det _ _) (fun q => upd p.2 n (.row el e (l.set i.toNat q.1) false)) R κ
          · rfl
        · rfl
      · rename_i m e l _
        split
        · split
          · exact Det.map (packK_det _ _) (fun q => upd p.2 n (.arr m e (l.set i.toNat q.1))) R κ
          · rfl
        · rfl
      · rfl
    · rfl
  · rfl

theorem intK_det (op : BinOp) (k : IntKind) (x y : Int) : Det fun R κ => intK op k x y κ := by
  intro R κ; show intK op k x y κ = (intK op k x y some).bind κ
  unfold intK
  split <;> first | rfl | (split <;> rfl)

theorem shiftK_det (left : Bool) (k : IntKind) (a b : Int) : Det fun R κ => shiftK left k a b κ := by
  intro R κ; show shiftK left k a b κ = (shiftK left k a b some).bind κ
  unfold shiftK
  split
  · rfl
  · split <;> rfl

theorem nilEq_det (op : BinOp) (c : Bool) : Det fun R κ => nilEq op c κ := by
  intro R κ; show nilEq op c κ = (nilEq op c some).bind κ
  unfold nilEq
  split <;> rfl

theorem eqK_det (Θ : Nat → TD) : ∀ (fs : List (Nat × Nat)) (k : Nat) (as bs : List AV), Det fun R κ => eqK Θ k fs as bs κ
  | [], k, [], [] => fun _ _ => rfl
  | [], k, [], _ :: _ => fun _ _ => rfl
  | [], k, _ :: _, _ => fun _ _ => rfl
  | _ :: _, k, [], _ => fun _ _ => rfl
  | _ :: _, k, _ :: _, [] => fun _ _ => rfl
  | (off, t) :: fs, k, a :: as, b :: bs => by
    intro R κ; show eqK Θ k ((off, t) :: fs) (a :: as) (b :: bs) κ = (eqK Θ k ((off, t) :: fs) (a :: as) (b :: bs) some).bind κ
    have ih := fun c : Bool => Det.bind (eqK_det Θ fs (k + 1) as bs) (h := fun c' R (κ : Bool → Option R) => κ (if c then c' else false)) fun c' => Det.pure _
    unfold eqK
    split
    · split
      · split
        · exact ih _ R κ
        · rfl
      · split
        · split
          · exact ih _ R κ
          · rfl
        · rfl
      · split
        · exact ih _ R κ
        · rfl
      · rfl
    · rfl

theorem binK_det (Θ : Nat → TD) (op : BinOp) (t : Nat) (x y : AV) : Det fun R κ => binK Θ op t x y κ := by
  intro R κ; show binK Θ op t x y κ = (binK Θ op t x y some).bind κ
  unfold binK
  split
  · split
    · exact shiftK_det _ _ _ _ R κ
    · exact shiftK_det _ _ _ _ R κ
    · split
      · exact intK_det _ _ _ _ R κ
      · rfl
  · split
    · exact nilEq_det _ _ R κ
    · rfl
  · split
    · split <;> rfl
    · rfl
    · rfl
    · rfl
    · rfl
  · split
    · exact nilEq_det _ _ R κ
    · rfl
  · split
    · exact nilEq_det _ _ R κ
    · rfl
  · split
    · exact nilEq_det _ _ R κ
    · rfl
  · split
    · exact nilEq_det _ _ R κ
    · rfl
  · split
    · split
      · exact (Det.bind (eqK_det _ _ _ _ _) (h := fun c R (κ : AV → Option R) => nilEq op c κ) fun c => nilEq_det op c) R κ
      · rfl
    · rfl
  · rfl

theorem elemsK_det (t : Ty) (y : AV) (o : Objs) : Det fun R κ => elemsK t y o κ := by
  intro R κ; show elemsK t y o κ = (elemsK t y o some).bind κ
  unfold elemsK
  split
  · split <;> rfl
  · split
    · split <;> rfl
    · rfl
  · rfl
  · split <;> rfl
  · rfl

noncomputable def appK {R : Type} (Θ : Nat → TD) (e : Nat) (t : Ty) (dst : Nat) (x : AV) (o : Objs) (ys : List t.I) (κ : AV → Objs → Option R) : Option R :=
  match x with
  | .nilsl => if (ys.length) * (Θ e).nb ≤ lim then newK o (nm dst 0) (.row e t ys false) fun o => κ (.row (nm dst 0)) o else none
  | .row n => match o n with
    | some (.row e' t' l frz) => if h : t' = t then
        if e' = e then
          if (l.length + ys.length) * (Θ e).nb ≤ lim then newK (upd o n .gone) (nm dst 0) (.row e t ((h ▸ l) ++ ys) frz) fun o => κ (.row (nm dst 0)) o else none
        else none
      else none
    | _ => none
  | _ => none

theorem appendK_eq {R : Type} (Θ : Nat → TD) (e : Nat) (t : Ty) (dst : Nat) (x y : AV) (o : Objs) (κ : AV → Objs → Option R) : appendK Θ e t dst x y o κ = elemsK t y o fun ys => appK Θ e t dst x o ys κ := by
  cases x <;> rfl

theorem appK_det (Θ : Nat → TD) (e : Nat) (t : Ty) (dst : Nat) (x : AV) (o : Objs) (ys : List t.I) : Det fun R (κ : AV × Objs → Option R) => appK Θ e t dst x o ys (two κ) := by
  intro R κ; show appK Θ e t dst x o ys (two κ) = (appK Θ e t dst x o ys (two some)).bind κ
  unfold appK
  split
  · split
    · exact Det.map (newK_det _ _ _) (fun o => (AV.row (nm dst 0), o)) R κ
    · rfl
  · split
    · split
      · split
        · split
          · exact Det.map (newK_det _ _ _) (fun o => (AV.row (nm dst 0), o)) R κ
          · rfl
        · rfl
      · rfl
    · rfl
  · rfl

theorem appendK_det (Θ : Nat → TD) (e : Nat) (t : Ty) (dst : Nat) (x y : AV) (o : Objs) : Det fun R (κ : AV × Objs → Option R) => appendK Θ e t dst x y o (two κ) := by
  intro R κ
  show appendK Θ e t dst x y o (two κ) = (appendK Θ e t dst x y o (two some)).bind κ
  rw [appendK_eq, appendK_eq]
  exact Det.bind (elemsK_det t y o) (h := fun ys R (κ : AV × Objs → Option R) => appK Θ e t dst x o ys (two κ)) (fun ys => appK_det Θ e t dst x o ys) R κ

theorem copK_det (t : Ty) (x : AV) (o : Objs) (ys : List t.I) : Det fun R (κ : AV × Objs → Option R) => copK t x o ys (two κ) := by
  intro R κ; show copK t x o ys (two κ) = (copK t x o ys (two some)).bind κ
  unfold copK
  split
  · split
    · split
      · split <;> rfl
      · rfl
    · rfl
  · split <;> rfl
  · rfl

theorem copyK_det (t : Ty) (x y : AV) (o : Objs) : Det fun R (κ : AV × Objs → Option R) => copyK t x y o (two κ) :=
  Det.bind (elemsK_det t y o) (h := fun ys R (κ : AV × Objs → Option R) => copK t x o ys (two κ)) (fun ys => copK_det t x o ys)

theorem lenK_det (x : AV) (o : Objs) : Det fun R κ => lenK x o κ := by
  intro R κ; show lenK x o κ = (lenK x o some).bind κ
  unfold lenK
  split <;> first | rfl | (split <;> rfl)

theorem cutI_det (lo hi : Option Int) (n : Nat) : Det fun R (κ : Nat × Nat → Option R) => cutI lo hi n (two κ) := by
  intro R κ; show cutI lo hi n (two κ) = (cutI lo hi n (two some)).bind κ
  unfold cutI
  split <;> first | rfl | (split <;> rfl)

theorem cutK_det (lo hi : Option AV) (n : Nat) : Det fun R (κ : Nat × Nat → Option R) => cutK lo hi n (two κ) := by
  intro R κ; show cutK lo hi n (two κ) = (cutK lo hi n (two some)).bind κ
  unfold cutK
  split
  · exact cutI_det _ _ n R κ
  · rfl

theorem sliceK_det (Θ : Nat → TD) (tx : Nat) (x : AV) (lo hi : Option AV) (o : Objs) : Det fun R (κ : AV × Objs → Option R) => sliceK Θ tx x lo hi o (two κ) := by
  intro R κ; show sliceK Θ tx x lo hi o (two κ) = (sliceK Θ tx x lo hi o (two some)).bind κ
  unfold sliceK
  split
  · split
    · rename_i s
      exact Det.map (cutK_det _ _ _) (fun p => (AV.d .str (s.extract p.1 p.2), o)) R κ
    · rfl
  · split
    · rename_i t l
      split
      · exact Det.map (cutK_det _ _ _) (fun p => (AV.d (.sl t) ((l.take p.2).drop p.1), o)) R κ
      · rfl
    · rename_i n
      split
      · rename_i el t l _ _
        split
        · exact Det.map (cutK_det _ _ _) (fun p => (AV.d (.sl t) ((l.take p.2).drop p.1), upd o n (.row el t l true))) R κ
        · rfl
      · rfl
    · rfl
  · rfl

theorem indexAddrK_det (Θ : Nat → TD) (tx : Nat) (x : AV) (i : Int) (o : Objs) : Det fun R κ => indexAddrK Θ tx x i o κ := by
  intro R κ; show indexAddrK Θ tx x i o κ = (indexAddrK Θ tx x i o some).bind κ
  unfold indexAddrK
  split
  · split
    · split
      · split <;> rfl
      · rfl
    · split
      · split
        · split <;> rfl
        · rfl
      · rfl
    · rfl
  · split
    · split
      · split
        · split <;> rfl
        · rfl
      · rfl
    · rfl
  · rfl

theorem indexK_det (Θ : Nat → TD) (tx : Nat) (x : AV) (i : Int) : Det fun R κ => indexK Θ tx x i κ := by
  intro R κ; show indexK Θ tx x i κ = (indexK Θ tx x i some).bind κ
  unfold indexK
  split
  · split
    · split <;> rfl
    · rfl
  · split
    · split
      · split
        · exact fromCells_det Θ _ _ R κ
        · rfl
      · rfl
    · rfl
  · rfl

theorem convK_det (Θ : Nat → TD) (src dst tdst : Nat) (x : AV) (o : Objs) : Det fun R (κ : AV × Objs → Option R) => convK Θ src dst tdst x o (two κ) := by
  intro R κ; show convK Θ src dst tdst x o (two κ) = (convK Θ src dst tdst x o (two some)).bind κ
  unfold convK
  split
  · rfl
  · rfl
  · split <;> rfl
  · split
    · split
      · rfl
      · exact Det.map (elemsK_det (.int .u8) _ o) (fun l => (AV.d .str (strOf l), o)) R κ
    · rfl
  · rfl

theorem fillK_det (Θ : Nat → TD) (fs : List (Nat × Nat)) : ∀ (ps : List (Nat × AV)) (cs : List AV), Det fun R κ => fillK Θ fs ps cs κ
  | [], cs => fun _ _ => rfl
  | (i, v) :: rest, cs => by
    intro R κ; show fillK Θ fs ((i, v) :: rest) cs κ = (fillK Θ fs ((i, v) :: rest) cs some).bind κ
    unfold fillK
    split
    · split
      · exact fillK_det Θ fs rest _ R κ
      · rfl
    · rfl

theorem partsK_det (t : Ty) : ∀ (ps : List (Nat × AV)) (o : Objs), Det fun R (κ : List t.I × Objs → Option R) => partsK t ps o (two κ)
  | [], o => fun _ _ => rfl
  | (i, v) :: rest, o => by
    intro R κ; show partsK t ((i, v) :: rest) o (two κ) = (partsK t ((i, v) :: rest) o (two some)).bind κ
    unfold partsK
    split
    · have h3 : ∀ (y : t.I) (o : Objs), Det fun R (κ : List t.I × Objs → Option R) => partsK t rest o fun xs o => two κ (y :: xs) o := fun y o => Det.map (partsK_det t rest o) fun s => (y :: s.1, s.2)
      have h2 : ∀ p : List AV × Objs, Det fun R (κ : List t.I × Objs → Option R) => packK t p.1 fun x _ => partsK t rest p.2 fun xs o => two κ (x :: xs) o := fun p =>
        Det.bind (packK_det t p.1) (h := fun (q : t.I × List AV) R (κ : List t.I × Objs → Option R) => partsK t rest p.2 fun xs o => two κ (q.1 :: xs) o) fun q => h3 q.1 p.2
      exact (Det.bind (resolveK_det (cellsOf v) o) (h := fun p R (κ : List t.I × Objs → Option R) => packK t p.1 fun x _ => partsK t rest p.2 fun xs o => two κ (x :: xs) o) h2) R κ
    · rfl

theorem buildK_det (Θ : Nat → TD) (t : Nat) (ps : List (Nat × AV)) (o : Objs) : Det fun R (κ : AV × Objs → Option R) => buildK Θ t ps o (two κ) := by
  intro R κ; show buildK Θ t ps o (two κ) = (buildK Θ t ps o (two some)).bind κ
  unfold buildK
  split
  · exact (Det.bind (fillK_det _ _ _ _) (h := fun cs R (κ : AV × Objs → Option R) => κ (.agg cs, o)) fun p => Det.pure _) R κ
  · split
    · split
      · rename_i n e _ _ te _ _
        exact Det.map (partsK_det te ps o) (fun p => (AV.d (.arr n te) p.1, p.2)) R κ
      · rfl
    · rfl
  · rfl

theorem nilCheckK_det (x : AV) : Det fun R κ => nilCheckK x κ := by
  intro R κ; show nilCheckK x κ = (nilCheckK x some).bind κ
  unfold nilCheckK
  split <;> rfl

theorem fieldAddrK_det (off : Nat) (x : AV) : Det fun R κ => fieldAddrK off x κ := by
  intro R κ; show fieldAddrK off x κ = (fieldAddrK off x some).bind κ
  unfold fieldAddrK
  split <;> rfl

theorem makeK_det (nb : Nat) (l c : Int) : Det fun R κ => makeK nb l c κ := by
  intro R κ; show makeK nb l c κ = (makeK nb l c some).bind κ
  unfold makeK
  split <;> rfl

theorem arrK_det (Θ : Nat → TD) (t : Nat) : Det fun R (κ : Nat × Ty → Option R) => arrK Θ t (two κ) := by
  intro R κ; show arrK Θ t (two κ) = (arrK Θ t (two some)).bind κ
  unfold arrK
  split
  · split
    · split <;> rfl
    · rfl
  · rfl

theorem prepK_det : ∀ (ms : List Mode) (vs : List AV) (j : Nat) (o : Objs), Det fun R (κ : List AV × Objs → Option R) => prepK ms vs j o (two κ)
  | [], [], j, o => fun _ _ => rfl
  | [], _ :: _, j, o => fun _ _ => rfl
  | _ :: _, [], j, o => fun _ _ => rfl
  | m :: ms, v :: vs, j, o => by
    intro R κ; show prepK (m :: ms) (v :: vs) j o (two κ) = (prepK (m :: ms) (v :: vs) j o (two some)).bind κ
    have ih : ∀ (x : AV) (o : Objs), Det fun R (κ : List AV × Objs → Option R) => prepK ms vs (j + 1) o fun vs o => two κ (x :: vs) o := fun x o => Det.map (prepK_det ms vs (j + 1) o) fun p => (x :: p.1, p.2)
    unfold prepK
    cases m with
    | own e t =>
      simp only
      split
      · split
        · exact (Det.bind (newK_det _ _ _) (h := fun o R (κ : List AV × Objs → Option R) => prepK ms vs (j + 1) o fun vs o => two κ (.row j :: vs) o) fun o => ih (.row j) o) R κ
        · rfl
      · exact ih _ o R κ
    | raw => exact ih _ o R κ
    | fz =>
      simp only
      split
      · rename_i n off
        split
        · rename_i cs _
          have h2 : ∀ p : List AV × Objs, Det fun R (κ : List AV × Objs → Option R) => match p.2 n with
              | some (.box _) => prepK ms vs (j + 1) (upd p.2 n (.box p.1)) fun vs o => two κ (.ptr n off :: vs) o
              | _ => none := fun p => by
            intro R κ
            dsimp only
            split
            · exact ih (.ptr n off) _ R κ
            · rfl
          exact (Det.bind (resolveK_det cs o) (h := fun p R (κ : List AV × Objs → Option R) => match p.2 n with
              | some (.box _) => prepK ms vs (j + 1) (upd p.2 n (.box p.1)) fun vs o => two κ (.ptr n off :: vs) o
              | _ => none) h2) R κ
        · rfl
      · rfl
    | dat t ag =>
      simp only
      split
      · have h2 : ∀ p : List AV × Objs, Det fun R (κ : List AV × Objs → Option R) => packK t p.1 fun x _ => prepK ms vs (j + 1) p.2 fun vs o => two κ (ofD ag t x :: vs) o := fun p =>
          Det.bind (packK_det t p.1) (h := fun (q : t.I × List AV) R (κ : List AV × Objs → Option R) => prepK ms vs (j + 1) p.2 fun vs o => two κ (ofD ag t q.1 :: vs) o) fun q => ih (ofD ag t q.1) p.2
        exact (Det.bind (resolveK_det (cellsOf v) o) (h := fun p R (κ : List AV × Objs → Option R) => packK t p.1 fun x _ => prepK ms vs (j + 1) p.2 fun vs o => two κ (ofD ag t x :: vs) o) h2) R κ
      · rfl

theorem objsAt_det (o : Objs) (f : Nat → Option Nat) : ∀ ns : List Nat, Det fun R κ => objsAt o f ns κ
  | [] => fun _ _ => rfl
  | n :: ns => by
    intro R κ; show objsAt o f (n :: ns) κ = (objsAt o f (n :: ns) some).bind κ
    unfold objsAt
    split
    · rename_i x _
      exact Det.map (objsAt_det o f ns) (fun xs => renO f x :: xs) R κ
    · rfl

/-- a summary does not hang on what comes behind -/
def SumDet (S : Sum) : Prop := ∀ avs objs, Det fun R (κ : List AV × List Obj → Option R) => S.run avs objs (two κ)

theorem callK_det {S : Sum} (hS : SumDet S) (dst : Nat) (args : List AV) (o : Objs) : Det fun R (κ : AV × Objs → Option R) => callK S dst args o (two κ) := by
  unfold callK
  refine Det.bind (prepK_det _ _ _ _) (h := fun p R (κ : AV × Objs → Option R) =>
    let ns := gather p.2 200 (namesL p.1) []
    if placeOk ns 0 ns = true then
    objsAt p.2 (place ns) ns fun objs =>
    S.run (renL (place ns) p.1) objs fun rs os =>
    if ns.length ≤ os.length ∧ freeK p.2 dst (os.length - ns.length) = true then
      two κ (renV (backO ns dst os.length) (tupOf rs)) (setAll (backO ns dst os.length) 0 os p.2)
    else none
    else none) ?_
  intro p
  refine Det.ite ?_ Det.none
  refine Det.bind (objsAt_det _ _ _) (h := fun objs R (κ : AV × Objs → Option R) => S.run (renL (place (gather p.2 200 (namesL p.1) [])) p.1) objs fun rs os =>
    if (gather p.2 200 (namesL p.1) []).length ≤ os.length ∧ freeK p.2 dst (os.length - (gather p.2 200 (namesL p.1) []).length) = true then
      two κ (renV (backO (gather p.2 200 (namesL p.1) []) dst os.length) (tupOf rs)) (setAll (backO (gather p.2 200 (namesL p.1) []) dst os.length) 0 os p.2)
    else none) ?_
  intro objs
  refine Det.bind (hS _ objs) (h := fun q R (κ : AV × Objs → Option R) => if (gather p.2 200 (namesL p.1) []).length ≤ q.2.length ∧ freeK p.2 dst (q.2.length - (gather p.2 200 (namesL p.1) []).length) = true then
      two κ (renV (backO (gather p.2 200 (namesL p.1) []) dst q.2.length) (tupOf q.1)) (setAll (backO (gather p.2 200 (namesL p.1) []) dst q.2.length) 0 q.2 p.2)
    else none) ?_
  intro q
  exact Det.ite (Det.pure (_, _)) Det.none
end Go.Den
