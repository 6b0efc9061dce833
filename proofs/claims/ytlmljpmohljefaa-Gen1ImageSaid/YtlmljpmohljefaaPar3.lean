/- What the evaluator does does not hang on what comes behind: whole functions. -/
import Derived.Test.YtlmljpmohljefaaPar2
set_option linter.unusedVariables false
set_option linter.unusedSimpArgs false
namespace Go.Den

def GDet (E : Env) : Prop := ∀ f S, E.Γ f = some S → SumDet S

theorem builtinK_det (Θ : Nat → TD) (b : Builtin) (ats : List Nat) (dst : Nat) (args : List AV) (o : Objs) : Det fun R (κ : AV × Objs → Option R) => builtinK Θ b ats dst args o (two κ) := by
  intro R κ; show builtinK Θ b ats dst args o (two κ) = (builtinK Θ b ats dst args o (two some)).bind κ
  unfold builtinK
  split
  · split
    · split
      · split <;> rfl
      · rfl
      · split
        · rfl
        · exact Det.map (lenK_det _ o) (fun v => (v, o)) R κ
      · rfl
    · rfl
  · split
    · split
      · exact appendK_det Θ _ _ dst _ _ o R κ
      · exact appendK_det Θ _ _ dst _ _ o R κ
      · rfl
    · rfl
  · split
    · split
      · exact copyK_det _ _ _ o R κ
      · rfl
    · rfl
  · split <;> rfl
  · split <;> rfl
  · rfl

theorem opK_det {E : Env} (hE : GDet E) (op : Op) (dst : Nat) (s : List AV) (o : Objs) : Det fun R (κ : AV × Objs → Option R) => opK E op dst s o (two κ) := by
  intro R κ; show opK E op dst s o (two κ) = (opK E op dst s o (two some)).bind κ
  cases op with
  | move x => rfl
  | assign x => rfl
  | pick c a b =>
    simp only [opK]
    split
    · split <;> rfl
    · rfl
  | alloc t =>
    simp only [opK]
    split
    · exact (Det.bind (arrK_det E.Θ t) (h := fun (p : Nat × Ty) R (κ : AV × Objs → Option R) => newK o (nm dst 0) (.arr p.1 p.2 (List.replicate p.1 (zeroI p.2))) fun o => two κ (.ptr (nm dst 0) 0) o) fun p => Det.map (newK_det _ _ _) fun o => (AV.ptr (nm dst 0) 0, o)) R κ
    · rfl
    · exact Det.map (newK_det o (nm dst 0) _) (fun o => (AV.ptr (nm dst 0) 0, o)) R κ
  | box t v =>
    simp only [opK]
    split
    · exact Det.map (newK_det o (nm dst 0) _) (fun o => (AV.ptr (nm dst 0) 0, o)) R κ
    · split
      · exact Det.map (newK_det o (nm dst 0) _) (fun o => (AV.ptr (nm dst 0) 0, o)) R κ
      · rfl
  | build t parts => exact buildK_det E.Θ t _ o R κ
  | buildSlice t len parts =>
    simp only [opK]
    split
    · rename_i e te _
      split
      · exact (Det.bind (partsK_det te _ o) (h := fun (p : List te.I × Objs) R (κ : AV × Objs → Option R) => newK p.2 (nm dst 0) (.row e te p.1 false) fun o => two κ (.row (nm dst 0)) o) fun p => Det.map (newK_det _ _ _) fun o => (AV.row (nm dst 0), o)) R κ
      · rfl
    · rfl
  | load t x => exact Det.map (loadK_det E.Θ t _ o) (fun v => (v, o)) R κ
  | store t x v => exact Det.map (storeK_det E.Θ t _ _ o) (fun o => (AV.dead, o)) R κ
  | nilCheck x => exact Det.map (nilCheckK_det _) (fun v => (v, o)) R κ
  | binOp op t x y _ => exact Det.map (binK_det E.Θ op t _ _) (fun v => (v, o)) R κ
  | unOp op t x =>
    simp only [opK]
    split <;> rfl
  | convert src d x => exact convK_det E.Θ src d dst _ o R κ
  | makeFunc f first caps => cases f <;> rfl
  | makeSlice t l c =>
    simp only [opK]
    split
    · rename_i e te l c _ _ _
      exact (Det.bind (makeK_det (E.Θ e).nb l c) (h := fun (n : Nat) R (κ : AV × Objs → Option R) => newK o (nm dst 0) (.row e te (List.replicate n (zeroI te)) false) fun o => two κ (.row (nm dst 0)) o) fun n => Det.map (newK_det _ _ _) fun o => (AV.row (nm dst 0), o)) R κ
    · rfl
  | slice t x lo hi mx =>
    cases mx with
    | none => exact sliceK_det E.Θ t _ _ _ o R κ
    | some m => rfl
  | fieldAddr t x f =>
    simp only [opK]
    split
    · split
      · exact Det.map (fieldAddrK_det _ _) (fun v => (v, o)) R κ
      · rfl
    · rfl
  | field t x f =>
    simp only [opK]
    split
    · exact Det.map (fromCells_det _ _ _) (fun v => (v, o)) R κ
    · rfl
  | indexAddr t x i =>
    simp only [opK]
    split
    · exact Det.map (indexAddrK_det _ _ _ _ _) (fun v => (v, o)) R κ
    · rfl
  | index t x i =>
    simp only [opK]
    split
    · exact Det.map (indexK_det _ _ _ _) (fun v => (v, o)) R κ
    · rfl
  | extract x i =>
    simp only [opK]
    split
    · split <;> rfl
    · rfl
  | call c =>
    simp only [opK]
    split
    · exact builtinK_det E.Θ _ _ dst _ o R κ
    · split
      · split
        · rename_i S hS
          exact callK_det (hE _ S hS) dst _ o R κ
        · rfl
      · rfl
    · rfl
  | _ => rfl

theorem denOps_det {E : Env} (hE : GDet E) (all : List Oper) : ∀ (ops : List Oper) (st : St), Det fun R κ => denOps E all ops st κ
  | [], st => Det.pure st
  | op :: rest, st => by
    have go : ∀ s, Det fun R (κ : St → Option R) => opK E op.op (op.dst.getD 0) s st.o fun v o => denOps E all rest ⟨putS s op.dst v, o, st.m⟩ κ := fun s =>
      Det.bind (opK_det hE op.op (op.dst.getD 0) s st.o) (h := fun (p : AV × Objs) R (κ : St → Option R) => denOps E all rest ⟨putS s op.dst p.1, p.2, st.m⟩ κ) fun p => denOps_det hE all rest _
    intro R κ; show denOps E all (op :: rest) st κ = (denOps E all (op :: rest) st some).bind κ
    unfold denOps
    split
    · exact go _ R κ
    · split
      · split
        · split
          · split
            · exact go _ R κ
            · exact denOps_det hE all rest _ R κ
          · split
            · exact denOps_det hE all rest _ R κ
            · exact go _ R κ
        · exact denOps_det hE all rest _ R κ
        · rfl
      · rfl

theorem opV_det {E : Env} (hE : GDet E) (F : List Nat) (op : Op) (dst : Nat) (s : List AV) (o : Objs) : Det fun R (κ : AV × Objs → Option R) => opV E F op dst s o (two κ) :=
  Det.map (opK_det hE op dst (renL (onF F) s) (viewF F o)) fun p => (renV (onF F) p.1, overF F (viewF F p.2) o)

theorem denD_det {E : Env} (hE : GDet E) (all : Array Oper) (as : List Nat) : ∀ (ops : List Oper) (i : Nat) (st : St) (tr : List TE), Det fun R κ => denD E all as i ops st tr κ
  | [], i, st, tr => Det.pure st
  | op :: rest, i, st, tr => by
    have no : ∀ st : St, Det fun R (κ : St → Option R) => denD E all as (i + 1) rest ⟨putS st.s op.dst (.tup []), st.o, st.m⟩ tr κ := fun st => denD_det hE all as rest (i + 1) _ tr
    have go : ∀ st : St, Det fun R (κ : St → Option R) => (if isQ E op.op = true then
        (if clash as tr ⟨i, namesL (op.op.operands.toList.map (rho st.s)), false⟩ = false then opK E op.op (op.dst.getD 0) st.s st.o fun v _ => denD E all as (i + 1) rest ⟨putS st.s op.dst v, st.o, st.m⟩ (⟨i, namesL (op.op.operands.toList.map (rho st.s)), false⟩ :: tr) κ else none)
      else
        (if clash as tr ⟨i, footW op.op (op.dst.getD 0) st.s st.o, true⟩ = false then opV E (footW op.op (op.dst.getD 0) st.s st.o) op.op (op.dst.getD 0) st.s st.o fun v o => denD E all as (i + 1) rest ⟨putS st.s op.dst v, o, st.m⟩ (⟨i, footW op.op (op.dst.getD 0) st.s st.o, true⟩ :: tr) κ else none)) := by
      intro st
      refine Det.ite (Det.ite ?_ Det.none) (Det.ite ?_ Det.none)
      · exact Det.bind (opK_det hE op.op (op.dst.getD 0) st.s st.o) (h := fun (p : AV × Objs) R (κ : St → Option R) => denD E all as (i + 1) rest ⟨putS st.s op.dst p.1, st.o, st.m⟩ (⟨i, namesL (op.op.operands.toList.map (rho st.s)), false⟩ :: tr) κ) fun p => denD_det hE all as rest (i + 1) _ _
      · exact Det.bind (opV_det hE _ op.op (op.dst.getD 0) st.s st.o) (h := fun (p : AV × Objs) R (κ : St → Option R) => denD E all as (i + 1) rest ⟨putS st.s op.dst p.1, p.2, st.m⟩ (⟨i, footW op.op (op.dst.getD 0) st.s st.o, true⟩ :: tr) κ) fun p => denD_det hE all as rest (i + 1) _ _
    intro R κ; show denD E all as i (op :: rest) st tr κ = (denD E all as i (op :: rest) st tr some).bind κ
    unfold denD
    simp only
    split
    · exact go st R κ
    · split
      · rename_i g _
        split
        · split
          · split
            · exact go ⟨st.s.set g (.d .bool true), st.o, st.m⟩ R κ
            · exact no ⟨st.s.set g (.d .bool true), st.o, st.m⟩ R κ
          · split
            · exact no ⟨st.s.set g (.d .bool false), st.o, st.m⟩ R κ
            · exact go ⟨st.s.set g (.d .bool false), st.o, st.m⟩ R κ
        · exact no st R κ
        · rfl
      · rfl

theorem promote_det : ∀ (ps : List (Nat × Nat × Ty)) (s : List AV) (o : Objs), Det fun R (κ : List AV × Objs → Option R) => promote ps s o (two κ)
  | [], s, o => fun _ _ => rfl
  | (t, e, ty) :: rest, s, o => by
    intro R κ; show promote ((t, e, ty) :: rest) s o (two κ) = (promote ((t, e, ty) :: rest) s o (two some)).bind κ
    unfold promote
    split
    · split
      · rename_i n _ _
        split
        · rename_i cs _
          split
          · split
            · exact (Det.bind (newK_det _ _ _) (h := fun (o : Objs) R (κ : List AV × Objs → Option R) => promote rest s (upd o n (.box (cs.set ((t - 1000) % 64) (.row (2000000 + t))))) (two κ)) fun o => promote_det rest _ _) R κ
            · rfl
          · exact promote_det rest s o R κ
        · exact promote_det rest s o R κ
      · exact promote_det rest s o R κ
    split
    · split
      · exact (Det.bind (newK_det _ _ _) (h := fun (o : Objs) R (κ : List AV × Objs → Option R) => promote rest (s.set t (.row (2000000 + t))) o (two κ)) fun o => promote_det rest _ o) R κ
      · rfl
    · exact promote_det rest s o R κ

theorem datK_det : ∀ (ts : List Nat) (s : List AV) (o : Objs), Det fun R (κ : List AV × Objs → Option R) => datK ts s o (two κ)
  | [], s, o => fun _ _ => rfl
  | t :: rest, s, o => by
    intro R κ; show datK (t :: rest) s o (two κ) = (datK (t :: rest) s o (two some)).bind κ
    unfold datK
    split
    · split
      · exact datK_det rest _ _ R κ
      · exact datK_det rest s o R κ
    split
    · split
      · exact datK_det rest _ _ R κ
      · rfl
    · exact datK_det rest s o R κ

theorem tidyK_det (A : LA) (st : St) : Det fun R κ => tidyK A st κ :=
  Det.bind (promote_det A.prom st.s st.o) (h := fun (q : List AV × Objs) R (κ : St → Option R) => datK A.dat q.1 q.2 fun s0 o =>
    let s := keepS A.keep 0 s0
    let ns := (gather o 200 (namesOs o st.m ++ namesL s) []).filter (64 ≤ ·)
    let f := canon ns st.m
    if st.m ≤ 64 ∧ placeOk ns 0 ns = true then κ ⟨renL f s, ofL (pickO f o (List.range st.m ++ ns)), st.m⟩ else none) fun q =>
  Det.bind (datK_det A.dat q.1 q.2) (h := fun (p : List AV × Objs) R (κ : St → Option R) =>
    let s := keepS A.keep 0 p.1
    let ns := (gather p.2 200 (namesOs p.2 st.m ++ namesL s) []).filter (64 ≤ ·)
    let f := canon ns st.m
    if st.m ≤ 64 ∧ placeOk ns 0 ns = true then κ ⟨renL f s, ofL (pickO f p.2 (List.range st.m ++ ns)), st.m⟩ else none) fun p => Det.ite (Det.pure _) Det.none

/-- two continuations at once -/
def exk {R : Type} (κ : Ex × St → Option R) : Ex → St → Option R := two κ

theorem loopN_det (A : LA) (body : (R : Type) → BodyK R) (hb : ∀ st, Det fun R (κ : Ex × St → Option R) => body R st (two κ)) : ∀ (k : Nat) (st : St), Det fun R (κ : Ex × St → Option R) => loopN A (body R) k st (two κ)
  | 0, st => Det.none
  | k + 1, st => by
    refine Det.bind (hb st) (h := fun (p : Ex × St) R (κ : Ex × St → Option R) => againK (fun st' => tidyK A st' fun st' => loopN A (body R) k st' (two κ)) (two κ) p.1 p.2) ?_
    intro p
    obtain ⟨e, st'⟩ := p
    cases e with
    | normal => exact Det.bind (tidyK_det A st') (h := fun (st' : St) R (κ : Ex × St → Option R) => loopN A (body R) k st' (two κ)) fun st' => loopN_det A body hb k st'
    | exit id => exact Det.pure (A := Ex × St) (.exit id, st')
    | ret => exact Det.pure (A := Ex × St) (.ret, st')

theorem denC_det {E : Env} (hE : GDet E) (fuel : Nat) : ∀ (c : Code) (st : St), Det fun R (κ : Ex × St → Option R) => denC E loopN fuel c st (two κ)
  | .skip, st => fun _ _ => rfl
  | .region id ops draw, st => by
    intro R κ; show denC E loopN fuel (.region id ops draw) st (two κ) = (denC E loopN fuel (.region id ops draw) st (two some)).bind κ
    unfold denC
    split
    · split
      · exact Det.map (denD_det hE ops _ ops.toList 0 st []) (fun st => (Ex.normal, st)) R κ
      · rfl
    · exact Det.map (denOps_det hE ops.toList ops.toList st) (fun st => (Ex.normal, st)) R κ
  | .seq a b, st => by
    refine Det.bind (denC_det hE fuel a st) (h := fun (p : Ex × St) R (κ : Ex × St → Option R) => match p.1 with
      | .normal => denC E loopN fuel b p.2 (two κ)
      | e => two κ e p.2) ?_
    rintro ⟨e, st'⟩
    cases e with
    | normal => exact denC_det hE fuel b st'
    | exit id => exact Det.pure (A := Ex × St) (.exit id, st')
    | ret => exact Det.pure (A := Ex × St) (.ret, st')
  | .cond c a b, st => by
    intro R κ; show denC E loopN fuel (.cond c a b) st (two κ) = (denC E loopN fuel (.cond c a b) st (two some)).bind κ
    unfold denC
    split
    · split
      · exact denC_det hE fuel a st R κ
      · exact denC_det hE fuel b st R κ
    · rfl
  | .block id b, st => by
    refine Det.bind (denC_det hE fuel b st) (h := fun (p : Ex × St) R (κ : Ex × St → Option R) => match p.1 with
      | .exit id' => if id' = id then two κ .normal p.2 else two κ (.exit id') p.2
      | e => two κ e p.2) ?_
    rintro ⟨e, st'⟩
    cases e with
    | normal => exact Det.pure (A := Ex × St) (.normal, st')
    | exit id' => exact Det.ite (Det.pure (A := Ex × St) (.normal, st')) (Det.pure (A := Ex × St) (.exit id', st'))
    | ret => exact Det.pure (A := Ex × St) (.ret, st')
  | .loop b, st =>
    Det.bind (tidyK_det (E.A (rid b)) st) (h := fun (st : St) R (κ : Ex × St → Option R) => loopN (E.A (rid b)) (fun st κ => denC E loopN fuel b st κ) fuel st (two κ)) fun st =>
      loopN_det (E.A (rid b)) (fun R => fun st κ => denC E loopN fuel b st κ) (fun st => denC_det hE fuel b st) fuel st
  | .exit id, st => fun _ _ => rfl
  | .ret, st => fun _ _ => rfl
  | .label _, st => fun _ _ => rfl
  | .goto _, st => fun _ _ => rfl
  | .scope _, st => fun _ _ => rfl
  | .refuse _, st => fun _ _ => rfl
  | .rangeFunc _ _ _ _, st => fun _ _ => rfl

theorem resK_det (Θ : Nat → TD) (st : St) : ∀ rs : List ResultVar, Det fun R κ => resK Θ st rs κ
  | [] => fun _ _ => rfl
  | .tmp t :: rest => Det.map (resK_det Θ st rest) fun vs => getS st.s t :: vs
  | .cell a t :: rest => Det.bind (loadK_det Θ t _ st.o) (h := fun (v : AV) R (κ : List AV → Option R) => resK Θ st rest fun vs => κ (v :: vs)) fun v => Det.map (resK_det Θ st rest) fun vs => v :: vs

theorem outF_det (m : Nat) (o : Objs) (rs : List AV) : Det fun R (κ : List AV × List Obj → Option R) => outF m o rs (two κ) := by
  unfold outF
  exact Det.ite (Det.map (objsAt_det _ _ _) fun objs => (renL (place (List.range m ++ (gather o 200 (namesOs o m ++ namesL rs) []).filter (m ≤ ·))) rs, objs)) Det.none

theorem topK_det (E : Env) (fn : Func) (ms : List Mode) (m : Nat) (p : Ex × St) : Det fun R (κ : List AV × List Obj → Option R) => topK E fn ms m (two κ) p.1 p.2 := by
  obtain ⟨e, st⟩ := p
  have : Det fun R (κ : List AV × List Obj → Option R) => resK E.Θ st fn.results.toList fun rs => prepK ms rs 3000000 st.o fun rs o => outF m o rs (two κ) :=
    Det.bind (resK_det E.Θ st _) (h := fun (rs : List AV) R (κ : List AV × List Obj → Option R) => prepK ms rs 3000000 st.o fun rs o => outF m o rs (two κ)) fun rs =>
      Det.bind (prepK_det ms rs 3000000 st.o) (h := fun (p : List AV × Objs) R (κ : List AV × List Obj → Option R) => outF m p.2 p.1 (two κ)) fun p => outF_det m p.2 p.1
  cases e with
  | exit id => exact Det.none
  | normal => exact this
  | ret => exact this

theorem denF_det {E : Env} (hE : GDet E) (fuel : Nat) (fn : Func) (ms : List Mode) (args : List AV) (objs : List Obj) : Det fun R (κ : List AV × List Obj → Option R) => denF E loopN fuel fn ms args objs (two κ) :=
  Det.bind (denC_det hE fuel (bodyC fn) _) (h := fun (p : Ex × St) R (κ : List AV × List Obj → Option R) => topK E fn ms objs.length (two κ) p.1 p.2) fun p => topK_det E fn ms objs.length p
end Go.Den
