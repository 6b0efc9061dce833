/- New objects; append. -/
import Derived.Test.YtlmljpmohljefaaSound5
import Derived.Laws.MakeOwn
import Derived.Great.BuildSlice
set_option linter.unusedVariables false
set_option linter.unusedSimpArgs false
namespace Go.Den
variable {P : Program}

/-- an object is laid anew: only what the others need stays -/
theorem WInv.put2 {B : Base} {g g' : G} {o : Objs} {w w' : World} (h : WInv B g o w) (n0 : Nat) (x' : Obj) (hg : GE g g')
    (hE : ∀ n, n ≠ n0 → g'.E n = g.E n) (hM : g'.M = g.M)
    (hx : OR g' w' n0 x')
    (hw : w'.os = w.os ∧ w'.tape = w.tape ∧ w'.output = w.output ∧ w.heap.size ≤ w'.heap.size)
    (hobj : ∀ m x b, m ≠ n0 → o m = some x → live x = true → blkOf g m = some b → w'.heap[b]? = w.heap[b]?)
    (hmem : ∀ a v, g.M a = some v → w'.cell? a = some v)
    (hfor : ∀ b, b < B.w0.heap.size → ¬ B.X b → w'.heap[b]? = w.heap[b]?)
    (hnew : ∀ b, live x' = true → blkOf g' n0 = some b → (∀ m x, m ≠ n0 → o m = some x → live x = true → blkOf g m ≠ some b) ∧ (B.X b ∨ B.w0.heap.size ≤ b))
    : WInv B g' (upd o n0 x') w' := by
  have hsub : ∀ n, n ≠ n0 → blkOf g' n = blkOf g n := fun n hn => by simp [blkOf, hE n hn]
  refine ⟨?_, ?_, ?_, ?_, ?_, ?_, ?_, ?_⟩
  · intro n x hn
    unfold upd at hn
    split at hn
    · rename_i e; subst e; cases hn; exact hx
    · rename_i hne
      exact OR_keep (h.objs n x hn) hg fun b hb hl => ⟨hobj n x b hne hn hl hb, fun a ha => by rw [hM]⟩
  · intro n hn
    unfold upd at hn
    split at hn
    · cases hn
    · rename_i hne; rw [hE n hne]; exact h.dom n hn
  · intro n m x y hnm hn hm hlx hly b hbn hbm
    unfold upd at hn hm
    split at hn
    · rename_i e; subst e; cases hn
      split at hm
      · rename_i e; exact hnm e.symm
      · rename_i hne
        rw [hsub m hne] at hbm
        exact (hnew b hlx hbn).1 m y hne hm hly hbm
    · rename_i hne
      rw [hsub n hne] at hbn
      split at hm
      · rename_i e; subst e; cases hm
        exact (hnew b hly hbm).1 n x hne hn hlx hbn
      · rename_i hne2
        rw [hsub m hne2] at hbm
        exact h.apart n m x y hnm hn hm hlx hly b hbn hbm
  · intro a v ha
    rw [hM] at ha
    exact ⟨hmem a v ha, (h.mem a v ha).2⟩
  · exact ⟨hw.1.trans h.ext.os, hw.2.1.trans h.ext.tape, hw.2.2.1.trans h.ext.output, Nat.le_trans h.ext.size hw.2.2.2, fun b hb hX => (hfor b hb hX).trans (h.ext.block b hb hX)⟩
  · intro a v ha; rw [hM]; exact h.grow a v ha
  · intro a ha hX; rw [hM]; exact h.old a ha hX
  · intro n x b hn hl hb
    unfold upd at hn
    split at hn
    · rename_i e; subst e; cases hn; exact (hnew b hl hb).2
    · rename_i hne
      rw [hsub n hne] at hb
      exact h.mine n x b hn hl hb

def setE (g : G) (n : Nat) (u : Value × Nat) : G := ⟨g.M, fun m => if m = n then some u else g.E m⟩

theorem setE_ge {B : Base} {g : G} {o : Objs} {w : World} (h : WInv B g o w) {n : Nat} (hn : o n = none) (u : Value × Nat) : GE g (setE g n u) :=
  ⟨fun _ _ e => e, fun m x hm => by
    unfold setE
    by_cases e : m = n
    · subst e; rw [h.dom m hn] at hm; cases hm
    · simp [e, hm]⟩

theorem setE_at (g : G) (n : Nat) (u : Value × Nat) : (setE g n u).E n = some u := by simp [setE]
theorem setE_ne (g : G) {n m : Nat} (u : Value × Nat) (h : m ≠ n) : (setE g n u).E m = g.E m := by simp [setE, h]

/-- a new object, on memory that is new -/
theorem new_put {B : Base} {g : G} {o : Objs} {w w' : World} (h : WInv B g o w) {n : Nat} (hn : o n = none) (u : Value × Nat) (x' : Obj)
    (hx : OR (setE g n u) w' n x') (hw : w.grownBy w' none) (hb : ∀ b, (baseOf u.1).map (·.block) = some b → w.heap.size ≤ b) : WInv B (setE g n u) (upd o n x') w' := by
  refine h.put2 n x' (setE_ge h hn u) (fun m hm => setE_ne g u hm) rfl hx ⟨hw.os, hw.tape, hw.output, hw.size⟩ ?_ ?_ ?_ ?_
  · intro m x b hm hmo hl hbm
    exact hw.block b (OR_blk (h.objs m x hmo) hl b hbm) (by simp)
  · intro a v ha
    have hc := (h.mem a v ha).1
    rw [World.cell?_of_block (hw.block a.block (World.block_lt_of_cell? w a hc) (by simp))]
    exact hc
  · intro b hb _
    exact hw.block b (Nat.lt_of_lt_of_le hb h.ext.size) (by simp)
  · intro b hl hbk
    have hge : w.heap.size ≤ b := hb b (by simpa [blkOf, setE_at] using hbk)
    refine ⟨fun m x hm hmo hl hbm => ?_, .inr (Nat.le_trans h.ext.size hge)⟩
    have := OR_blk (h.objs m x hmo) hl b hbm
    omega

theorem grown_alloc (w : World) (c : Array Value) (t : TypeId) : w.grownBy (w.alloc (.cells c t)) none :=
  ⟨rfl, rfl, rfl, by simp, fun k hk _ => heap_alloc_old w _ hk⟩

theorem M_new {B : Base} {g : G} {o : Objs} {w : World} (h : WInv B g o w) : ∀ a : Addr, w.heap.size ≤ a.block → g.M a = none := by
  intro a ha
  cases hm : g.M a with
  | none => rfl
  | some v =>
    have := World.block_lt_of_cell? w a (h.mem a v hm).1
    omega

theorem new_box {B : Base} {g : G} {o : Objs} {w : World} (h : WInv B g o w) {n : Nat} (hn : o n = none) (cs : List AV) (ws : List Value) (ty : TypeId) (hc : VRL g cs ws) (h1 : ∀ u ∈ ws, u.oneCell' = true) :
    WInv B (setE g n (.pointer (some ⟨w.heap.size, 0, none⟩), 1)) (upd o n (.box cs)) (w.alloc (.cells ws.toArray ty)) := by
  refine new_put h hn _ _ ⟨w.heap.size, ws, ty, setE_at g n _, heap_alloc_new w _, VRL_mono (setE_ge h hn _) cs ws hc, h1, fun a ha => M_new h a (by omega)⟩ (grown_alloc w _ _) ?_
  intro b hb
  simp [baseOf] at hb
  omega

theorem new_arr {B : Base} {g : G} {o : Objs} {w : World} (h : WInv B g o w) {n m : Nat} (hn : o n = none) (t : Ty) (l : List t.I) (ws : List Value) (ty : TypeId) (hf : t.flat = true) (hl : l.length = m) (hr : RR g.M t l ws) :
    WInv B (setE g n (.pointer (some ⟨w.heap.size, 0, none⟩), t.sz)) (upd o n (.arr m t l)) (w.alloc (.cells ws.toArray ty)) := by
  refine new_put h hn _ _ ⟨w.heap.size, ws, ty, setE_at g n _, ⟨hf, hl⟩, heap_alloc_new w _, hr, fun a ha => M_new h a (by omega)⟩ (grown_alloc w _ _) ?_
  intro b hb
  simp [baseOf] at hb
  omega

theorem new_row {B : Base} {g : G} {o : Objs} {w w' : World} (h : WInv B g o w) {n : Nat} (hn : o n = none) (e : Nat) (t : Ty) (l : List t.I) (ws : List Value) (v : Value) (frz : Bool) (hf : t.flat = true) (hr : RR g.M t l ws)
    (ho : w'.ownsRow 0 e t.sz v l.length ws) (hw : w.grownBy w' none) (hv : v = .slice none 0 0 ∨ v.ownBlock = some w.heap.size) : WInv B (setE g n (v, t.sz)) (upd o n (.row e t l frz)) w' := by
  refine new_put h hn _ _ ⟨v, ws, setE_at g n _, hf, ho, hr, fun a ha hc => ?_⟩ hw ?_
  · rcases hv with rfl | hv
    · simp [Value.ownBlock] at ha
    · rw [hv] at ha
      exact M_new h a (by simp at ha; omega)
  · intro b hb
    rw [ownBlock_base ho] at hb
    rcases hv with rfl | hv
    · simp [Value.ownBlock] at hb
    · rw [hv] at hb; simp at hb; omega

theorem gone_put {B : Base} {g : G} {o : Objs} {w : World} (h : WInv B g o w) {n : Nat} {x : Obj} (hn : o n = some x) : WInv B g (upd o n .gone) w := by
  refine h.put2 n .gone (GE.refl g) (fun _ _ => rfl) rfl (OR_some (h.objs n x hn)) ⟨rfl, rfl, rfl, Nat.le_refl _⟩ (fun _ _ _ _ _ _ _ => rfl) (fun a v ha => (h.mem a v ha).1) (fun _ _ _ => rfl) ?_
  intro b hl
  cases hl

/-- append onto a row of one's own; what is appended is any sequence -/
theorem run_app (w : World) (t t1 ty e : TypeId) (i : TypeInfo) (z : Value) (d1 : TypeDesc) (ht : P.underlying t = some (.slice e)) (hi : P.info? e = some i) (hz : i.zero = some z) (hzs : z.cells.size = i.size)
    (ht1 : P.underlying t1 = some d1) (hd1 : d1 = .string ∨ ∃ e', d1 = .slice e') (hsz : 0 < i.size)
    (v : Value) (n : Nat) (xs : List Value) (hown : w.ownsRow 0 e i.size v n xs) (y : Value) (m : Nat) (news : List Value) (hl : news.length = m * i.size)
    (hlen : ∀ w, (Builtin.lenOf y).run P w = .ok m w) (hy : ∀ k, (Builtin.firstCells i.size m y).run P { w with drawn := k } = .ok news.toArray { w with drawn := k })
    (h1 : ∀ u ∈ news, u.oneCell' = true) (h63 : n + m ≤ maxLen) (hbytes : (n + m) * i.bytes ≤ 140737488355328) :
    ∃ v' w', (Builtin.append_ #[t, t1] ty #[v, y]).run P w = .ok v' w' ∧ w'.ownsRow 0 e i.size v' (n + m) (xs ++ news) ∧ v'.oneCell' = true ∧
      ((w.grownBy w' none ∧ (v' = .slice none 0 0 ∨ v'.ownBlock = some w.heap.size)) ∨ (∃ b, v.ownBlock = some b ∧ v'.ownBlock = some b ∧ w.grownBy w' (some b))) := by
  have hsmall : n + m ≤ 9223372036854775807 := by simp only [maxLen] at h63; omega
  have hllen : (xs ++ news).length = (n + m) * i.size := by rw [List.length_append, hown.1, hl, Nat.add_mul]
  have hy0 : (Builtin.firstCells i.size m y).run P w = .ok news.toArray w := hy w.drawn
  have hyd : (Builtin.firstCells i.size m y).run P w.drew = .ok news.toArray w.drew := hy _
  have grown : ∀ (old : Nat), old < n + m →
      (w.drew.alloc (.cells (xs.toArray ++ news.toArray ++ Builtin.zeroCells z.cells (grownCap w (n + m) old e - (n + m))) e)).ownsRow 0 e i.size
        (.slice (some ⟨w.heap.size, 0, none⟩) (n + m) (grownCap w (n + m) old e)) (n + m) (xs ++ news) ∧
      w.grownBy (w.drew.alloc (.cells (xs.toArray ++ news.toArray ++ Builtin.zeroCells z.cells (grownCap w (n + m) old e - (n + m))) e)) none := by
    intro old ho
    have hge := grownCap_ge w (n + m) old e
    have hcm : grownCap w (n + m) old e ≤ maxLen := grownCap_le_maxLen w (n + m) old e h63
    refine ⟨⟨hllen, .inr ⟨w.heap.size, _, _, rfl, Nat.zero_le _, heap_alloc_new w.drew _, hge, hcm, ?_, ?_⟩⟩, ⟨rfl, rfl, rfl, by simp, fun k hk _ => heap_alloc_old w.drew _ hk⟩⟩
    · simp only [Array.size_append, List.size_toArray, size_zeroCells, hzs, hown.1, hl, ← Nat.add_mul]
      congr 1
      omega
    · simp only [Array.toList_append, List.append_assoc]
      rw [← List.append_assoc, ← hllen]
      exact List.take_left
  rcases hown.2 with ⟨rfl, rfl⟩ | ⟨b, cap, cur, rfl, _, hh, hnc, hcm, hcs, htk⟩
  · have hx : xs = [] := List.eq_nil_of_length_eq_zero (by simpa using hown.1)
    subst hx
    by_cases hm : m = 0
    · subst hm
      have hn : news = [] := List.eq_nil_of_length_eq_zero (by simpa using hl)
      subst hn
      refine ⟨.slice none 0 0, w, ?_, World.ownsRow_nil w 0 e i.size, rfl, .inl ⟨⟨rfl, rfl, rfl, Nat.le_refl _, fun _ _ _ => rfl⟩, .inl rfl⟩⟩
      rcases hd1 with rfl | ⟨e', rfl⟩ <;> simp [Builtin.append_, run_underlying ht, run_underlying ht1, sizeOf, typeInfo, hi, hlen, hy0]
    · have hgr := grown 0 (by omega)
      have h48 : m * i.bytes ≤ 281474976710656 := by simp only [Nat.zero_add] at hbytes; omega
      have hn : m ≠ 0 := by omega
      have h63' : ¬ (9223372036854775807 < (m : Int)) := by omega
      have h48' : ¬ (281474976710656 < Builtin.nextslicecap m 0 * i.bytes) := by rw [nextslicecap_zero (by omega)]; omega
      simp only [Nat.zero_add, List.nil_append, Array.empty_append] at hgr ⊢
      refine ⟨_, _, ?_, hgr.1, rfl, .inl ⟨hgr.2, .inr rfl⟩⟩
      rcases hd1 with rfl | ⟨e', rfl⟩ <;> simp [Builtin.append_, run_underlying ht, run_underlying ht1, sizeOf, typeInfo, zeroValue, hi, hz, hlen, hn, h63', h48', Question.forced, run_firstCells_none, hyd, newRow, grownCap]
  · by_cases hroom : n + m ≤ cap
    · have hfit : n * i.size + news.length ≤ cur.size := by rw [hl, hcs, ← Nat.add_mul]; exact Nat.mul_le_mul_right _ hroom
      have hst := run_storeCells_at P b (n * i.size) e news 0 cur w hh (by simpa using hfit) h1
      simp only [Nat.add_zero] at hst
      refine ⟨.slice (some ⟨b, 0, none⟩) (n + m) cap, w.setRow b (cur.toList.take (n * i.size) ++ news ++ cur.toList.drop (n * i.size + news.length)).toArray, ?_, ?_, rfl, .inr ⟨b, rfl, rfl, ⟨rfl, rfl, rfl, by simp, fun k _ hk => setRow_other w b k _ (fun e => hk (by simp [e]))⟩⟩⟩
      · rcases hd1 with rfl | ⟨e', rfl⟩ <;> simp [Builtin.append_, run_underlying ht, run_underlying ht1, sizeOf, typeInfo, hi, hlen, hy0, hroom, Addr.add_lit, hst]
      · refine ⟨hllen, .inr ⟨b, cap, _, rfl, Nat.zero_le _, setRow_heap w b cur _ e _ hh, hroom, hcm, ?_, ?_⟩⟩
        · simp only [List.size_toArray, List.length_append, List.length_take, List.length_drop, Array.length_toList]
          omega
        · rw [htk, ← hllen]
          exact List.take_left
    · have holds : ∀ j u, xs[j]? = some u → w.cell? ((⟨b, 0, none⟩ : Addr).add j) = some u := hown.cells (g := b) rfl
      have hgr := grown cap (by omega)
      have hn : ¬ (n + m ≤ cap) := by omega
      have h63' : ¬ (9223372036854775807 < ((n : Int) + (m : Int))) := by omega
      have h48' : ¬ (281474976710656 < Builtin.nextslicecap (n + m) cap * i.bytes) := by have := growslice_fits (need := n + m) (old := cap) (bytes := i.bytes) (by omega) hbytes; omega
      have hfo := run_firstCells_some (P := P) w.drew i.size n ⟨b, 0, none⟩ n cap xs hown.1 (by simpa using holds)
      refine ⟨_, _, ?_, hgr.1, rfl, .inl ⟨hgr.2, .inr rfl⟩⟩
      rcases hd1 with rfl | ⟨e', rfl⟩ <;>
      · simp [Builtin.append_, run_underlying ht, run_underlying ht1, sizeOf, typeInfo, zeroValue, hi, hz, hlen, hn, h63', h48', Question.forced, hyd, hfo, newRow, grownCap]
        congr 2
        apply Array.ext'
        simp [List.append_assoc]
end Go.Den
