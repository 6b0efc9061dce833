/- strings.Split, Cut, IndexByte, strconv.Itoa: by the shelf's contracts. -/
import Derived.Test.YthangnlmckeipaaGreatDoorEv3
import Derived.Shelf.Strings.Split
import Derived.Shelf.Strings.Cut
import Derived.Shelf.Small.Strs
import Derived.Shelf.Strconv.Itoa3
set_option linter.unusedVariables false
set_option linter.unusedSimpArgs false
namespace Go.Den
open Go.Shelf Go.Proofs Go.RowKit Go.Sort
variable {P : Program} {ρ : Ren}

theorem WInv.belowS {B : Base} {g : G} {o : Objs} {w w' : World} (h : WInv B g o w) (hb : Below w.heap.size w w') : WInv B g o w' :=
  ⟨fun n x hn => OR_keep (h.objs n x hn) (GE.refl g) (fun b hb' hl => ⟨hb.block b (OR_blk (h.objs n x hn) hl b hb'), fun _ _ => rfl⟩), h.dom, h.apart,
    fun a v ha => ⟨by rw [World.cell?_of_block (hb.block a.block (World.block_lt_of_cell? w a (h.mem a v ha).1))]; exact (h.mem a v ha).1, (h.mem a v ha).2⟩,
    ⟨hb.os.trans h.ext.os, hb.tape.trans h.ext.tape, hb.output.trans h.ext.output, Nat.le_trans h.ext.size hb.size, fun b hlt hX => (hb.block b (Nat.lt_of_lt_of_le hlt h.ext.size)).trans (h.ext.block b hlt hX)⟩, h.grow, h.old, h.mine, h.glob⟩
theorem below_drawn (w : World) (n : Nat) : Below w.heap.size w (w.drewN n) := ⟨rfl, rfl, rfl, Nat.le_refl _, fun _ _ => rfl⟩

noncomputable def splitL (s sep : ByteArray) : List ByteArray := Lib.splitB sep 0 (Lib.countB s sep) s
noncomputable def s_split (e : Nat) : Sum := ⟨[.raw, .raw], fun args objs κ => match args, objs with
  | [.d .str s, .d .str sep], [] => if s.size < 4294967281 ∧ 1 ≤ sep.size then κ [.row 0] [.row e .str (splitL s sep) false] else none
  | _, _ => none⟩
theorem s_split_det (e : Nat) : SumDet (s_split e) := fun avs objs R κ => by
  show (s_split e).run avs objs (two κ) = ((s_split e).run avs objs (two some)).bind κ
  unfold s_split
  simp only
  split
  · split <;> rfl
  · rfl
theorem RR_str (M : Mem) : ∀ l : List ByteArray, RR M .str l (l.map Value.string)
  | [] => rfl
  | x :: l => ⟨[.string x], l.map Value.string, rfl, rfl, RR_str M l⟩

theorem s_split_ok (L : Lays.n146 P ρ) (hi9 : (P.info? (ρ.t 9)).map (fun i => (i.zero, i.size, i.bytes)) = some (some (.string ByteArray.empty), 1, 16)) (hm : ∀ w : World, gok (gblk.map fun n => w.heap[n]?) → ∃ m, w.cell? ⟨(ρ.g 1), 0, none⟩ = some (.int .i64 m))
    {fn : Func} {c : Code} (hf : P.funcs[ρ.f 146]? = some fn) (hb : fn.body = some c) (hn : (fn.name == "runtime.NumGoroutine") = false) : SumOk P (ρ.f 146) (s_split (ρ.t 9)) := by
  refine ⟨⟨fn, c, hf, hb, hn⟩, ?_⟩
  intro R avs objs κ r h B g w vs hw hv
  unfold s_split at h
  simp only at h
  split at h
  case h_2 => cases h
  rename_i s sep
  split at h
  case isFalse => cases h
  rename_i hc
  match vs, hv with
  | [v1, v2], ⟨h1, h2, _⟩ =>
    rw [show v1 = .string s from h1, show v2 = .string sep from h2]
    obtain ⟨m, hm⟩ := hm w hw.gok
    refine (Any.strings_Split L hi9 s sep m w hc.1 hm hc.2).mono ?_
    rintro e' w' ⟨rfl, rfl⟩
    have hlen : (splitL s sep).length = Lib.countB s sep + 1 := Lib.splitB_all sep hc.2 0 _ s rfl
    have hle := Lib.countB_le sep hc.2 s.size s (Nat.le_refl _)
    have hown : (w.alloc (.cells ((splitL s sep).map Value.string).toArray (ρ.t 9))).ownsR 0 (ρ.t 9) (Ty.str).sz (.slice (some ⟨w.heap.size, 0, none⟩) (Lib.countB s sep + 1) (Lib.countB s sep + 1)) (splitL s sep).length ((splitL s sep).map Value.string) := by
      refine ⟨by simp [Ty.sz], .inr ⟨w.heap.size, Lib.countB s sep + 1, _, (0, 0), by rw [hlen], Nat.zero_le _, heap_alloc_new w _, .inl rfl, by rw [hlen]; exact Nat.le_refl _, by unfold maxLen; omega, ?_, ?_⟩⟩
      · simp [Ty.sz, hlen]
      · rw [List.take_of_length_le (by simp [Ty.sz])]
    have hnew := new_row hw (n := 0) rfl (ρ.t 9) .str (splitL s sep) _ _ false rfl (RR_str g.M _) hown (grown_alloc w _ _) (.inr rfl)
    refine ⟨_, rfl, [.row 0], [.row (ρ.t 9) .str (splitL s sep) false], setE g 0 (.slice (some ⟨w.heap.size, 0, none⟩) (Lib.countB s sep + 1) (Lib.countB s sep + 1), Ty.str.sz), h, ?_, setE_ge hw (n := 0) rfl _, ⟨Ty.str.sz, setE_at g 0 _, rfl⟩⟩
    have e2 : atL [Den.Obj.row (ρ.t 9) .str (splitL s sep) false] = upd (atL []) 0 (Den.Obj.row (ρ.t 9) .str (splitL s sep) false) := by
      funext k
      match k with
      | 0 => rfl
      | k + 1 => simp [upd, atL]
    rw [e2]
    exact hnew

noncomputable def cutL (s sep : ByteArray) : ByteArray × ByteArray × Bool := (⟨(Lib.cut s.data.toList sep.data.toList).1.toArray⟩, ⟨(Lib.cut s.data.toList sep.data.toList).2.1.toArray⟩, (Lib.cut s.data.toList sep.data.toList).2.2)
noncomputable def s_cut : Sum := ⟨[.raw, .raw], fun args objs κ => match args, objs with
  | [.d .str s, .d .str sep], [] => if s.size < 4294967281 then κ [.d .str (cutL s sep).1, .d .str (cutL s sep).2.1, .d .bool (cutL s sep).2.2] [] else none
  | _, _ => none⟩
theorem s_cut_det : SumDet s_cut := fun avs objs R κ => by
  show s_cut.run avs objs (two κ) = (s_cut.run avs objs (two some)).bind κ
  unfold s_cut
  simp only
  split
  · split <;> rfl
  · rfl
theorem s_cut_ok (L : Lays.n145 P ρ) (hm : ∀ w : World, gok (gblk.map fun n => w.heap[n]?) → ∃ m, w.cell? ⟨(ρ.g 1), 0, none⟩ = some (.int .i64 m))
    {fn : Func} {c : Code} (hf : P.funcs[ρ.f 145]? = some fn) (hb : fn.body = some c) (hn : (fn.name == "runtime.NumGoroutine") = false) : SumOk P (ρ.f 145) s_cut := by
  refine ⟨⟨fn, c, hf, hb, hn⟩, ?_⟩
  intro R avs objs κ r h B g w vs hw hv
  unfold s_cut at h
  simp only at h
  split at h
  case h_2 => cases h
  rename_i s sep
  split at h
  case isFalse => cases h
  rename_i hc
  match vs, hv with
  | [v1, v2], ⟨h1, h2, _⟩ =>
    rw [show v1 = .string s from h1, show v2 = .string sep from h2]
    obtain ⟨m, hm⟩ := hm w hw.gok
    refine (Any.strings_Cut L s sep m w hc hm).mono ?_
    rintro e' w' ⟨rfl, n, rfl⟩
    exact ⟨_, rfl, _, _, g, h, hw.belowS (below_drawn w n), GE.refl g, ⟨_, rfl, rfl, rfl, rfl, trivial⟩⟩

noncomputable def s_indexByte : Sum := ⟨[.raw, .raw], fun args objs κ => match args, objs with
  | [.d .str s, .d (.int .u8) c], [] => κ [.d (.int .i64) (Lib.indexByte s.data.toList c.toNat.toUInt8)] []
  | _, _ => none⟩
theorem s_indexByte_det : SumDet s_indexByte := fun avs objs R κ => by
  show s_indexByte.run avs objs (two κ) = (s_indexByte.run avs objs (two some)).bind κ
  unfold s_indexByte
  simp only
  split <;> rfl
theorem s_indexByte_ok (L : Lays.n137 P ρ) {fn : Func} {c : Code} (hf : P.funcs[ρ.f 137]? = some fn) (hb : fn.body = some c) (hn : (fn.name == "runtime.NumGoroutine") = false) : SumOk P (ρ.f 137) s_indexByte := by
  refine ⟨⟨fn, c, hf, hb, hn⟩, ?_⟩
  intro R avs objs κ r h B g w vs hw hv
  unfold s_indexByte at h
  simp only at h
  split at h
  case h_2 => cases h
  rename_i s c
  match vs, hv with
  | [v1, v2], ⟨h1, h2, _⟩ =>
    rw [show v1 = .string s from h1, show v2 = .int .u8 c from h2]
    refine (Any.strings_IndexByte L s c w).mono ?_
    rintro e' w' ⟨rfl, rfl⟩
    exact ⟨_, rfl, _, _, g, h, hw, GE.refl g, rfl⟩

noncomputable def itoaT (n : Int) : ByteArray := ⟨(Lib.itoa n).toArray⟩
noncomputable def s_itoa : Sum := ⟨[.raw], fun args objs κ => match args, objs with
  | [.d (.int .i64) n], [] => if -9223372036854775808 ≤ n ∧ n ≤ 9223372036854775807 then κ [.d .str (itoaT n)] [] else none
  | _, _ => none⟩
theorem s_itoa_det : SumDet s_itoa := fun avs objs R κ => by
  show s_itoa.run avs objs (two κ) = (s_itoa.run avs objs (two some)).bind κ
  unfold s_itoa
  simp only
  split
  · split <;> rfl
  · rfl
theorem below_grow (w : World) (k : Nat) (os : Array Go.Obj) : Below w.heap.size w (grow (w.drewN k) os) := by
  refine ⟨rfl, rfl, rfl, ?_, fun b hb => ?_⟩
  · show w.heap.size ≤ (w.heap ++ os).size
    simp
  · show (w.heap ++ os)[b]? = w.heap[b]?
    rw [Array.getElem?_append_left hb]
theorem s_itoa_ok (L : LaysM.n171 P ρ) (htab : ∀ w : World, gok (gblk.map fun n => w.heap[n]?) → Lib.TabIs P w "internal/strconv.uint64pow10" .u64 Lib.pow10Tab)
    {fn : Func} {c : Code} (hf : P.funcs[ρ.f 171]? = some fn) (hb : fn.body = some c) (hn : (fn.name == "runtime.NumGoroutine") = false) : SumOk P (ρ.f 171) s_itoa := by
  refine ⟨⟨fn, c, hf, hb, hn⟩, ?_⟩
  intro R avs objs κ r h B g w vs hw hv
  unfold s_itoa at h
  simp only at h
  split at h
  case h_2 => cases h
  rename_i n
  split at h
  case isFalse => cases h
  rename_i hc
  match vs, hv with
  | [v1], ⟨h1, _⟩ =>
    rw [show v1 = .int .i64 n from h1]
    refine (Any.strconv_Itoa L n hc.1 hc.2 w (htab w hw.gok)).mono ?_
    rintro e' w' ⟨rfl, k, os, rfl⟩
    exact ⟨_, rfl, _, _, g, h, hw.belowS (below_grow w k os), GE.refl g, rfl⟩
end Go.Den
