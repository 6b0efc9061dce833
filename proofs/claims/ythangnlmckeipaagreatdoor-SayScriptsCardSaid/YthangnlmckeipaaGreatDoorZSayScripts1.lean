/- SayScripts, part 1: what the row leans on. -/
import Derived.Test.YthangnlmckeipaaGreatDoorEv3
import Derived.Test.YthangnlmckeipaaGreatDoorRows
import Derived.Test.YthangnlmckeipaaGreatDoorTie
import Derived.Test.YthangnlmckeipaaGreatDoorCards
import Derived.Test.YthangnlmckeipaaGreatDoorTh
import Derived.KernelRfl
import Derived.ProofKit
import Derived.LaidMore
import Derived.Lay
import Derived.OpenShut
import Derived.Stop.Joined
import Derived.Stop.LaidErr
import Derived.Lib.LaidTab
import Derived.SevenTiedAt
import Derived.Shelf.Vars
import Derived.Test.YthangnlmckeipaaGreatDoorR00
import Derived.Test.YthangnlmckeipaaGreatDoorJ0
import Derived.Test.YthangnlmckeipaaGreatDoorJB
import Derived.Test.YthangnlmckeipaaGreatDoorJC
import Derived.Shelf.Lays
import Derived.Shelf.LaysM
import Derived.Shelf.LaysC
import Derived.Test.YthangnlmckeipaaGreatDoorJD
import Derived.Test.YthangnlmckeipaaGreatDoorJE
import Derived.Test.YthangnlmckeipaaGreatDoorChecked
import Derived.Shelf.Strconv.AtoiAll
import Derived.Shelf.RegionOpenPlain
import Derived.WalkKit
import Derived.Test.YthangnlmckeipaaGreatDoorQ2
import Derived.Test.YthangnlmckeipaaGreatDoorQ4
set_option linter.unusedVariables false
set_option linter.unusedSimpArgs false
set_option maxRecDepth 100000
namespace Go.Proofs.YthangnlmckeipaaGreatDoor
open Go.Den
open Go.Den Go.RowKit
open Go.Say (Word)
open Go.Say (Word Deed mv1 zero names partsOf)
theorem Tryz.own : ownKnob Tryz.prog.godebug = none := by kernel_rfl
theorem Tryz.laidOut : laidOutB Tryz.prog = true := by kernel_rfl
theorem Tryz.mapsRow : mapsRowed Tryz.prog = true := by kernel_rfl
theorem Tryz.slicesSize : slicesSized Tryz.prog = true := by kernel_rfl
abbrev laidL : List (String × DataW Unit) := [("math/bits.deBruijn32tab", Rows.laid_math_bits_deBruijn32tab), ("math/bits.deBruijn64tab", Rows.laid_math_bits_deBruijn64tab), ("internal/strconv.uint64pow10", Rows.laid_internal_strconv_uint64pow10), ("unicode/utf8.acceptRanges", Rows.laid_unicode_utf8_acceptRanges), ("strconv.ErrRange", Rows.laid_strconv_ErrRange), ("strconv.ErrSyntax", Rows.laid_strconv_ErrSyntax), ("unicode/utf8.first", Rows.laid_unicode_utf8_first)]
theorem door_met (os : Os) (args : Array Value) : laidMetH Tryz.prog laidL ((World.laidAll Tryz.prog os laidL).forCall (fun _ _ => 0) ⟨#[], args, []⟩).memory := by
  rw [MakeChecks.laidMetH_plain _ _ _ (by kernel_rfl)]
  exact laidMet_laidAll _ (by kernel_rfl) (by kernel_rfl)
theorem gPow : Tryz.prog.globalNamed "internal/strconv.uint64pow10" = some 3 := by kernel_rfl
theorem gSyn : Tryz.prog.globalNamed "strconv.ErrSyntax" = some 4 := by kernel_rfl
theorem gRan : Tryz.prog.globalNamed "strconv.ErrRange" = some 5 := by kernel_rfl
theorem esStar : "*" ++ "errors.errorString" = "*errors.errorString" := by decide
theorem esRow (u : TypeId) (h : Tryz.prog.typeName? 3 u = some "*errors.errorString") : u = 153 :=
  typeName_ptr_named (nm := "errors.errorString") (by rw [esStar]; kernel_rfl) (by kernel_rfl) (by decide) u (by rw [esStar]; exact h)
theorem row_of_var {W : World} {n : String} {g : Nat} {cs : Array Value} (hg : Tryz.prog.globalNamed n = some g) (h : W.var? Tryz.prog n = some cs) : ∃ t z, W.heap[g]? = some (.cells cs t z) := by
  unfold World.var? at h
  rw [hg] at h
  simp only [Option.bind_some] at h
  split at h
  · rename_i c t z e
    cases h
    exact ⟨t, z, e⟩
  · cases h
theorem heap_lt {W : World} {n : Nat} {o : Go.Obj} (h : W.heap[n]? = some o) : n < W.heap.size := (Array.getElem?_eq_some_iff.1 h).1
set_option maxRecDepth 100000 in
theorem laid_glob {W : World} (h : laidMetH Tryz.prog laidL W) (hsh : W.ShapedOpen Tryz.prog) : GlobIn W := by
  rw [MakeChecks.laidMetH_plain _ _ _ (by kernel_rfl)] at h
  have h2 := h.tail.tail
  have hP : Lib.TabIs Tryz.prog W "internal/strconv.uint64pow10" .u64 Lib.pow10Tab := Lib.tabIs_of_head (k := .u64) (zs := Lib.pow10Tab) gPow (show (Tryz.prog.globals[3]?).map (·.type) = some 141 by kernel_rfl) Tryz.underlying141 Tryz.underlying128 (by kernel_rfl) (by kernel_rfl) h2
  have h4 := h2.tail.tail
  obtain ⟨a5, s5, v5, _⟩ := laid_sentinel h4 gRan (show (Tryz.prog.globals[5]?).map (·.type) = some 76 by kernel_rfl) Tryz.underlying76 esRow Tryz.underlying153 Tryz.underlying155 rfl rfl Tryz.underlying9 (by kernel_rfl) (by kernel_rfl)
  obtain ⟨a4, s4, v4, _⟩ := laid_sentinel h4.tail gSyn (show (Tryz.prog.globals[4]?).map (·.type) = some 76 by kernel_rfl) Tryz.underlying76 esRow Tryz.underlying153 Tryz.underlying155 rfl rfl Tryz.underlying9 (by kernel_rfl) (by kernel_rfl)
  obtain ⟨m, hm⟩ := cell_of_shapedOpen_int (k := .i64) hsh (show 0 < Tryz.prog.globals.size from of_decide_eq_true (by kernel_rfl)) (t := 3) (zero := #[.int .i64 0]) (by kernel_rfl) rfl (by kernel_rfl) (by kernel_rfl) Tryz.underlying3
  obtain ⟨t5, z5, r5⟩ := row_of_var gRan v5
  obtain ⟨t4, z4, r4⟩ := row_of_var gSyn v4
  obtain ⟨t3, z3, r3⟩ := row_of_var gPow hP
  obtain ⟨c0, t0, z0, r0, hc0⟩ : ∃ c t z, W.heap[0]? = some (.cells c t z) ∧ c[0]? = some (.int .i64 m) := by
    unfold World.cell? at hm
    split at hm
    · rename_i c t z e
      exact ⟨c, t, z, e, by simpa using hm⟩
    · cases hm
  refine ⟨fun n k l hn => (by cases hn), fun n hn => ?_, ?_⟩
  · simp only [gblk, List.mem_cons, List.not_mem_nil, or_false] at hn
    rcases hn with rfl | rfl | rfl | rfl
    · exact heap_lt r0
    · exact heap_lt r3
    · exact heap_lt r4
    · exact heap_lt r5
  · show gok [W.heap[0]?, W.heap[3]?, W.heap[4]?, W.heap[5]?]
    rw [r0, r3, r4, r5]
    exact ⟨⟨m, hc0⟩, rfl, ⟨_, rfl, .inr ⟨_, _, rfl⟩⟩, ⟨_, rfl, .inr ⟨_, _, rfl⟩⟩⟩
noncomputable def BIG : Nat := veil 1099511627776
theorem BIG_eq : BIG = 1099511627776 := veil_eq _
theorem big_eq : BIG = (BIG - 1) + 1 := by rw [BIG_eq]
theorem any_ok : Tryz.prog.follows .mixedOrders = true := by kernel_rfl
def renSy : Go.Shelf.Ren where
  f := fun x => match x with
    | 129 => 103
    | 137 => 76
    | 138 => 54
    | 143 => 55
    | 145 => 75
    | 146 => 19
    | 156 => 28
    | 165 => 51
    | 166 => 29
    | 169 => 31
    | 171 => 58
    | 172 => 72
    | 195 => 67
    | 197 => 68
    | 205 => 109
    | 217 => 80
    | 218 => 69
    | 219 => 70
    | 220 => 88
    | 221 => 32
    | 224 => 82
    | 225 => 81
    | 240 => 52
    | 241 => 65
    | 243 => 71
    | 244 => 85
    | 245 => 86
    | 246 => 84
    | 247 => 96
    | 260 => 79
    | 266 => 90
    | 267 => 83
    | 268 => 53
    | 276 => 66
    | 277 => 78
    | 279 => 97
    | 280 => 98
    | 281 => 99
    | 282 => 100
    | 283 => 92
    | 284 => 93
    | 285 => 94
    | 286 => 95
    | 287 => 107
    | 314 => 91
    | 316 => 108
    | 317 => 102
    | 318 => 104
    | 319 => 105
    | 320 => 106
    | 321 => 112
    | 322 => 113
    | 337 => 110
    | 338 => 111
    | n => n
  t := fun x => match x with
    | 0 => 0
    | 2 => 2
    | 3 => 3
    | 4 => 4
    | 5 => 5
    | 9 => 9
    | 20 => 20
    | 21 => 21
    | 31 => 49
    | 37 => 46
    | 46 => 98
    | 51 => 124
    | 53 => 128
    | 59 => 111
    | 70 => 72
    | 72 => 74
    | 75 => 76
    | 76 => 77
    | 80 => 80
    | 85 => 134
    | 105 => 105
    | 119 => 120
    | 127 => 90
    | 138 => 122
    | 139 => 123
    | 143 => 153
    | 145 => 155
    | 146 => 125
    | 164 => 102
    | 167 => 133
    | 168 => 136
    | 171 => 127
    | 173 => 131
    | 175 => 145
    | 210 => 149
    | 212 => 141
    | 213 => 142
    | 232 => 156
    | 233 => 157
    | n => n
  g := fun x => match x with
    | 1 => 0
    | 3 => 1
    | 4 => 2
    | 15 => 4
    | 16 => 5
    | 17 => 3
    | 18 => 6
    | 19 => 7
    | n => n
theorem layS_n146 : Go.Proofs.Lays.n146 Tryz.prog renSy where
  mixed := by kernel_rfl
  f138 := Tryz.func54
  f143 := Tryz.func55
  f146 := Tryz.func19
  f195 := Tryz.func67
  f197 := Tryz.func68
  f217 := Tryz.func80
  f218 := Tryz.func69
  f219 := Tryz.func70
  f221 := Tryz.func32
  f224 := Tryz.func82
  f225 := Tryz.func81
  f260 := Tryz.func79
  f266 := Tryz.func90
  f267 := Tryz.func83
  f268 := Tryz.func53
  f314 := Tryz.func91
  t0 := Tryz.underlying0
  a0 := Tryz.isAgg0
  z0 := Tryz.sizeOf0
  v0 := Tryz.zeroValue0
  t3 := Tryz.underlying3
  a3 := Tryz.isAgg3
  z3 := Tryz.sizeOf3
  v3 := Tryz.zeroValue3
  t4 := Tryz.underlying4
  a4 := Tryz.isAgg4
  z4 := Tryz.sizeOf4
  v4 := Tryz.zeroValue4
  t5 := Tryz.underlying5
  a5 := Tryz.isAgg5
  z5 := Tryz.sizeOf5
  v5 := Tryz.zeroValue5
  t9 := Tryz.underlying9
  a9 := Tryz.isAgg9
  z9 := Tryz.sizeOf9
  v9 := Tryz.zeroValue9
  t21 := Tryz.underlying21
  a21 := Tryz.isAgg21
  z21 := Tryz.sizeOf21
  v21 := Tryz.zeroValue21
  t31 := Tryz.underlying49
  a31 := Tryz.isAgg49
  z31 := Tryz.sizeOf49
  v31 := Tryz.zeroValue49
  t46 := Tryz.underlying98
  a46 := Tryz.isAgg98
  z46 := Tryz.sizeOf98
  v46 := Tryz.zeroValue98
  t51 := Tryz.underlying124
  a51 := Tryz.isAgg124
  z51 := Tryz.sizeOf124
  v51 := Tryz.zeroValue124
  t105 := Tryz.underlying105
  a105 := Tryz.isAgg105
  z105 := Tryz.sizeOf105
  v105 := Tryz.zeroValue105
  t119 := Tryz.underlying120
  a119 := Tryz.isAgg120
  z119 := Tryz.sizeOf120
  t138 := Tryz.underlying122
  a138 := Tryz.isAgg122
  z138 := Tryz.sizeOf122
  v138 := Tryz.zeroValue122
  t139 := Tryz.underlying123
  a139 := Tryz.isAgg123
  z139 := Tryz.sizeOf123
  v139 := Tryz.zeroValue123
  t146 := Tryz.underlying125
  a146 := Tryz.isAgg125
  z146 := Tryz.sizeOf125
  v146 := Tryz.zeroValue125
  g1 := by kernel_rfl
  g3 := by kernel_rfl
  g4 := by kernel_rfl
theorem layS_n145 : Go.Proofs.Lays.n145 Tryz.prog renSy where
  mixed := by kernel_rfl
  f145 := Tryz.func75
  f217 := Tryz.func80
  f219 := Tryz.func70
  f220 := Tryz.func88
  f224 := Tryz.func82
  f225 := Tryz.func81
  f266 := Tryz.func90
  f267 := Tryz.func83
  f314 := Tryz.func91
  t3 := Tryz.underlying3
  a3 := Tryz.isAgg3
  z3 := Tryz.sizeOf3
  v3 := Tryz.zeroValue3
  t4 := Tryz.underlying4
  a4 := Tryz.isAgg4
  z4 := Tryz.sizeOf4
  v4 := Tryz.zeroValue4
  t5 := Tryz.underlying5
  a5 := Tryz.isAgg5
  z5 := Tryz.sizeOf5
  v5 := Tryz.zeroValue5
  t9 := Tryz.underlying9
  a9 := Tryz.isAgg9
  z9 := Tryz.sizeOf9
  v9 := Tryz.zeroValue9
  t46 := Tryz.underlying98
  a46 := Tryz.isAgg98
  z46 := Tryz.sizeOf98
  v46 := Tryz.zeroValue98
  t51 := Tryz.underlying124
  a51 := Tryz.isAgg124
  z51 := Tryz.sizeOf124
  v51 := Tryz.zeroValue124
  t59 := Tryz.underlying111
  a59 := Tryz.isAgg111
  z59 := Tryz.sizeOf111
  v59 := Tryz.zeroValue111
  t146 := Tryz.underlying125
  a146 := Tryz.isAgg125
  z146 := Tryz.sizeOf125
  v146 := Tryz.zeroValue125
  g1 := by kernel_rfl
theorem layS_n137 : Go.Proofs.Lays.n137 Tryz.prog renSy where
  mixed := by kernel_rfl
  f137 := Tryz.func76
  f217 := Tryz.func80
  f266 := Tryz.func90
  t3 := Tryz.underlying3
  a3 := Tryz.isAgg3
  z3 := Tryz.sizeOf3
  v3 := Tryz.zeroValue3
  t5 := Tryz.underlying5
  a5 := Tryz.isAgg5
  z5 := Tryz.sizeOf5
  v5 := Tryz.zeroValue5
  t9 := Tryz.underlying9
  a9 := Tryz.isAgg9
  z9 := Tryz.sizeOf9
  v9 := Tryz.zeroValue9
theorem layS_n171 : Go.Proofs.LaysM.n171 Tryz.prog renSy where
  mixed := by kernel_rfl
  f129 := Tryz.func103
  f171 := Tryz.func58
  f243 := Tryz.func71
  f246 := Tryz.func84
  f283 := Tryz.func92
  f284 := Tryz.func93
  f285 := Tryz.func94
  f286 := Tryz.func95
  f317 := Tryz.func102
  f318 := Tryz.func104
  f319 := Tryz.func105
  f320 := Tryz.func106
  f337 := Tryz.func110
  f338 := Tryz.func111
  t0 := Tryz.underlying0
  a0 := Tryz.isAgg0
  z0 := Tryz.sizeOf0
  v0 := Tryz.zeroValue0
  t2 := Tryz.underlying2
  a2 := Tryz.isAgg2
  z2 := Tryz.sizeOf2
  v2 := Tryz.zeroValue2
  t3 := Tryz.underlying3
  a3 := Tryz.isAgg3
  z3 := Tryz.sizeOf3
  v3 := Tryz.zeroValue3
  t4 := Tryz.underlying4
  a4 := Tryz.isAgg4
  z4 := Tryz.sizeOf4
  v4 := Tryz.zeroValue4
  t5 := Tryz.underlying5
  a5 := Tryz.isAgg5
  z5 := Tryz.sizeOf5
  v5 := Tryz.zeroValue5
  t9 := Tryz.underlying9
  a9 := Tryz.isAgg9
  z9 := Tryz.sizeOf9
  v9 := Tryz.zeroValue9
  t20 := Tryz.underlying20
  a20 := Tryz.isAgg20
  z20 := Tryz.sizeOf20
  v20 := Tryz.zeroValue20
  t37 := Tryz.underlying46
  a37 := Tryz.isAgg46
  z37 := Tryz.sizeOf46
  v37 := Tryz.zeroValue46
  t46 := Tryz.underlying98
  a46 := Tryz.isAgg98
  z46 := Tryz.sizeOf98
  v46 := Tryz.zeroValue98
  t51 := Tryz.underlying124
  a51 := Tryz.isAgg124
  z51 := Tryz.sizeOf124
  v51 := Tryz.zeroValue124
  t53 := Tryz.underlying128
  a53 := Tryz.isAgg128
  z53 := Tryz.sizeOf128
  v53 := Tryz.zeroValue128
  t171 := Tryz.underlying127
  a171 := Tryz.isAgg127
  z171 := Tryz.sizeOf127
  v171 := Tryz.zeroValue127
  t173 := Tryz.underlying131
  a173 := Tryz.isAgg131
  z173 := Tryz.sizeOf131
  v173 := Tryz.zeroValue131
  t212 := Tryz.underlying141
  a212 := Tryz.isAgg141
  z212 := Tryz.sizeOf141
  v212 := Tryz.zeroValue141
  t213 := Tryz.underlying142
  a213 := Tryz.isAgg142
  z213 := Tryz.sizeOf142
  t232 := Tryz.underlying156
  a232 := Tryz.isAgg156
  z232 := Tryz.sizeOf156
  v232 := Tryz.zeroValue156
  t233 := Tryz.underlying157
  a233 := Tryz.isAgg157
  z233 := Tryz.sizeOf157
  v233 := Tryz.zeroValue157
  g17 := by kernel_rfl
  g18 := by kernel_rfl
  g19 := by kernel_rfl
  i0 := by kernel_rfl
  i2 := by kernel_rfl
  i3 := by kernel_rfl
  i4 := by kernel_rfl
  i5 := by kernel_rfl
  i9 := by kernel_rfl
  i20 := by kernel_rfl
  i37 := by kernel_rfl
  i46 := by kernel_rfl
  i51 := by kernel_rfl
  i53 := by kernel_rfl
  i171 := by kernel_rfl
  i173 := by kernel_rfl
  i212 := by kernel_rfl
  i232 := by kernel_rfl
  i233 := by kernel_rfl
  m17 := by kernel_rfl
  m18 := by kernel_rfl
  m19 := by kernel_rfl
theorem layS_n172 : Go.Proofs.LaysC.n172 Tryz.prog renSy where
  mixed := by kernel_rfl
  f129 := Tryz.func103
  f171 := Tryz.func58
  f172 := Tryz.func72
  f205 := Tryz.func109
  f243 := Tryz.func71
  f244 := Tryz.func85
  f245 := Tryz.func86
  f246 := Tryz.func84
  f247 := Tryz.func96
  f279 := Tryz.func97
  f280 := Tryz.func98
  f281 := Tryz.func99
  f282 := Tryz.func100
  f283 := Tryz.func92
  f284 := Tryz.func93
  f285 := Tryz.func94
  f286 := Tryz.func95
  f287 := Tryz.func107
  f316 := Tryz.func108
  f317 := Tryz.func102
  f318 := Tryz.func104
  f319 := Tryz.func105
  f320 := Tryz.func106
  f321 := Tryz.func112
  f322 := Tryz.func113
  f337 := Tryz.func110
  f338 := Tryz.func111
  t0 := Tryz.underlying0
  a0 := Tryz.isAgg0
  z0 := Tryz.sizeOf0
  v0 := Tryz.zeroValue0
  t2 := Tryz.underlying2
  a2 := Tryz.isAgg2
  z2 := Tryz.sizeOf2
  v2 := Tryz.zeroValue2
  t3 := Tryz.underlying3
  a3 := Tryz.isAgg3
  z3 := Tryz.sizeOf3
  v3 := Tryz.zeroValue3
  t4 := Tryz.underlying4
  a4 := Tryz.isAgg4
  z4 := Tryz.sizeOf4
  v4 := Tryz.zeroValue4
  t5 := Tryz.underlying5
  a5 := Tryz.isAgg5
  z5 := Tryz.sizeOf5
  v5 := Tryz.zeroValue5
  t9 := Tryz.underlying9
  a9 := Tryz.isAgg9
  z9 := Tryz.sizeOf9
  v9 := Tryz.zeroValue9
  t20 := Tryz.underlying20
  a20 := Tryz.isAgg20
  z20 := Tryz.sizeOf20
  v20 := Tryz.zeroValue20
  t21 := Tryz.underlying21
  a21 := Tryz.isAgg21
  z21 := Tryz.sizeOf21
  v21 := Tryz.zeroValue21
  t37 := Tryz.underlying46
  a37 := Tryz.isAgg46
  z37 := Tryz.sizeOf46
  v37 := Tryz.zeroValue46
  t46 := Tryz.underlying98
  a46 := Tryz.isAgg98
  z46 := Tryz.sizeOf98
  v46 := Tryz.zeroValue98
  t51 := Tryz.underlying124
  a51 := Tryz.isAgg124
  z51 := Tryz.sizeOf124
  v51 := Tryz.zeroValue124
  t53 := Tryz.underlying128
  a53 := Tryz.isAgg128
  z53 := Tryz.sizeOf128
  v53 := Tryz.zeroValue128
  t75 := Tryz.underlying76
  a75 := Tryz.isAgg76
  z75 := Tryz.sizeOf76
  v75 := Tryz.zeroValue76
  t76 := Tryz.underlying77
  a76 := Tryz.isAgg77
  z76 := Tryz.sizeOf77
  v76 := Tryz.zeroValue77
  t85 := Tryz.underlying134
  a85 := Tryz.isAgg134
  z85 := Tryz.sizeOf134
  v85 := Tryz.zeroValue134
  t127 := Tryz.underlying90
  a127 := Tryz.isAgg90
  z127 := Tryz.sizeOf90
  v127 := Tryz.zeroValue90
  t143 := Tryz.underlying153
  a143 := Tryz.isAgg153
  z143 := Tryz.sizeOf153
  v143 := Tryz.zeroValue153
  t145 := Tryz.underlying155
  a145 := Tryz.isAgg155
  z145 := Tryz.sizeOf155
  v145 := Tryz.zeroValue155
  t167 := Tryz.underlying133
  a167 := Tryz.isAgg133
  z167 := Tryz.sizeOf133
  v167 := Tryz.zeroValue133
  t168 := Tryz.underlying136
  a168 := Tryz.isAgg136
  z168 := Tryz.sizeOf136
  v168 := Tryz.zeroValue136
  t171 := Tryz.underlying127
  a171 := Tryz.isAgg127
  z171 := Tryz.sizeOf127
  v171 := Tryz.zeroValue127
  t173 := Tryz.underlying131
  a173 := Tryz.isAgg131
  z173 := Tryz.sizeOf131
  v173 := Tryz.zeroValue131
  t175 := Tryz.underlying145
  a175 := Tryz.isAgg145
  z175 := Tryz.sizeOf145
  v175 := Tryz.zeroValue145
  t210 := Tryz.underlying149
  a210 := Tryz.isAgg149
  z210 := Tryz.sizeOf149
  v210 := Tryz.zeroValue149
  t212 := Tryz.underlying141
  a212 := Tryz.isAgg141
  z212 := Tryz.sizeOf141
  v212 := Tryz.zeroValue141
  t213 := Tryz.underlying142
  a213 := Tryz.isAgg142
  z213 := Tryz.sizeOf142
  t232 := Tryz.underlying156
  a232 := Tryz.isAgg156
  z232 := Tryz.sizeOf156
  v232 := Tryz.zeroValue156
  t233 := Tryz.underlying157
  a233 := Tryz.isAgg157
  z233 := Tryz.sizeOf157
  v233 := Tryz.zeroValue157
  g15 := by kernel_rfl
  g16 := by kernel_rfl
  g17 := by kernel_rfl
  g18 := by kernel_rfl
  g19 := by kernel_rfl
  t80 := Tryz.underlying80
  a80 := Tryz.isAgg80
  z80 := Tryz.sizeOf80
  v80 := Tryz.zeroValue80
  i0 := by kernel_rfl
  i2 := by kernel_rfl
  i3 := by kernel_rfl
  i4 := by kernel_rfl
  i5 := by kernel_rfl
  i9 := by kernel_rfl
  i20 := by kernel_rfl
  i21 := by kernel_rfl
  i37 := by kernel_rfl
  i46 := by kernel_rfl
  i51 := by kernel_rfl
  i53 := by kernel_rfl
  i75 := by kernel_rfl
  i76 := by kernel_rfl
  i80 := by kernel_rfl
  i85 := by kernel_rfl
  i127 := by kernel_rfl
  i143 := by kernel_rfl
  i145 := by kernel_rfl
  i167 := by kernel_rfl
  i168 := by kernel_rfl
  i171 := by kernel_rfl
  i173 := by kernel_rfl
  i175 := by kernel_rfl
  i210 := by kernel_rfl
  i212 := by kernel_rfl
  i232 := by kernel_rfl
  i233 := by kernel_rfl
  m15 := by kernel_rfl
  m16 := by kernel_rfl
  m17 := by kernel_rfl
  m18 := by kernel_rfl
  m19 := by kernel_rfl
  c0 := by kernel_rfl
  c2 := by kernel_rfl
  c3 := by kernel_rfl
  c4 := by kernel_rfl
  c5 := by kernel_rfl
  c9 := by kernel_rfl
  c20 := by kernel_rfl
  c21 := by kernel_rfl
  c37 := by kernel_rfl
  c46 := by kernel_rfl
  c51 := by kernel_rfl
  c53 := by kernel_rfl
  c75 := by kernel_rfl
  c76 := by kernel_rfl
  c80 := by kernel_rfl
  c85 := by kernel_rfl
  c127 := by kernel_rfl
  c143 := by kernel_rfl
  c145 := by kernel_rfl
  c167 := by kernel_rfl
  c168 := by kernel_rfl
  c171 := by kernel_rfl
  c173 := by kernel_rfl
  c175 := by kernel_rfl
  c210 := by kernel_rfl
  c212 := by kernel_rfl
  c213 := by kernel_rfl
  c232 := by kernel_rfl
  c233 := by kernel_rfl
theorem layS_n156 : Go.Proofs.Lays.n156 Tryz.prog renSy where
  mixed := by kernel_rfl
  f156 := Tryz.func28
  f165 := Tryz.func51
  f166 := Tryz.func29
  f169 := Tryz.func31
  f240 := Tryz.func52
  f241 := Tryz.func65
  f276 := Tryz.func66
  f277 := Tryz.func78
  t0 := Tryz.underlying0
  a0 := Tryz.isAgg0
  z0 := Tryz.sizeOf0
  v0 := Tryz.zeroValue0
  t3 := Tryz.underlying3
  a3 := Tryz.isAgg3
  z3 := Tryz.sizeOf3
  v3 := Tryz.zeroValue3
  t4 := Tryz.underlying4
  a4 := Tryz.isAgg4
  z4 := Tryz.sizeOf4
  v4 := Tryz.zeroValue4
  t9 := Tryz.underlying9
  a9 := Tryz.isAgg9
  z9 := Tryz.sizeOf9
  v9 := Tryz.zeroValue9
  t20 := Tryz.underlying20
  a20 := Tryz.isAgg20
  z20 := Tryz.sizeOf20
  v20 := Tryz.zeroValue20
  t31 := Tryz.underlying49
  a31 := Tryz.isAgg49
  z31 := Tryz.sizeOf49
  v31 := Tryz.zeroValue49
  t37 := Tryz.underlying46
  a37 := Tryz.isAgg46
  z37 := Tryz.sizeOf46
  v37 := Tryz.zeroValue46
  t70 := Tryz.underlying72
  a70 := Tryz.isAgg72
  z70 := Tryz.sizeOf72
  v70 := Tryz.zeroValue72
  t72 := Tryz.underlying74
  a72 := Tryz.isAgg74
  z72 := Tryz.sizeOf74
  v72 := Tryz.zeroValue74
  t75 := Tryz.underlying76
  a75 := Tryz.isAgg76
  z75 := Tryz.sizeOf76
  v75 := Tryz.zeroValue76
  t76 := Tryz.underlying77
  a76 := Tryz.isAgg77
  z76 := Tryz.sizeOf77
  v76 := Tryz.zeroValue77
  t127 := Tryz.underlying90
  a127 := Tryz.isAgg90
  z127 := Tryz.sizeOf90
  v127 := Tryz.zeroValue90
  t164 := Tryz.underlying102
  a164 := Tryz.isAgg102
  z164 := Tryz.sizeOf102
  v164 := Tryz.zeroValue102
theorem extraSy : Go.Proofs.Builder.Extra Tryz.prog renSy where
  sizeBuilder := by kernel_rfl
  liesBuilder := by kernel_rfl
  t5 := Tryz.underlying5
  a5 := Tryz.isAgg5
  z5 := Tryz.sizeOf5
  v5 := Tryz.zeroValue5
  infoByte := by kernel_rfl
  cellsByte := by kernel_rfl
  sizeByte := by kernel_rfl
  neB5 := by decide
/-- what is known of package variables, one by one -/
theorem gok_parts {w : World} (h : gok (gblk.map fun n => w.heap[n]?)) : (∃ c t z m, w.heap[0]? = some (.cells c t z) ∧ c[0]? = some (Value.int .i64 m)) ∧ (∃ t z, w.heap[3]? = some (.cells (Lib.pow10Tab.map fun z => Value.int .u64 z).toArray t z)) ∧
    (∃ c t z v, w.heap[4]? = some (.cells c t z) ∧ c[0]? = some v ∧ errV v) ∧ ∃ c t z v, w.heap[5]? = some (.cells c t z) ∧ c[0]? = some v ∧ errV v := by
  unfold gok gblk at h
  simp only [List.map_cons, List.map_nil] at h
  split at h
  · rename_i c0 t0 z0 c3 t3 z3 c4 t4 z4 c5 t5 z5 he
    simp only [List.cons.injEq, and_true] at he
    obtain ⟨e0, e3, e4, e5⟩ := he
    obtain ⟨⟨m, h0⟩, rfl, ⟨v4, h4, k4⟩, v5, h5, k5⟩ := h
    exact ⟨⟨c0, t0, z0, m, e0, h0⟩, ⟨t3, z3, e3⟩, ⟨c4, t4, z4, v4, e4, h4, k4⟩, c5, t5, z5, v5, e5, h5, k5⟩
  · exact h.elim
theorem gok_max (w : World) (h : gok (gblk.map fun n => w.heap[n]?)) : ∃ m, w.cell? ⟨(renSy.g 1), 0, none⟩ = some (.int .i64 m) := by
  obtain ⟨⟨c, t, z, m, h0, h1⟩, _⟩ := gok_parts h
  exact ⟨m, by show w.cell? ⟨0, 0, none⟩ = _; simp [World.cell?, h0, h1]⟩
theorem gok_tab (w : World) (h : gok (gblk.map fun n => w.heap[n]?)) : Lib.TabIs Tryz.prog w "internal/strconv.uint64pow10" .u64 Lib.pow10Tab := by
  obtain ⟨_, ⟨t, z, h0⟩, _⟩ := gok_parts h
  have hg : Tryz.prog.globalNamed "internal/strconv.uint64pow10" = some 3 := by kernel_rfl
  unfold Lib.TabIs World.var?
  rw [hg]
  simp [h0]
noncomputable def s_splitS : Den.Sum := s_split 9
theorem s_splitS_det : SumDet s_splitS := s_split_det 9
theorem s_splitS_ok : SumOk Tryz.prog 19 s_splitS := s_split_ok layS_n146 (by kernel_rfl) gok_max Tryz.func19 rfl (by kernel_rfl)
noncomputable def s_cutS : Den.Sum := s_cut
theorem s_cutS_det : SumDet s_cutS := s_cut_det
theorem s_cutS_ok : SumOk Tryz.prog 75 s_cutS := s_cut_ok layS_n145 gok_max Tryz.func75 rfl (by kernel_rfl)
noncomputable def s_indexS : Den.Sum := s_indexByte
theorem s_indexS_det : SumDet s_indexS := s_indexByte_det
theorem s_indexS_ok : SumOk Tryz.prog 76 s_indexS := s_indexByte_ok layS_n137 Tryz.func76 rfl (by kernel_rfl)
noncomputable def s_itoaS : Den.Sum := s_itoa
theorem s_itoaS_det : SumDet s_itoaS := s_itoa_det
theorem s_itoaS_ok : SumOk Tryz.prog 58 s_itoaS := s_itoa_ok layS_n171 gok_tab Tryz.func58 rfl (by kernel_rfl)
noncomputable def s_joinS : Den.Sum := Go.Den.s_join
theorem s_joinS_det : SumDet s_joinS := Go.Den.s_join_det
theorem s_joinS_ok : SumOk Tryz.prog 28 s_joinS := Go.Den.s_join_ok layS_n156 extraSy Tryz.func28 rfl (by kernel_rfl)
noncomputable def s_bcheckS : Den.Sum := s_bcheck 74
theorem s_bcheckS_det : SumDet s_bcheckS := s_bcheck_det 74
theorem s_bcheckS_ok : SumOk Tryz.prog 52 s_bcheckS := s_bcheck_ok (ρ := renSy) { layS_n156 with } extraSy.toX72 Tryz.func52 rfl (by kernel_rfl)
noncomputable def s_bstringS : Den.Sum := s_bstring 74 5
theorem s_bstringS_det : SumDet s_bstringS := s_bstring_det 74 5
theorem s_bstringS_ok : SumOk Tryz.prog 31 s_bstringS := s_bstring_ok (ρ := renSy) { layS_n156 with } extraSy Tryz.func31 rfl (by kernel_rfl)
def renC1 : Go.Shelf.Ren where
  f := fun x => match x with
    | 41 => 47
    | n => n
  t := fun x => match x with
    | 4 => 4
    | 22 => 26
    | 23 => 3
    | n => n
  g := fun x => x
theorem laysC1 : Go.Proofs.SlLaysE0.n41 Tryz.prog renC1 where
  mixed := by kernel_rfl
  f41 := ⟨_, by kernel_rfl, Tryz.func47⟩
  t4 := Tryz.underlying4
  a4 := Tryz.isAgg4
  z4 := Tryz.sizeOf4
  v4 := Tryz.zeroValue4
  t22 := Tryz.underlying26
  a22 := Tryz.isAgg26
  z22 := Tryz.sizeOf26
  v22 := Tryz.zeroValue26
theorem isInfo3 : (Tryz.prog.info? 3).isSome = true := by kernel_rfl
noncomputable def s_cloneDS : Den.Sum := s_cloneD 3 (.int .i64) 8
theorem s_cloneDS_det : SumDet s_cloneDS := s_cloneD_det _ _ _
theorem s_cloneDS_ok : SumOk Tryz.prog 47 s_cloneDS :=
  s_cloneD_ok laysC1 ((Tryz.prog.info? 3).get isInfo3) (.int .i64 0) (.int .i64) 8 (Option.some_get isInfo3).symm (by kernel_rfl) (by kernel_rfl) (by kernel_rfl) (by rfl) (by decide) Tryz.sizeOf3 Tryz.func47 rfl (by kernel_rfl)
theorem gok_below {w w' : World} (hb : Below w.heap.size w w') (h : gok (gblk.map fun n => w.heap[n]?)) : gok (gblk.map fun n => w'.heap[n]?) := by
  obtain ⟨⟨c0, t0, z0, m, e0, _⟩, ⟨t3, z3, e3⟩, ⟨c4, t4, z4, v4, e4, _⟩, c5, t5, z5, v5, e5, _⟩ := gok_parts h
  have e : (gblk.map fun n => w'.heap[n]?) = gblk.map fun n => w.heap[n]? := by
    have k : ∀ n o, w.heap[n]? = some o → w'.heap[n]? = w.heap[n]? := fun n o ho => hb.block n (Array.getElem?_eq_some_iff.1 ho).1
    unfold gblk
    simp only [List.map_cons, List.map_nil, k 0 _ e0, k 3 _ e3, k 4 _ e4, k 5 _ e5]
  rw [e]
  exact h
theorem atoi_below {w w' : World} {t : TypeId} (h : w' = w ∨ ∃ b, w' = Lib.bytesWorld w t b) : Below w.heap.size w w' := by
  rcases h with rfl | ⟨b, rfl⟩
  · exact Below.refl _ _
  · exact Lib.bytesWorld_below _ _ _
def parsed (s : ByteArray) (v : Int) (e : Ending) : Prop := (e = .returned (.tuple #[.int .i64 v, .bool true]) ∧ Lib.itoa v = s.toList) ∨ (e = .returned (.tuple #[.int .i64 0, .bool false]) ∧ Lib.itoa v ≠ s.toList)
set_option maxHeartbeats 1000000 in
theorem parse_ok (s : ByteArray) (v : Int) (hs : s.size ≤ 9223372036854775806) (h : Lib.atoiAll s.data.toList = .ok v) (w : World) (hg : gok (gblk.map fun n => w.heap[n]?)) :
    Calls Tryz.prog 60 #[.string s] w fun e w' => parsed s v e ∧ Below w.heap.size w w' := by
  obtain ⟨b0, b1⟩ := Lib.atoiAll_bounds h
  go_enter Tryz.func60, Tryz.ntmps60
  go_wp2_with (first
    | (go_at_call 72; refine (Any.strconv_Atoi_ok layS_n172 s hs v h _).mono ?_; rintro e w' ⟨rfl, hW⟩; have hB := atoi_below hW; have hG := gok_below hB hg; clear hW)
    | (go_at_call 58; refine (Any.strconv_Itoa layS_n171 v b0 b1 _ (gok_tab _ (by assumption))).mono ?_; rintro e w'' ⟨rfl, k, os, rfl⟩))
  · go_ret2
    rename_i hne
    exact ⟨.inr ⟨rfl, by simpa using hne⟩, hB.trans ((below_grow _ k os).mono hB.size)⟩
  · go_ret2
    rename_i hne
    exact ⟨.inl ⟨rfl, by simpa using hne⟩, hB.trans ((below_grow _ k os).mono hB.size)⟩
set_option maxHeartbeats 1000000 in
theorem parse_syn (s : ByteArray) (hs : s.size ≤ 281474976710656) (h : (match Lib.atoiAll s.data.toList with | .ok _ => 0 | .range => 1 | _ => 2) = 2) (w : World) (hg : gok (gblk.map fun n => w.heap[n]?)) :
    Calls Tryz.prog 60 #[.string s] w fun e w' => e = .returned (.tuple #[.int .i64 0, .bool false]) ∧ Below w.heap.size w w' := by
  obtain ⟨_, _, ⟨c4, t4, z4, v4, e4, f4, k4⟩, _⟩ := gok_parts hg
  have hv : w.cell? ⟨(renSy.g 15), 0, none⟩ = some v4 := by show w.cell? ⟨4, 0, none⟩ = _; simp [World.cell?, e4, f4]
  go_enter Tryz.func60, Tryz.ntmps60
  go_wp2_with (go_at_call 72; refine (Any.strconv_Atoi_syntax layS_n172 s hs (by cases hq : Lib.atoiAll s.data.toList <;> rw [hq] at h <;> first | rfl | exact absurd (show (0 : Nat) = 2 from h) (by decide) | exact absurd (show (1 : Nat) = 2 from h) (by decide)) v4 _ hv k4).mono ?_; rintro e w' ⟨N, rfl, hN, _, hB⟩)
  go_ret2
  exact ⟨rfl, hB⟩
set_option maxHeartbeats 1000000 in
theorem parse_rng (s : ByteArray) (hs : s.size ≤ 281474976710656) (h : Lib.atoiAll s.data.toList = .range) (w : World) (hg : gok (gblk.map fun n => w.heap[n]?)) :
    Calls Tryz.prog 60 #[.string s] w fun e w' => e = .returned (.tuple #[.int .i64 0, .bool false]) ∧ Below w.heap.size w w' := by
  obtain ⟨_, _, _, c4, t4, z4, v4, e4, f4, k4⟩ := gok_parts hg
  have hv : w.cell? ⟨(renSy.g 16), 0, none⟩ = some v4 := by show w.cell? ⟨5, 0, none⟩ = _; simp [World.cell?, e4, f4]
  go_enter Tryz.func60, Tryz.ntmps60
  go_wp2_with (go_at_call 72; refine (Any.strconv_Atoi_range layS_n172 s hs h v4 _ hv k4).mono ?_; rintro e w' ⟨N, rfl, hN, _, hB⟩)
  go_ret2
  exact ⟨rfl, hB⟩
theorem toList_loop (bs : ByteArray) : ∀ (m i : Nat) (r : List UInt8), i + m = bs.size → ByteArray.toList.loop bs i r = r.reverse ++ bs.data.toList.drop i := by
  intro m
  induction m with
  | zero =>
    intro i r h
    rw [ByteArray.toList.loop, if_neg (by omega), List.drop_of_length_le (by simp; omega), List.append_nil]
  | succ m ih =>
    intro i r h
    have hlt : i < bs.data.toList.length := by simp; omega
    rw [ByteArray.toList.loop, if_pos (by omega), ih (i + 1) _ (by omega), List.drop_eq_getElem_cons hlt]
    have e : bs.get! i = bs.data.toList[i] := by
      have h2 : i < bs.data.size := by simpa using hlt
      simp only [ByteArray.get!, Array.getElem_toList]
      exact getElem!_pos bs.data i h2
    rw [e]
    simp
theorem toList_data (bs : ByteArray) : bs.toList = bs.data.toList := by
  unfold ByteArray.toList
  rw [toList_loop bs bs.size 0 [] (by omega)]
  simp
/-- what a word's number is -/
noncomputable def parseB (s : ByteArray) : Int × Bool := match Lib.atoiAll s.data.toList with
  | .ok v => if Lib.itoa v = s.data.toList then (v, true) else (0, false)
  | _ => (0, false)
noncomputable def s_parseS : Den.Sum := ⟨[.raw], fun args objs κ => match args, objs with
  | [.d .str s], [] => if s.size ≤ 281474976710656 then κ [.d (.int .i64) (parseB s).1, .d .bool (parseB s).2] [] else none
  | _, _ => none⟩
theorem s_parseS_det : SumDet s_parseS := fun avs objs R κ => by
  show s_parseS.run avs objs (two κ) = (s_parseS.run avs objs (two some)).bind κ
  unfold s_parseS
  simp only
  split
  · split <;> rfl
  · rfl
theorem s_parseS_ok : SumOk Tryz.prog 60 s_parseS := by
  refine ⟨⟨_, _, Tryz.func60, rfl, by kernel_rfl⟩, ?_⟩
  intro R avs objs κ r h B g w vs hw hv
  unfold s_parseS at h
  simp only at h
  split at h
  case h_2 => cases h
  rename_i s
  split at h
  case isFalse => cases h
  rename_i hc
  match vs, hv with
  | [v1], ⟨h1, _⟩ =>
    rw [show v1 = .string s from h1]
    have fin : ∀ (w' : World), Below w.heap.size w w' → ∃ v, (Ending.returned (.tuple #[.int .i64 (parseB s).1, .bool (parseB s).2]) : Ending) = .returned v ∧ ∃ rs os g', κ rs os = some r ∧ WInv B g' (atL os) w' ∧ GE g g' ∧ VR g' (tupOf rs) v := fun w' hb =>
      ⟨_, rfl, _, _, g, h, hw.belowS hb, GE.refl g, ⟨_, rfl, rfl, rfl, trivial⟩⟩
    cases ha : Lib.atoiAll s.data.toList with
    | ok v =>
      refine (parse_ok s v (by omega) ha w hw.gok).mono ?_
      rintro e w' ⟨hp, hb⟩
      rcases hp with ⟨rfl, he⟩ | ⟨rfl, he⟩
      · rw [toList_data] at he
        have e : parseB s = (v, true) := by unfold parseB; rw [ha]; simp [he]
        have := fin w' hb
        rw [e] at this
        exact this
      · rw [toList_data] at he
        have e : parseB s = (0, false) := by unfold parseB; rw [ha]; simp [he]
        have := fin w' hb
        rw [e] at this
        exact this
    | range =>
      refine (parse_rng s hc ha w hw.gok).mono ?_
      rintro e w' ⟨rfl, hb⟩
      have e : parseB s = (0, false) := by unfold parseB; rw [ha]
      have := fin w' hb
      rw [e] at this
      exact this
    | _ =>
      refine (parse_syn s hc (by rw [ha]) w hw.gok).mono ?_
      rintro e w' ⟨rfl, hb⟩
      have e : parseB s = (0, false) := by unfold parseB; rw [ha]
      have := fin w' hb
      rw [e] at this
      exact this
noncomputable def law39_bare_E : Env := ⟨th, gam [], fun i => if i = 5 then ⟨[1, 2, 3, 4], [], [777777]⟩ else if i = 7 then ⟨[1, 2, 3, 4], [], [777777]⟩ else if i = 9 then ⟨[1, 2, 3, 4], [], [777777]⟩ else if i = 11 then ⟨[1, 2, 3, 4], [], [777777]⟩ else if i = 13 then ⟨[1, 2, 3, 4], [], [777777]⟩ else ⟨[], [], []⟩⟩
noncomputable def law39_bare.k (rs : List AV) (os : List Den.Obj) : Option (Int × Int × Int × Int × Int × Int × Int × (List (Int × (List Int))) × (List Int)) :=
  match rs, os with
  | [.agg [.d (.int .i64) r0, .d (.int .i64) r1, .d (.int .i64) r2, .d (.int .i64) r3, .d (.int .i64) r4, .d (.int .i64) r5, .d (.int .i64) r6, .d (.sl (.pair (.int .i64) (.sl (.int .u8)))) r7, .d (.sl (.int .i64)) r8]], [] => some (r0, r1, r2, r3, r4, r5, r6, r7, r8)
  | _, _ => none
noncomputable def law39_bare.s13 (aKind : Int) (aI : Int) (aK : Int) (aAt : Int) (aBy : Int) (aSpanLo : Int) (aSpanHi : Int) (aBag : List (Int × List Int)) (aDraws : List Int) (x10 : Int) (x11 : Int) (x12 : Int) (x13 : Int) (x14 : Int) (x15 : Int) : St := ⟨[.dead, .ptr 64 0, .ptr 65 0, .ptr 66 0, .d (.int .i64) (aKind), .dead, .dead, .dead, .dead, .dead, .dead, .dead, .dead, .dead, .dead, .dead, .dead, .dead, .dead, .dead, .dead, .dead, .dead, .dead, .dead, .dead, .dead, .dead, .dead, .dead, .dead, .dead, .dead, .dead, .dead, .dead, .dead, .dead, .dead, .dead, .dead, .dead, .dead, .dead, .dead, .dead, .dead, .dead, .dead, .dead, .dead, .dead, .dead, .dead, .dead, .dead, .dead, .dead, .dead, .dead, .dead, .dead, .dead, .dead, .dead, .dead, .dead, .dead, .dead, .dead], ofL [(64, .box [.d (.int .i64) (aKind), .d (.int .i64) (aI), .d (.int .i64) (aK), .d (.int .i64) (aAt), .d (.int .i64) (aBy), .d (.int .i64) (aSpanLo), .d (.int .i64) (aSpanHi), .d (.sl (.pair (.int .i64) (.sl (.int .u8)))) (aBag), .d (.sl (.int .i64)) (aDraws)]), (65, .box [.d (.int .i64) (0), .d (.int .i64) (0), .d (.int .i64) (0), .d (.int .i64) (0), .d (.int .i64) (0), .d (.int .i64) (0), .d (.int .i64) (0), .nilsl, .nilsl]), (66, .box [.d (.int .i64) (aKind), .d (.int .i64) x10, .d (.int .i64) x11, .d (.int .i64) x12, .d (.int .i64) x13, .d (.int .i64) x14, .d (.int .i64) x15, .nilsl, .nilsl])], 0⟩
noncomputable def law39_bare.b13 (aKind : Int) (aI : Int) (aK : Int) (aAt : Int) (aBy : Int) (aSpanLo : Int) (aSpanHi : Int) (aBag : List (Int × List Int)) (aDraws : List Int) (A13 : Int → Int → Int → Int → Int → Int → Option (Int × Int × Int × Int × Int × Int × Int × (List (Int × (List Int))) × (List Int))) (x10 : Int) (x11 : Int) (x12 : Int) (x13 : Int) (x14 : Int) (x15 : Int) : Option (Int × Int × Int × Int × Int × Int × Int × (List (Int × (List Int))) × (List Int)) :=
  (if (aKind == (1 : Int)) then (if (aKind == (3 : Int)) then some (aKind, x10, x11, x12, x13, x14, x15, aBag, aDraws) else some (aKind, x10, x11, x12, x13, x14, x15, aBag, ([] : List Int))) else (if (aKind == (11 : Int)) then (if (aKind == (3 : Int)) then some (aKind, x10, x11, x12, x13, x14, x15, aBag, aDraws) else some (aKind, x10, x11, x12, x13, x14, x15, aBag, ([] : List Int))) else (if (aKind == (3 : Int)) then some (aKind, x10, x11, x12, x13, x14, x15, ([] : List (Int × (List Int))), aDraws) else some (aKind, x10, x11, x12, x13, x14, x15, ([] : List (Int × (List Int))), ([] : List Int)))))
noncomputable def law39_bare.l13 (fuel : Nat) (aKind : Int) (aI : Int) (aK : Int) (aAt : Int) (aBy : Int) (aSpanLo : Int) (aSpanHi : Int) (aBag : List (Int × List Int)) (aDraws : List Int) : Nat → Int → Int → Int → Int → Int → Int → Option (Int × Int × Int × Int × Int × Int × Int × (List (Int × (List Int))) × (List Int))
  | 0, _, _, _, _, _, _ => none
  | k + 1, x10, x11, x12, x13, x14, x15 => law39_bare.b13 aKind aI aK aAt aBy aSpanLo aSpanHi aBag aDraws (law39_bare.l13 fuel aKind aI aK aAt aBy aSpanLo aSpanHi aBag aDraws k) x10 x11 x12 x13 x14 x15
noncomputable def law39_bare.s11 (aKind : Int) (aI : Int) (aK : Int) (aAt : Int) (aBy : Int) (aSpanLo : Int) (aSpanHi : Int) (aBag : List (Int × List Int)) (aDraws : List Int) (x6 : Int) (x7 : Int) (x8 : Int) (x9 : Int) : St := ⟨[.dead, .ptr 64 0, .ptr 65 0, .ptr 66 0, .d (.int .i64) (aKind), .dead, .dead, .dead, .dead, .dead, .dead, .dead, .dead, .dead, .dead, .dead, .dead, .dead, .dead, .dead, .dead, .dead, .dead, .dead, .dead, .dead, .dead, .dead, .dead, .dead, .dead, .dead, .dead, .dead, .dead, .dead, .dead, .dead, .dead, .dead, .dead, .dead, .dead, .dead, .dead, .dead, .dead, .dead, .dead, .dead, .dead, .dead, .dead, .dead, .dead, .dead, .dead, .dead, .dead, .dead, .dead, .dead, .dead, .dead, .dead, .dead, .dead, .dead, .dead, .dead], ofL [(64, .box [.d (.int .i64) (aKind), .d (.int .i64) (aI), .d (.int .i64) (aK), .d (.int .i64) (aAt), .d (.int .i64) (aBy), .d (.int .i64) (aSpanLo), .d (.int .i64) (aSpanHi), .d (.sl (.pair (.int .i64) (.sl (.int .u8)))) (aBag), .d (.sl (.int .i64)) (aDraws)]), (65, .box [.d (.int .i64) (0), .d (.int .i64) (0), .d (.int .i64) (0), .d (.int .i64) (0), .d (.int .i64) (0), .d (.int .i64) (0), .d (.int .i64) (0), .nilsl, .nilsl]), (66, .box [.d (.int .i64) (aKind), .d (.int .i64) x6, .d (.int .i64) x7, .d (.int .i64) x8, .d (.int .i64) x9, .d (.int .i64) (0), .d (.int .i64) (0), .nilsl, .nilsl])], 0⟩
noncomputable def law39_bare.b11 (aKind : Int) (aI : Int) (aK : Int) (aAt : Int) (aBy : Int) (aSpanLo : Int) (aSpanHi : Int) (aBag : List (Int × List Int)) (aDraws : List Int) (A11 : Int → Int → Int → Int → Option (Int × Int × Int × Int × Int × Int × Int × (List (Int × (List Int))) × (List Int))) (E13 : Int → Int → Int → Int → Int → Int → Option (Int × Int × Int × Int × Int × Int × Int × (List (Int × (List Int))) × (List Int))) (x6 : Int) (x7 : Int) (x8 : Int) (x9 : Int) : Option (Int × Int × Int × Int × Int × Int × Int × (List (Int × (List Int))) × (List Int)) :=
  (if (aKind == (1 : Int)) then E13 x6 x7 x8 x9 aSpanLo aSpanHi else E13 x6 x7 x8 x9 0 0)
noncomputable def law39_bare.l11 (fuel : Nat) (aKind : Int) (aI : Int) (aK : Int) (aAt : Int) (aBy : Int) (aSpanLo : Int) (aSpanHi : Int) (aBag : List (Int × List Int)) (aDraws : List Int) : Nat → Int → Int → Int → Int → Option (Int × Int × Int × Int × Int × Int × Int × (List (Int × (List Int))) × (List Int))
  | 0, _, _, _, _ => none
  | k + 1, x6, x7, x8, x9 => law39_bare.b11 aKind aI aK aAt aBy aSpanLo aSpanHi aBag aDraws (law39_bare.l11 fuel aKind aI aK aAt aBy aSpanLo aSpanHi aBag aDraws k) (law39_bare.l13 fuel aKind aI aK aAt aBy aSpanLo aSpanHi aBag aDraws fuel) x6 x7 x8 x9
noncomputable def law39_bare.s9 (aKind : Int) (aI : Int) (aK : Int) (aAt : Int) (aBy : Int) (aSpanLo : Int) (aSpanHi : Int) (aBag : List (Int × List Int)) (aDraws : List Int) (x3 : Int) (x4 : Int) (x5 : Int) : St := ⟨[.dead, .ptr 64 0, .ptr 65 0, .ptr 66 0, .d (.int .i64) (aKind), .dead, .dead, .dead, .dead, .dead, .dead, .dead, .dead, .dead, .dead, .dead, .dead, .dead, .dead, .dead, .dead, .dead, .dead, .dead, .dead, .dead, .dead, .dead, .dead, .dead, .dead, .dead, .dead, .dead, .dead, .dead, .dead, .dead, .dead, .dead, .dead, .dead, .dead, .dead, .dead, .dead, .dead, .dead, .dead, .dead, .dead, .dead, .dead, .dead, .dead, .dead, .dead, .dead, .dead, .dead, .dead, .dead, .dead, .dead, .dead, .dead, .dead, .dead, .dead, .dead], ofL [(64, .box [.d (.int .i64) (aKind), .d (.int .i64) (aI), .d (.int .i64) (aK), .d (.int .i64) (aAt), .d (.int .i64) (aBy), .d (.int .i64) (aSpanLo), .d (.int .i64) (aSpanHi), .d (.sl (.pair (.int .i64) (.sl (.int .u8)))) (aBag), .d (.sl (.int .i64)) (aDraws)]), (65, .box [.d (.int .i64) (0), .d (.int .i64) (0), .d (.int .i64) (0), .d (.int .i64) (0), .d (.int .i64) (0), .d (.int .i64) (0), .d (.int .i64) (0), .nilsl, .nilsl]), (66, .box [.d (.int .i64) (aKind), .d (.int .i64) x3, .d (.int .i64) x4, .d (.int .i64) x5, .d (.int .i64) (0), .d (.int .i64) (0), .d (.int .i64) (0), .nilsl, .nilsl])], 0⟩
noncomputable def law39_bare.b9 (aKind : Int) (aI : Int) (aK : Int) (aAt : Int) (aBy : Int) (aSpanLo : Int) (aSpanHi : Int) (aBag : List (Int × List Int)) (aDraws : List Int) (A9 : Int → Int → Int → Option (Int × Int × Int × Int × Int × Int × Int × (List (Int × (List Int))) × (List Int))) (E11 : Int → Int → Int → Int → Option (Int × Int × Int × Int × Int × Int × Int × (List (Int × (List Int))) × (List Int))) (x3 : Int) (x4 : Int) (x5 : Int) : Option (Int × Int × Int × Int × Int × Int × Int × (List (Int × (List Int))) × (List Int)) :=
  (if (aKind == (7 : Int)) then E11 x3 x4 x5 aBy else E11 x3 x4 x5 0)
noncomputable def law39_bare.l9 (fuel : Nat) (aKind : Int) (aI : Int) (aK : Int) (aAt : Int) (aBy : Int) (aSpanLo : Int) (aSpanHi : Int) (aBag : List (Int × List Int)) (aDraws : List Int) : Nat → Int → Int → Int → Option (Int × Int × Int × Int × Int × Int × Int × (List (Int × (List Int))) × (List Int))
  | 0, _, _, _ => none
  | k + 1, x3, x4, x5 => law39_bare.b9 aKind aI aK aAt aBy aSpanLo aSpanHi aBag aDraws (law39_bare.l9 fuel aKind aI aK aAt aBy aSpanLo aSpanHi aBag aDraws k) (law39_bare.l11 fuel aKind aI aK aAt aBy aSpanLo aSpanHi aBag aDraws fuel) x3 x4 x5
noncomputable def law39_bare.s7 (aKind : Int) (aI : Int) (aK : Int) (aAt : Int) (aBy : Int) (aSpanLo : Int) (aSpanHi : Int) (aBag : List (Int × List Int)) (aDraws : List Int) (x1 : Int) (x2 : Int) : St := ⟨[.dead, .ptr 64 0, .ptr 65 0, .ptr 66 0, .d (.int .i64) (aKind), .dead, .dead, .dead, .dead, .dead, .dead, .dead, .dead, .dead, .dead, .dead, .dead, .dead, .dead, .dead, .dead, .dead, .dead, .dead, .dead, .dead, .dead, .dead, .dead, .dead, .dead, .dead, .dead, .dead, .dead, .dead, .dead, .dead, .dead, .dead, .dead, .dead, .dead, .dead, .dead, .dead, .dead, .dead, .dead, .dead, .dead, .dead, .dead, .dead, .dead, .dead, .dead, .dead, .dead, .dead, .dead, .dead, .dead, .dead, .dead, .dead, .dead, .dead, .dead, .dead], ofL [(64, .box [.d (.int .i64) (aKind), .d (.int .i64) (aI), .d (.int .i64) (aK), .d (.int .i64) (aAt), .d (.int .i64) (aBy), .d (.int .i64) (aSpanLo), .d (.int .i64) (aSpanHi), .d (.sl (.pair (.int .i64) (.sl (.int .u8)))) (aBag), .d (.sl (.int .i64)) (aDraws)]), (65, .box [.d (.int .i64) (0), .d (.int .i64) (0), .d (.int .i64) (0), .d (.int .i64) (0), .d (.int .i64) (0), .d (.int .i64) (0), .d (.int .i64) (0), .nilsl, .nilsl]), (66, .box [.d (.int .i64) (aKind), .d (.int .i64) x1, .d (.int .i64) x2, .d (.int .i64) (0), .d (.int .i64) (0), .d (.int .i64) (0), .d (.int .i64) (0), .nilsl, .nilsl])], 0⟩
noncomputable def law39_bare.b7 (aKind : Int) (aI : Int) (aK : Int) (aAt : Int) (aBy : Int) (aSpanLo : Int) (aSpanHi : Int) (aBag : List (Int × List Int)) (aDraws : List Int) (A7 : Int → Int → Option (Int × Int × Int × Int × Int × Int × Int × (List (Int × (List Int))) × (List Int))) (E9 : Int → Int → Int → Option (Int × Int × Int × Int × Int × Int × Int × (List (Int × (List Int))) × (List Int))) (x1 : Int) (x2 : Int) : Option (Int × Int × Int × Int × Int × Int × Int × (List (Int × (List Int))) × (List Int)) :=
  (if (aKind == (7 : Int)) then E9 x1 x2 aAt else (if (aKind == (8 : Int)) then E9 x1 x2 aAt else E9 x1 x2 0))
noncomputable def law39_bare.l7 (fuel : Nat) (aKind : Int) (aI : Int) (aK : Int) (aAt : Int) (aBy : Int) (aSpanLo : Int) (aSpanHi : Int) (aBag : List (Int × List Int)) (aDraws : List Int) : Nat → Int → Int → Option (Int × Int × Int × Int × Int × Int × Int × (List (Int × (List Int))) × (List Int))
  | 0, _, _ => none
  | k + 1, x1, x2 => law39_bare.b7 aKind aI aK aAt aBy aSpanLo aSpanHi aBag aDraws (law39_bare.l7 fuel aKind aI aK aAt aBy aSpanLo aSpanHi aBag aDraws k) (law39_bare.l9 fuel aKind aI aK aAt aBy aSpanLo aSpanHi aBag aDraws fuel) x1 x2
noncomputable def law39_bare.s5 (aKind : Int) (aI : Int) (aK : Int) (aAt : Int) (aBy : Int) (aSpanLo : Int) (aSpanHi : Int) (aBag : List (Int × List Int)) (aDraws : List Int) (x0 : Int) : St := ⟨[.dead, .ptr 64 0, .ptr 65 0, .ptr 66 0, .d (.int .i64) (aKind), .dead, .dead, .dead, .dead, .dead, .dead, .dead, .dead, .dead, .dead, .dead, .dead, .dead, .dead, .dead, .dead, .dead, .dead, .dead, .dead, .dead, .dead, .dead, .dead, .dead, .dead, .dead, .dead, .dead, .dead, .dead, .dead, .dead, .dead, .dead, .dead, .dead, .dead, .dead, .dead, .dead, .dead, .dead, .dead, .dead, .dead, .dead, .dead, .dead, .dead, .dead, .dead, .dead, .dead, .dead, .dead, .dead, .dead, .dead, .dead, .dead, .dead, .dead, .dead, .dead], ofL [(64, .box [.d (.int .i64) (aKind), .d (.int .i64) (aI), .d (.int .i64) (aK), .d (.int .i64) (aAt), .d (.int .i64) (aBy), .d (.int .i64) (aSpanLo), .d (.int .i64) (aSpanHi), .d (.sl (.pair (.int .i64) (.sl (.int .u8)))) (aBag), .d (.sl (.int .i64)) (aDraws)]), (65, .box [.d (.int .i64) (0), .d (.int .i64) (0), .d (.int .i64) (0), .d (.int .i64) (0), .d (.int .i64) (0), .d (.int .i64) (0), .d (.int .i64) (0), .nilsl, .nilsl]), (66, .box [.d (.int .i64) (aKind), .d (.int .i64) x0, .d (.int .i64) (0), .d (.int .i64) (0), .d (.int .i64) (0), .d (.int .i64) (0), .d (.int .i64) (0), .nilsl, .nilsl])], 0⟩
noncomputable def law39_bare.b5 (aKind : Int) (aI : Int) (aK : Int) (aAt : Int) (aBy : Int) (aSpanLo : Int) (aSpanHi : Int) (aBag : List (Int × List Int)) (aDraws : List Int) (A5 : Int → Option (Int × Int × Int × Int × Int × Int × Int × (List (Int × (List Int))) × (List Int))) (E7 : Int → Int → Option (Int × Int × Int × Int × Int × Int × Int × (List (Int × (List Int))) × (List Int))) (x0 : Int) : Option (Int × Int × Int × Int × Int × Int × Int × (List (Int × (List Int))) × (List Int)) :=
  (if (decide (aKind ≥ (4 : Int))) then (if (decide (aKind ≤ (9 : Int))) then E7 x0 aK else E7 x0 0) else E7 x0 0)
noncomputable def law39_bare.l5 (fuel : Nat) (aKind : Int) (aI : Int) (aK : Int) (aAt : Int) (aBy : Int) (aSpanLo : Int) (aSpanHi : Int) (aBag : List (Int × List Int)) (aDraws : List Int) : Nat → Int → Option (Int × Int × Int × Int × Int × Int × Int × (List (Int × (List Int))) × (List Int))
  | 0, _ => none
  | k + 1, x0 => law39_bare.b5 aKind aI aK aAt aBy aSpanLo aSpanHi aBag aDraws (law39_bare.l5 fuel aKind aI aK aAt aBy aSpanLo aSpanHi aBag aDraws k) (law39_bare.l7 fuel aKind aI aK aAt aBy aSpanLo aSpanHi aBag aDraws fuel) x0
noncomputable def law39_bare.b (aKind : Int) (aI : Int) (aK : Int) (aAt : Int) (aBy : Int) (aSpanLo : Int) (aSpanHi : Int) (aBag : List (Int × List Int)) (aDraws : List Int) (E5 : Int → Option (Int × Int × Int × Int × Int × Int × Int × (List (Int × (List Int))) × (List Int))) : Option (Int × Int × Int × Int × Int × Int × Int × (List (Int × (List Int))) × (List Int)) :=
  (if (decide (aKind ≥ (1 : Int))) then (if (decide (aKind ≤ (3 : Int))) then E5 aI else (if (decide (aKind ≥ (9 : Int))) then (if (decide (aKind ≤ (11 : Int))) then E5 aI else E5 0) else E5 0)) else (if (decide (aKind ≥ (9 : Int))) then (if (decide (aKind ≤ (11 : Int))) then E5 aI else E5 0) else E5 0))
noncomputable def law39_bare.f (fuel : Nat) (aKind : Int) (aI : Int) (aK : Int) (aAt : Int) (aBy : Int) (aSpanLo : Int) (aSpanHi : Int) (aBag : List (Int × List Int)) (aDraws : List Int) : Option (Int × Int × Int × Int × Int × Int × Int × (List (Int × (List Int))) × (List Int)) := law39_bare.b aKind aI aK aAt aBy aSpanLo aSpanHi aBag aDraws (law39_bare.l5 fuel aKind aI aK aAt aBy aSpanLo aSpanHi aBag aDraws fuel)
theorem law39_bare.l13_eq (fuel : Nat) (aKind : Int) (aI : Int) (aK : Int) (aAt : Int) (aBy : Int) (aSpanLo : Int) (aSpanHi : Int) (aBag : List (Int × List Int)) (aDraws : List Int) : ∀ (k : Nat) (x10 : Int) (x11 : Int) (x12 : Int) (x13 : Int) (x14 : Int) (x15 : Int), lp law39_bare_E fuel Tryz.f10 [.dat (.pair (.int .i64) (.pair (.int .i64) (.pair (.int .i64) (.pair (.int .i64) (.pair (.int .i64) (.pair (.pair (.int .i64) (.int .i64)) (.pair (.sl (.pair (.int .i64) (.sl (.int .u8)))) (.sl (.int .i64))))))))) true] 0 law39_bare.k 13 [] k (law39_bare.s13 aKind aI aK aAt aBy aSpanLo aSpanHi aBag aDraws x10 x11 x12 x13 x14 x15) = law39_bare.l13 fuel aKind aI aK aAt aBy aSpanLo aSpanHi aBag aDraws k x10 x11 x12 x13 x14 x15 := by
  intro k
  induction k with
  | zero => intro x10 x11 x12 x13 x14 x15; rfl
  | succ k ih =>
    intro x10 x11 x12 x13 x14 x15
    have h : lp law39_bare_E fuel Tryz.f10 [.dat (.pair (.int .i64) (.pair (.int .i64) (.pair (.int .i64) (.pair (.int .i64) (.pair (.int .i64) (.pair (.pair (.int .i64) (.int .i64)) (.pair (.sl (.pair (.int .i64) (.sl (.int .u8)))) (.sl (.int .i64))))))))) true] 0 law39_bare.k 13 [] (k + 1) (law39_bare.s13 aKind aI aK aAt aBy aSpanLo aSpanHi aBag aDraws x10 x11 x12 x13 x14 x15) = law39_bare.b13 aKind aI aK aAt aBy aSpanLo aSpanHi aBag aDraws (fun x10 x11 x12 x13 x14 x15 => lp law39_bare_E fuel Tryz.f10 [.dat (.pair (.int .i64) (.pair (.int .i64) (.pair (.int .i64) (.pair (.int .i64) (.pair (.int .i64) (.pair (.pair (.int .i64) (.int .i64)) (.pair (.sl (.pair (.int .i64) (.sl (.int .u8)))) (.sl (.int .i64))))))))) true] 0 law39_bare.k 13 [] k (law39_bare.s13 aKind aI aK aAt aBy aSpanLo aSpanHi aBag aDraws x10 x11 x12 x13 x14 x15)) x10 x11 x12 x13 x14 x15 := by kernel_rfl
    rw [h]
    have e13 : (fun x10 x11 x12 x13 x14 x15 => lp law39_bare_E fuel Tryz.f10 [.dat (.pair (.int .i64) (.pair (.int .i64) (.pair (.int .i64) (.pair (.int .i64) (.pair (.int .i64) (.pair (.pair (.int .i64) (.int .i64)) (.pair (.sl (.pair (.int .i64) (.sl (.int .u8)))) (.sl (.int .i64))))))))) true] 0 law39_bare.k 13 [] k (law39_bare.s13 aKind aI aK aAt aBy aSpanLo aSpanHi aBag aDraws x10 x11 x12 x13 x14 x15)) = law39_bare.l13 fuel aKind aI aK aAt aBy aSpanLo aSpanHi aBag aDraws k := (funext fun x10 => (funext fun x11 => (funext fun x12 => (funext fun x13 => (funext fun x14 => (funext fun x15 => ih x10 x11 x12 x13 x14 x15))))))
    rw [e13]
    rfl
theorem law39_bare.l11_eq (fuel : Nat) (aKind : Int) (aI : Int) (aK : Int) (aAt : Int) (aBy : Int) (aSpanLo : Int) (aSpanHi : Int) (aBag : List (Int × List Int)) (aDraws : List Int) : ∀ (k : Nat) (x6 : Int) (x7 : Int) (x8 : Int) (x9 : Int), lp law39_bare_E fuel Tryz.f10 [.dat (.pair (.int .i64) (.pair (.int .i64) (.pair (.int .i64) (.pair (.int .i64) (.pair (.int .i64) (.pair (.pair (.int .i64) (.int .i64)) (.pair (.sl (.pair (.int .i64) (.sl (.int .u8)))) (.sl (.int .i64))))))))) true] 0 law39_bare.k 11 [] k (law39_bare.s11 aKind aI aK aAt aBy aSpanLo aSpanHi aBag aDraws x6 x7 x8 x9) = law39_bare.l11 fuel aKind aI aK aAt aBy aSpanLo aSpanHi aBag aDraws k x6 x7 x8 x9 := by
  intro k
  induction k with
  | zero => intro x6 x7 x8 x9; rfl
  | succ k ih =>
    intro x6 x7 x8 x9
    have h : lp law39_bare_E fuel Tryz.f10 [.dat (.pair (.int .i64) (.pair (.int .i64) (.pair (.int .i64) (.pair (.int .i64) (.pair (.int .i64) (.pair (.pair (.int .i64) (.int .i64)) (.pair (.sl (.pair (.int .i64) (.sl (.int .u8)))) (.sl (.int .i64))))))))) true] 0 law39_bare.k 11 [] (k + 1) (law39_bare.s11 aKind aI aK aAt aBy aSpanLo aSpanHi aBag aDraws x6 x7 x8 x9) = law39_bare.b11 aKind aI aK aAt aBy aSpanLo aSpanHi aBag aDraws (fun x6 x7 x8 x9 => lp law39_bare_E fuel Tryz.f10 [.dat (.pair (.int .i64) (.pair (.int .i64) (.pair (.int .i64) (.pair (.int .i64) (.pair (.int .i64) (.pair (.pair (.int .i64) (.int .i64)) (.pair (.sl (.pair (.int .i64) (.sl (.int .u8)))) (.sl (.int .i64))))))))) true] 0 law39_bare.k 11 [] k (law39_bare.s11 aKind aI aK aAt aBy aSpanLo aSpanHi aBag aDraws x6 x7 x8 x9)) (fun x10 x11 x12 x13 x14 x15 => lp law39_bare_E fuel Tryz.f10 [.dat (.pair (.int .i64) (.pair (.int .i64) (.pair (.int .i64) (.pair (.int .i64) (.pair (.int .i64) (.pair (.pair (.int .i64) (.int .i64)) (.pair (.sl (.pair (.int .i64) (.sl (.int .u8)))) (.sl (.int .i64))))))))) true] 0 law39_bare.k 13 [] fuel (law39_bare.s13 aKind aI aK aAt aBy aSpanLo aSpanHi aBag aDraws x10 x11 x12 x13 x14 x15)) x6 x7 x8 x9 := by kernel_rfl
    rw [h]
    have e11 : (fun x6 x7 x8 x9 => lp law39_bare_E fuel Tryz.f10 [.dat (.pair (.int .i64) (.pair (.int .i64) (.pair (.int .i64) (.pair (.int .i64) (.pair (.int .i64) (.pair (.pair (.int .i64) (.int .i64)) (.pair (.sl (.pair (.int .i64) (.sl (.int .u8)))) (.sl (.int .i64))))))))) true] 0 law39_bare.k 11 [] k (law39_bare.s11 aKind aI aK aAt aBy aSpanLo aSpanHi aBag aDraws x6 x7 x8 x9)) = law39_bare.l11 fuel aKind aI aK aAt aBy aSpanLo aSpanHi aBag aDraws k := (funext fun x6 => (funext fun x7 => (funext fun x8 => (funext fun x9 => ih x6 x7 x8 x9))))
    rw [e11]
    have e13 : (fun x10 x11 x12 x13 x14 x15 => lp law39_bare_E fuel Tryz.f10 [.dat (.pair (.int .i64) (.pair (.int .i64) (.pair (.int .i64) (.pair (.int .i64) (.pair (.int .i64) (.pair (.pair (.int .i64) (.int .i64)) (.pair (.sl (.pair (.int .i64) (.sl (.int .u8)))) (.sl (.int .i64))))))))) true] 0 law39_bare.k 13 [] fuel (law39_bare.s13 aKind aI aK aAt aBy aSpanLo aSpanHi aBag aDraws x10 x11 x12 x13 x14 x15)) = law39_bare.l13 fuel aKind aI aK aAt aBy aSpanLo aSpanHi aBag aDraws fuel := (funext fun x10 => (funext fun x11 => (funext fun x12 => (funext fun x13 => (funext fun x14 => (funext fun x15 => law39_bare.l13_eq fuel aKind aI aK aAt aBy aSpanLo aSpanHi aBag aDraws fuel x10 x11 x12 x13 x14 x15))))))
    rw [e13]
    rfl
theorem law39_bare.l9_eq (fuel : Nat) (aKind : Int) (aI : Int) (aK : Int) (aAt : Int) (aBy : Int) (aSpanLo : Int) (aSpanHi : Int) (aBag : List (Int × List Int)) (aDraws : List Int) : ∀ (k : Nat) (x3 : Int) (x4 : Int) (x5 : Int), lp law39_bare_E fuel Tryz.f10 [.dat (.pair (.int .i64) (.pair (.int .i64) (.pair (.int .i64) (.pair (.int .i64) (.pair (.int .i64) (.pair (.pair (.int .i64) (.int .i64)) (.pair (.sl (.pair (.int .i64) (.sl (.int .u8)))) (.sl (.int .i64))))))))) true] 0 law39_bare.k 9 [] k (law39_bare.s9 aKind aI aK aAt aBy aSpanLo aSpanHi aBag aDraws x3 x4 x5) = law39_bare.l9 fuel aKind aI aK aAt aBy aSpanLo aSpanHi aBag aDraws k x3 x4 x5 := by
  intro k
  induction k with
  | zero => intro x3 x4 x5; rfl
  | succ k ih =>
    intro x3 x4 x5
    have h : lp law39_bare_E fuel Tryz.f10 [.dat (.pair (.int .i64) (.pair (.int .i64) (.pair (.int .i64) (.pair (.int .i64) (.pair (.int .i64) (.pair (.pair (.int .i64) (.int .i64)) (.pair (.sl (.pair (.int .i64) (.sl (.int .u8)))) (.sl (.int .i64))))))))) true] 0 law39_bare.k 9 [] (k + 1) (law39_bare.s9 aKind aI aK aAt aBy aSpanLo aSpanHi aBag aDraws x3 x4 x5) = law39_bare.b9 aKind aI aK aAt aBy aSpanLo aSpanHi aBag aDraws (fun x3 x4 x5 => lp law39_bare_E fuel Tryz.f10 [.dat (.pair (.int .i64) (.pair (.int .i64) (.pair (.int .i64) (.pair (.int .i64) (.pair (.int .i64) (.pair (.pair (.int .i64) (.int .i64)) (.pair (.sl (.pair (.int .i64) (.sl (.int .u8)))) (.sl (.int .i64))))))))) true] 0 law39_bare.k 9 [] k (law39_bare.s9 aKind aI aK aAt aBy aSpanLo aSpanHi aBag aDraws x3 x4 x5)) (fun x6 x7 x8 x9 => lp law39_bare_E fuel Tryz.f10 [.dat (.pair (.int .i64) (.pair (.int .i64) (.pair (.int .i64) (.pair (.int .i64) (.pair (.int .i64) (.pair (.pair (.int .i64) (.int .i64)) (.pair (.sl (.pair (.int .i64) (.sl (.int .u8)))) (.sl (.int .i64))))))))) true] 0 law39_bare.k 11 [] fuel (law39_bare.s11 aKind aI aK aAt aBy aSpanLo aSpanHi aBag aDraws x6 x7 x8 x9)) x3 x4 x5 := by kernel_rfl
    rw [h]
    have e9 : (fun x3 x4 x5 => lp law39_bare_E fuel Tryz.f10 [.dat (.pair (.int .i64) (.pair (.int .i64) (.pair (.int .i64) (.pair (.int .i64) (.pair (.int .i64) (.pair (.pair (.int .i64) (.int .i64)) (.pair (.sl (.pair (.int .i64) (.sl (.int .u8)))) (.sl (.int .i64))))))))) true] 0 law39_bare.k 9 [] k (law39_bare.s9 aKind aI aK aAt aBy aSpanLo aSpanHi aBag aDraws x3 x4 x5)) = law39_bare.l9 fuel aKind aI aK aAt aBy aSpanLo aSpanHi aBag aDraws k := (funext fun x3 => (funext fun x4 => (funext fun x5 => ih x3 x4 x5)))
    rw [e9]
    have e11 : (fun x6 x7 x8 x9 => lp law39_bare_E fuel Tryz.f10 [.dat (.pair (.int .i64) (.pair (.int .i64) (.pair (.int .i64) (.pair (.int .i64) (.pair (.int .i64) (.pair (.pair (.int .i64) (.int .i64)) (.pair (.sl (.pair (.int .i64) (.sl (.int .u8)))) (.sl (.int .i64))))))))) true] 0 law39_bare.k 11 [] fuel (law39_bare.s11 aKind aI aK aAt aBy aSpanLo aSpanHi aBag aDraws x6 x7 x8 x9)) = law39_bare.l11 fuel aKind aI aK aAt aBy aSpanLo aSpanHi aBag aDraws fuel := (funext fun x6 => (funext fun x7 => (funext fun x8 => (funext fun x9 => law39_bare.l11_eq fuel aKind aI aK aAt aBy aSpanLo aSpanHi aBag aDraws fuel x6 x7 x8 x9))))
    rw [e11]
    rfl
theorem law39_bare.l7_eq (fuel : Nat) (aKind : Int) (aI : Int) (aK : Int) (aAt : Int) (aBy : Int) (aSpanLo : Int) (aSpanHi : Int) (aBag : List (Int × List Int)) (aDraws : List Int) : ∀ (k : Nat) (x1 : Int) (x2 : Int), lp law39_bare_E fuel Tryz.f10 [.dat (.pair (.int .i64) (.pair (.int .i64) (.pair (.int .i64) (.pair (.int .i64) (.pair (.int .i64) (.pair (.pair (.int .i64) (.int .i64)) (.pair (.sl (.pair (.int .i64) (.sl (.int .u8)))) (.sl (.int .i64))))))))) true] 0 law39_bare.k 7 [] k (law39_bare.s7 aKind aI aK aAt aBy aSpanLo aSpanHi aBag aDraws x1 x2) = law39_bare.l7 fuel aKind aI aK aAt aBy aSpanLo aSpanHi aBag aDraws k x1 x2 := by
  intro k
  induction k with
  | zero => intro x1 x2; rfl
  | succ k ih =>
    intro x1 x2
    have h : lp law39_bare_E fuel Tryz.f10 [.dat (.pair (.int .i64) (.pair (.int .i64) (.pair (.int .i64) (.pair (.int .i64) (.pair (.int .i64) (.pair (.pair (.int .i64) (.int .i64)) (.pair (.sl (.pair (.int .i64) (.sl (.int .u8)))) (.sl (.int .i64))))))))) true] 0 law39_bare.k 7 [] (k + 1) (law39_bare.s7 aKind aI aK aAt aBy aSpanLo aSpanHi aBag aDraws x1 x2) = law39_bare.b7 aKind aI aK aAt aBy aSpanLo aSpanHi aBag aDraws (fun x1 x2 => lp law39_bare_E fuel Tryz.f10 [.dat (.pair (.int .i64) (.pair (.int .i64) (.pair (.int .i64) (.pair (.int .i64) (.pair (.int .i64) (.pair (.pair (.int .i64) (.int .i64)) (.pair (.sl (.pair (.int .i64) (.sl (.int .u8)))) (.sl (.int .i64))))))))) true] 0 law39_bare.k 7 [] k (law39_bare.s7 aKind aI aK aAt aBy aSpanLo aSpanHi aBag aDraws x1 x2)) (fun x3 x4 x5 => lp law39_bare_E fuel Tryz.f10 [.dat (.pair (.int .i64) (.pair (.int .i64) (.pair (.int .i64) (.pair (.int .i64) (.pair (.int .i64) (.pair (.pair (.int .i64) (.int .i64)) (.pair (.sl (.pair (.int .i64) (.sl (.int .u8)))) (.sl (.int .i64))))))))) true] 0 law39_bare.k 9 [] fuel (law39_bare.s9 aKind aI aK aAt aBy aSpanLo aSpanHi aBag aDraws x3 x4 x5)) x1 x2 := by kernel_rfl
    rw [h]
    have e7 : (fun x1 x2 => lp law39_bare_E fuel Tryz.f10 [.dat (.pair (.int .i64) (.pair (.int .i64) (.pair (.int .i64) (.pair (.int .i64) (.pair (.int .i64) (.pair (.pair (.int .i64) (.int .i64)) (.pair (.sl (.pair (.int .i64) (.sl (.int .u8)))) (.sl (.int .i64))))))))) true] 0 law39_bare.k 7 [] k (law39_bare.s7 aKind aI aK aAt aBy aSpanLo aSpanHi aBag aDraws x1 x2)) = law39_bare.l7 fuel aKind aI aK aAt aBy aSpanLo aSpanHi aBag aDraws k := (funext fun x1 => (funext fun x2 => ih x1 x2))
    rw [e7]
    have e9 : (fun x3 x4 x5 => lp law39_bare_E fuel Tryz.f10 [.dat (.pair (.int .i64) (.pair (.int .i64) (.pair (.int .i64) (.pair (.int .i64) (.pair (.int .i64) (.pair (.pair (.int .i64) (.int .i64)) (.pair (.sl (.pair (.int .i64) (.sl (.int .u8)))) (.sl (.int .i64))))))))) true] 0 law39_bare.k 9 [] fuel (law39_bare.s9 aKind aI aK aAt aBy aSpanLo aSpanHi aBag aDraws x3 x4 x5)) = law39_bare.l9 fuel aKind aI aK aAt aBy aSpanLo aSpanHi aBag aDraws fuel := (funext fun x3 => (funext fun x4 => (funext fun x5 => law39_bare.l9_eq fuel aKind aI aK aAt aBy aSpanLo aSpanHi aBag aDraws fuel x3 x4 x5)))
    rw [e9]
    rfl
theorem law39_bare.l5_eq (fuel : Nat) (aKind : Int) (aI : Int) (aK : Int) (aAt : Int) (aBy : Int) (aSpanLo : Int) (aSpanHi : Int) (aBag : List (Int × List Int)) (aDraws : List Int) : ∀ (k : Nat) (x0 : Int), lp law39_bare_E fuel Tryz.f10 [.dat (.pair (.int .i64) (.pair (.int .i64) (.pair (.int .i64) (.pair (.int .i64) (.pair (.int .i64) (.pair (.pair (.int .i64) (.int .i64)) (.pair (.sl (.pair (.int .i64) (.sl (.int .u8)))) (.sl (.int .i64))))))))) true] 0 law39_bare.k 5 [] k (law39_bare.s5 aKind aI aK aAt aBy aSpanLo aSpanHi aBag aDraws x0) = law39_bare.l5 fuel aKind aI aK aAt aBy aSpanLo aSpanHi aBag aDraws k x0 := by
  intro k
  induction k with
  | zero => intro x0; rfl
  | succ k ih =>
    intro x0
    have h : lp law39_bare_E fuel Tryz.f10 [.dat (.pair (.int .i64) (.pair (.int .i64) (.pair (.int .i64) (.pair (.int .i64) (.pair (.int .i64) (.pair (.pair (.int .i64) (.int .i64)) (.pair (.sl (.pair (.int .i64) (.sl (.int .u8)))) (.sl (.int .i64))))))))) true] 0 law39_bare.k 5 [] (k + 1) (law39_bare.s5 aKind aI aK aAt aBy aSpanLo aSpanHi aBag aDraws x0) = law39_bare.b5 aKind aI aK aAt aBy aSpanLo aSpanHi aBag aDraws (fun x0 => lp law39_bare_E fuel Tryz.f10 [.dat (.pair (.int .i64) (.pair (.int .i64) (.pair (.int .i64) (.pair (.int .i64) (.pair (.int .i64) (.pair (.pair (.int .i64) (.int .i64)) (.pair (.sl (.pair (.int .i64) (.sl (.int .u8)))) (.sl (.int .i64))))))))) true] 0 law39_bare.k 5 [] k (law39_bare.s5 aKind aI aK aAt aBy aSpanLo aSpanHi aBag aDraws x0)) (fun x1 x2 => lp law39_bare_E fuel Tryz.f10 [.dat (.pair (.int .i64) (.pair (.int .i64) (.pair (.int .i64) (.pair (.int .i64) (.pair (.int .i64) (.pair (.pair (.int .i64) (.int .i64)) (.pair (.sl (.pair (.int .i64) (.sl (.int .u8)))) (.sl (.int .i64))))))))) true] 0 law39_bare.k 7 [] fuel (law39_bare.s7 aKind aI aK aAt aBy aSpanLo aSpanHi aBag aDraws x1 x2)) x0 := by kernel_rfl
    rw [h]
    have e5 : (fun x0 => lp law39_bare_E fuel Tryz.f10 [.dat (.pair (.int .i64) (.pair (.int .i64) (.pair (.int .i64) (.pair (.int .i64) (.pair (.int .i64) (.pair (.pair (.int .i64) (.int .i64)) (.pair (.sl (.pair (.int .i64) (.sl (.int .u8)))) (.sl (.int .i64))))))))) true] 0 law39_bare.k 5 [] k (law39_bare.s5 aKind aI aK aAt aBy aSpanLo aSpanHi aBag aDraws x0)) = law39_bare.l5 fuel aKind aI aK aAt aBy aSpanLo aSpanHi aBag aDraws k := (funext fun x0 => ih x0)
    rw [e5]
    have e7 : (fun x1 x2 => lp law39_bare_E fuel Tryz.f10 [.dat (.pair (.int .i64) (.pair (.int .i64) (.pair (.int .i64) (.pair (.int .i64) (.pair (.int .i64) (.pair (.pair (.int .i64) (.int .i64)) (.pair (.sl (.pair (.int .i64) (.sl (.int .u8)))) (.sl (.int .i64))))))))) true] 0 law39_bare.k 7 [] fuel (law39_bare.s7 aKind aI aK aAt aBy aSpanLo aSpanHi aBag aDraws x1 x2)) = law39_bare.l7 fuel aKind aI aK aAt aBy aSpanLo aSpanHi aBag aDraws fuel := (funext fun x1 => (funext fun x2 => law39_bare.l7_eq fuel aKind aI aK aAt aBy aSpanLo aSpanHi aBag aDraws fuel x1 x2))
    rw [e7]
    rfl
theorem law39_bare.eq (fuel : Nat) (aKind : Int) (aI : Int) (aK : Int) (aAt : Int) (aBy : Int) (aSpanLo : Int) (aSpanHi : Int) (aBag : List (Int × List Int)) (aDraws : List Int) : (denF law39_bare_E loopN fuel Tryz.f10 [.dat (.pair (.int .i64) (.pair (.int .i64) (.pair (.int .i64) (.pair (.int .i64) (.pair (.int .i64) (.pair (.pair (.int .i64) (.int .i64)) (.pair (.sl (.pair (.int .i64) (.sl (.int .u8)))) (.sl (.int .i64))))))))) true] [.agg [.d (.int .i64) aKind, .d (.int .i64) aI, .d (.int .i64) aK, .d (.int .i64) aAt, .d (.int .i64) aBy, .d (.int .i64) aSpanLo, .d (.int .i64) aSpanHi, .d (.sl (.pair (.int .i64) (.sl (.int .u8)))) aBag, .d (.sl (.int .i64)) aDraws]] [] law39_bare.k) = law39_bare.f fuel aKind aI aK aAt aBy aSpanLo aSpanHi aBag aDraws := by
  have h : (denF law39_bare_E loopN fuel Tryz.f10 [.dat (.pair (.int .i64) (.pair (.int .i64) (.pair (.int .i64) (.pair (.int .i64) (.pair (.int .i64) (.pair (.pair (.int .i64) (.int .i64)) (.pair (.sl (.pair (.int .i64) (.sl (.int .u8)))) (.sl (.int .i64))))))))) true] [.agg [.d (.int .i64) aKind, .d (.int .i64) aI, .d (.int .i64) aK, .d (.int .i64) aAt, .d (.int .i64) aBy, .d (.int .i64) aSpanLo, .d (.int .i64) aSpanHi, .d (.sl (.pair (.int .i64) (.sl (.int .u8)))) aBag, .d (.sl (.int .i64)) aDraws]] [] law39_bare.k) = law39_bare.b aKind aI aK aAt aBy aSpanLo aSpanHi aBag aDraws (fun x0 => lp law39_bare_E fuel Tryz.f10 [.dat (.pair (.int .i64) (.pair (.int .i64) (.pair (.int .i64) (.pair (.int .i64) (.pair (.int .i64) (.pair (.pair (.int .i64) (.int .i64)) (.pair (.sl (.pair (.int .i64) (.sl (.int .u8)))) (.sl (.int .i64))))))))) true] 0 law39_bare.k 5 [] fuel (law39_bare.s5 aKind aI aK aAt aBy aSpanLo aSpanHi aBag aDraws x0)) := by kernel_rfl
  rw [h]
  have e5 : (fun x0 => lp law39_bare_E fuel Tryz.f10 [.dat (.pair (.int .i64) (.pair (.int .i64) (.pair (.int .i64) (.pair (.int .i64) (.pair (.int .i64) (.pair (.pair (.int .i64) (.int .i64)) (.pair (.sl (.pair (.int .i64) (.sl (.int .u8)))) (.sl (.int .i64))))))))) true] 0 law39_bare.k 5 [] fuel (law39_bare.s5 aKind aI aK aAt aBy aSpanLo aSpanHi aBag aDraws x0)) = law39_bare.l5 fuel aKind aI aK aAt aBy aSpanLo aSpanHi aBag aDraws fuel := (funext fun x0 => law39_bare.l5_eq fuel aKind aI aK aAt aBy aSpanLo aSpanHi aBag aDraws fuel x0)
  rw [e5]
  rfl
theorem law39_bare.l13_at (fuel nN kK : Nat) (hN : nN = kK + 1) (aKind : Int) (aI : Int) (aK : Int) (aAt : Int) (aBy : Int) (aSpanLo : Int) (aSpanHi : Int) (aBag : List (Int × List Int)) (aDraws : List Int) (x10 : Int) (x11 : Int) (x12 : Int) (x13 : Int) (x14 : Int) (x15 : Int) : law39_bare.l13 fuel aKind aI aK aAt aBy aSpanLo aSpanHi aBag aDraws nN x10 x11 x12 x13 x14 x15 = law39_bare.b13 aKind aI aK aAt aBy aSpanLo aSpanHi aBag aDraws (law39_bare.l13 fuel aKind aI aK aAt aBy aSpanLo aSpanHi aBag aDraws kK) x10 x11 x12 x13 x14 x15 := by
  subst hN
  rfl
theorem law39_bare.l11_at (fuel nN kK : Nat) (hN : nN = kK + 1) (aKind : Int) (aI : Int) (aK : Int) (aAt : Int) (aBy : Int) (aSpanLo : Int) (aSpanHi : Int) (aBag : List (Int × List Int)) (aDraws : List Int) (x6 : Int) (x7 : Int) (x8 : Int) (x9 : Int) : law39_bare.l11 fuel aKind aI aK aAt aBy aSpanLo aSpanHi aBag aDraws nN x6 x7 x8 x9 = law39_bare.b11 aKind aI aK aAt aBy aSpanLo aSpanHi aBag aDraws (law39_bare.l11 fuel aKind aI aK aAt aBy aSpanLo aSpanHi aBag aDraws kK) (law39_bare.l13 fuel aKind aI aK aAt aBy aSpanLo aSpanHi aBag aDraws fuel) x6 x7 x8 x9 := by
  subst hN
  rfl
theorem law39_bare.l9_at (fuel nN kK : Nat) (hN : nN = kK + 1) (aKind : Int) (aI : Int) (aK : Int) (aAt : Int) (aBy : Int) (aSpanLo : Int) (aSpanHi : Int) (aBag : List (Int × List Int)) (aDraws : List Int) (x3 : Int) (x4 : Int) (x5 : Int) : law39_bare.l9 fuel aKind aI aK aAt aBy aSpanLo aSpanHi aBag aDraws nN x3 x4 x5 = law39_bare.b9 aKind aI aK aAt aBy aSpanLo aSpanHi aBag aDraws (law39_bare.l9 fuel aKind aI aK aAt aBy aSpanLo aSpanHi aBag aDraws kK) (law39_bare.l11 fuel aKind aI aK aAt aBy aSpanLo aSpanHi aBag aDraws fuel) x3 x4 x5 := by
  subst hN
  rfl
theorem law39_bare.l7_at (fuel nN kK : Nat) (hN : nN = kK + 1) (aKind : Int) (aI : Int) (aK : Int) (aAt : Int) (aBy : Int) (aSpanLo : Int) (aSpanHi : Int) (aBag : List (Int × List Int)) (aDraws : List Int) (x1 : Int) (x2 : Int) : law39_bare.l7 fuel aKind aI aK aAt aBy aSpanLo aSpanHi aBag aDraws nN x1 x2 = law39_bare.b7 aKind aI aK aAt aBy aSpanLo aSpanHi aBag aDraws (law39_bare.l7 fuel aKind aI aK aAt aBy aSpanLo aSpanHi aBag aDraws kK) (law39_bare.l9 fuel aKind aI aK aAt aBy aSpanLo aSpanHi aBag aDraws fuel) x1 x2 := by
  subst hN
  rfl
theorem law39_bare.l5_at (fuel nN kK : Nat) (hN : nN = kK + 1) (aKind : Int) (aI : Int) (aK : Int) (aAt : Int) (aBy : Int) (aSpanLo : Int) (aSpanHi : Int) (aBag : List (Int × List Int)) (aDraws : List Int) (x0 : Int) : law39_bare.l5 fuel aKind aI aK aAt aBy aSpanLo aSpanHi aBag aDraws nN x0 = law39_bare.b5 aKind aI aK aAt aBy aSpanLo aSpanHi aBag aDraws (law39_bare.l5 fuel aKind aI aK aAt aBy aSpanLo aSpanHi aBag aDraws kK) (law39_bare.l7 fuel aKind aI aK aAt aBy aSpanLo aSpanHi aBag aDraws fuel) x0 := by
  subst hN
  rfl
noncomputable def s_law39_bare : Den.Sum := ⟨[.dat (.pair (.int .i64) (.pair (.int .i64) (.pair (.int .i64) (.pair (.int .i64) (.pair (.int .i64) (.pair (.pair (.int .i64) (.int .i64)) (.pair (.sl (.pair (.int .i64) (.sl (.int .u8)))) (.sl (.int .i64))))))))) true], fun args objs κ => match args, objs with
  | [.agg [.d (.int .i64) aKind, .d (.int .i64) aI, .d (.int .i64) aK, .d (.int .i64) aAt, .d (.int .i64) aBy, .d (.int .i64) aSpanLo, .d (.int .i64) aSpanHi, .d (.sl (.pair (.int .i64) (.sl (.int .u8)))) aBag, .d (.sl (.int .i64)) aDraws]], [] => (match veil (law39_bare.f BIG aKind aI aK aAt aBy aSpanLo aSpanHi aBag aDraws) with | none => none | some y => κ [.agg [.d (.int .i64) y.1, .d (.int .i64) y.2.1, .d (.int .i64) y.2.2.1, .d (.int .i64) y.2.2.2.1, .d (.int .i64) y.2.2.2.2.1, .d (.int .i64) y.2.2.2.2.2.1, .d (.int .i64) y.2.2.2.2.2.2.1, .d (.sl (.pair (.int .i64) (.sl (.int .u8)))) y.2.2.2.2.2.2.2.1, .d (.sl (.int .i64)) y.2.2.2.2.2.2.2.2]] [])
  | _, _ => none⟩
theorem s_law39_bare_det : SumDet s_law39_bare := fun avs objs R κ => by
  show s_law39_bare.run avs objs (two κ) = (s_law39_bare.run avs objs (two some)).bind κ
  unfold s_law39_bare
  simp only [veil_eq]
  split
  · split <;> rfl
  · rfl
theorem s_law39_bare_ok : SumOk Tryz.prog 10 s_law39_bare := by
  have hE : EnvOk Tryz.prog law39_bare_E := env_ok (l := []) th_ok any_ok trivial _
  refine sum_ok hE Tryz.func10 rfl (by kernel_rfl) s_law39_bare [.dat (.pair (.int .i64) (.pair (.int .i64) (.pair (.int .i64) (.pair (.int .i64) (.pair (.int .i64) (.pair (.pair (.int .i64) (.int .i64)) (.pair (.sl (.pair (.int .i64) (.sl (.int .u8)))) (.sl (.int .i64))))))))) true] law39_bare.k ?_
  intro R avs objs κ r h
  unfold s_law39_bare at h
  simp only [veil_eq] at h
  split at h
  · rename_i aKind aI aK aAt aBy aSpanLo aSpanHi aBag aDraws
    split at h
    · cases h
    · rename_i y hy
      refine ⟨BIG, _, _, _, (law39_bare.eq BIG aKind aI aK aAt aBy aSpanLo aSpanHi aBag aDraws).trans hy, ?_, h⟩
      intro rs ros hk
      unfold law39_bare.k at hk
      split at hk
      · first | (cases hk; exact ⟨rfl, rfl⟩) | (have e := Option.some.inj hk; rw [← e]; exact ⟨rfl, rfl⟩)
      · cases hk
  · cases h
noncomputable def span_Valid_E : Env := ⟨th, gam [], fun i => ⟨[], [], []⟩⟩
noncomputable def span_Valid.k (rs : List AV) (os : List Den.Obj) : Option Bool :=
  match rs, os with
  | [.d .bool r0], [] => some r0
  | _, _ => none
noncomputable def span_Valid.b (sLo : Int) (sHi : Int) : Option Bool :=
  (if (decide (sLo ≥ (1 : Int))) then (if (decide (sLo ≤ sHi)) then some ((decide (sHi ≤ (3 : Int)))) else some (false)) else some (false))
noncomputable def span_Valid.f (fuel : Nat) (sLo : Int) (sHi : Int) : Option Bool := span_Valid.b sLo sHi
theorem span_Valid.eq (fuel : Nat) (sLo : Int) (sHi : Int) : (denF span_Valid_E loopN fuel Tryz.f17 [.raw] [.agg [.d (.int .i64) sLo, .d (.int .i64) sHi]] [] span_Valid.k) = span_Valid.f fuel sLo sHi := by
  kernel_rfl
noncomputable def s_span_Valid : Den.Sum := ⟨[.dat (.pair (.int .i64) (.int .i64)) true], fun args objs κ => match args, objs with
  | [.agg [.d (.int .i64) sLo, .d (.int .i64) sHi]], [] => (match veil (span_Valid.f BIG sLo sHi) with | none => none | some y => κ [.d .bool y] [])
  | _, _ => none⟩
theorem s_span_Valid_det : SumDet s_span_Valid := fun avs objs R κ => by
  show s_span_Valid.run avs objs (two κ) = (s_span_Valid.run avs objs (two some)).bind κ
  unfold s_span_Valid
  simp only [veil_eq]
  split
  · split <;> rfl
  · rfl
theorem s_span_Valid_ok : SumOk Tryz.prog 17 s_span_Valid := by
  have hE : EnvOk Tryz.prog span_Valid_E := env_ok (l := []) th_ok any_ok trivial _
  refine sum_ok hE Tryz.func17 rfl (by kernel_rfl) s_span_Valid [.raw] span_Valid.k ?_
  intro R avs objs κ r h
  unfold s_span_Valid at h
  simp only [veil_eq] at h
  split at h
  · rename_i sLo sHi
    split at h
    · cases h
    · rename_i y hy
      refine ⟨BIG, _, _, _, (span_Valid.eq BIG sLo sHi).trans hy, ?_, h⟩
      intro rs ros hk
      unfold span_Valid.k at hk
      split at hk
      · first | (cases hk; exact ⟨rfl, rfl⟩) | (have e := Option.some.inj hk; rw [← e]; exact ⟨rfl, rfl⟩)
      · cases hk
  · cases h
noncomputable def say_rows_E : Env := ⟨th, gam [], fun i => ⟨[], [], []⟩⟩
noncomputable def say_rows.k (rs : List AV) (os : List Den.Obj) : Option (List (ByteArray × Int)) :=
  match rs, os with
  | [.d (.arr 12 (.pair .str (.int .i64))) r0], [] => some r0
  | _, _ => none
noncomputable def say_rows.b (u : Unit) : Option (List (ByteArray × Int)) :=
  some ((((⟨(([] : List UInt8)).toArray⟩ : ByteArray), 0) :: (((⟨((115 :: (116 :: (97 :: (114 :: (116 :: ([] : List UInt8))))))).toArray⟩ : ByteArray), (49 : Int)) :: (((⟨((115 :: (116 :: (111 :: (112 :: ([] : List UInt8)))))).toArray⟩ : ByteArray), (1 : Int)) :: (((⟨((116 :: (105 :: (99 :: (107 :: ([] : List UInt8)))))).toArray⟩ : ByteArray), (65 : Int)) :: (((⟨((100 :: (101 :: (108 :: (105 :: (118 :: (101 :: (114 :: ([] : List UInt8))))))))).toArray⟩ : ByteArray), (2 : Int)) :: (((⟨((108 :: (111 :: (115 :: (101 :: ([] : List UInt8)))))).toArray⟩ : ByteArray), (2 : Int)) :: (((⟨((99 :: (111 :: (112 :: (121 :: ([] : List UInt8)))))).toArray⟩ : ByteArray), (2 : Int)) :: (((⟨((116 :: (117 :: (114 :: (110 :: ([] : List UInt8)))))).toArray⟩ : ByteArray), (14 : Int)) :: (((⟨((99 :: (104 :: (111 :: (112 :: ([] : List UInt8)))))).toArray⟩ : ByteArray), (6 : Int)) :: (((⟨((106 :: (111 :: (105 :: (110 :: ([] : List UInt8)))))).toArray⟩ : ByteArray), (3 : Int)) :: (((⟨((108 :: (101 :: (97 :: (118 :: (101 :: ([] : List UInt8))))))).toArray⟩ : ByteArray), (1 : Int)) :: (((⟨((99 :: (104 :: (97 :: (110 :: (103 :: (101 :: ([] : List UInt8)))))))).toArray⟩ : ByteArray), (33 : Int)) :: ([] : List (ByteArray × Int)))))))))))))))
noncomputable def say_rows.f (fuel : Nat) (u : Unit) : Option (List (ByteArray × Int)) := say_rows.b u
theorem say_rows.eq (fuel : Nat) (u : Unit) : (denF say_rows_E loopN fuel Tryz.f20 [.raw] [] [] say_rows.k) = say_rows.f fuel u := by
  kernel_rfl
noncomputable def s_say_rows : Den.Sum := ⟨[], fun args objs κ => match args, objs with
  | [], [] => (match veil (say_rows.f BIG ()) with | none => none | some y => κ [.d (.arr 12 (.pair .str (.int .i64))) y] [])
  | _, _ => none⟩
theorem s_say_rows_det : SumDet s_say_rows := fun avs objs R κ => by
  show s_say_rows.run avs objs (two κ) = (s_say_rows.run avs objs (two some)).bind κ
  unfold s_say_rows
  simp only [veil_eq]
  split
  · split <;> rfl
  · rfl
theorem s_say_rows_ok : SumOk Tryz.prog 20 s_say_rows := by
  have hE : EnvOk Tryz.prog say_rows_E := env_ok (l := []) th_ok any_ok trivial _
  refine sum_ok hE Tryz.func20 rfl (by kernel_rfl) s_say_rows [.raw] say_rows.k ?_
  intro R avs objs κ r h
  unfold s_say_rows at h
  simp only [veil_eq] at h
  split at h
  · skip
    split at h
    · cases h
    · rename_i y hy
      refine ⟨BIG, _, _, _, (say_rows.eq BIG ()).trans hy, ?_, h⟩
      intro rs ros hk
      unfold say_rows.k at hk
      split at hk
      · first | (cases hk; exact ⟨rfl, rfl⟩) | (have e := Option.some.inj hk; rw [← e]; exact ⟨rfl, rfl⟩)
      · cases hk
  · cases h
noncomputable def law39_num_E : Env := ⟨th, gam [], fun i => if i = 5 then ⟨[0, 3, 4], [(3, 5, (.int .u8))], []⟩ else ⟨[], [], []⟩⟩
noncomputable def law39_num.k (rs : List AV) (os : List Den.Obj) : Option ByteArray :=
  match rs, os with
  | [.d .str r0], [] => some r0
  | _, _ => none
noncomputable def law39_num.s5 (v : Int) (x0 : Int) (x1 : (List Int)) : St := ⟨[.d (.int .i64) (v), .dead, .dead, .row 64, .d (.int .i64) x0, .dead, .dead, .dead, .dead, .dead, .dead, .dead, .dead, .dead, .dead, .dead, .dead, .dead, .dead, .dead, .dead, .dead, .dead, .dead, .dead, .dead, .dead, .dead, .dead, .dead, .dead, .dead], ofL [(64, .row 5 (.int .u8) x1 false)], 0⟩
noncomputable def law39_num.b5 (v : Int) (A5 : Int → (List Int) → Option ByteArray) (x0 : Int) (x1 : (List Int)) : Option ByteArray :=
  (if (x0 != (0 : Int)) then (if (decide ((Int.tmod x0 (10 : Int)) < (0 : Int))) then (if ((((List.length ((Go.IntKind.wrap .u8 (Go.IntKind.wrap .i64 ((48 : Int) + (Go.IntKind.wrap .i64 ((0 : Int) - (Int.tmod x0 (10 : Int))))))) :: ([] : List Int))) + (List.length x1)) * (1 : Nat)) ≤ lim) then A5 (Go.IntKind.wrap .i64 (Int.tdiv x0 (10 : Int))) (((Go.IntKind.wrap .u8 (Go.IntKind.wrap .i64 ((48 : Int) + (Go.IntKind.wrap .i64 ((0 : Int) - (Int.tmod x0 (10 : Int))))))) :: ([] : List Int)) ++ x1) else none) else (if ((((List.length ((Go.IntKind.wrap .u8 (Go.IntKind.wrap .i64 ((48 : Int) + (Int.tmod x0 (10 : Int))))) :: ([] : List Int))) + (List.length x1)) * (1 : Nat)) ≤ lim) then A5 (Go.IntKind.wrap .i64 (Int.tdiv x0 (10 : Int))) (((Go.IntKind.wrap .u8 (Go.IntKind.wrap .i64 ((48 : Int) + (Int.tmod x0 (10 : Int))))) :: ([] : List Int)) ++ x1) else none)) else (if (decide (v < (0 : Int))) then (if (((ByteArray.size (⟨((45 :: ([] : List UInt8))).toArray⟩ : ByteArray)) + (ByteArray.size (strOf x1))) ≤ (1099511627776 : Nat)) then some (((⟨((45 :: ([] : List UInt8))).toArray⟩ : ByteArray) ++ (strOf x1))) else none) else some ((strOf x1))))
noncomputable def law39_num.l5 (fuel : Nat) (v : Int) : Nat → Int → (List Int) → Option ByteArray
  | 0, _, _ => none
  | k + 1, x0, x1 => law39_num.b5 v (law39_num.l5 fuel v k) x0 x1
noncomputable def law39_num.b (v : Int) (E5 : Int → (List Int) → Option ByteArray) : Option ByteArray :=
  (if (v == (0 : Int)) then some ((⟨((48 :: ([] : List UInt8))).toArray⟩ : ByteArray)) else E5 v ([] : List Int))
noncomputable def law39_num.f (fuel : Nat) (v : Int) : Option ByteArray := law39_num.b v (law39_num.l5 fuel v fuel)
theorem law39_num.l5_eq (fuel : Nat) (v : Int) : ∀ (k : Nat) (x0 : Int) (x1 : (List Int)), lp law39_num_E fuel Tryz.f23 [.raw] 0 law39_num.k 5 [] k (law39_num.s5 v x0 x1) = law39_num.l5 fuel v k x0 x1 := by
  intro k
  induction k with
  | zero => intro x0 x1; rfl
  | succ k ih =>
    intro x0 x1
    have h : lp law39_num_E fuel Tryz.f23 [.raw] 0 law39_num.k 5 [] (k + 1) (law39_num.s5 v x0 x1) = law39_num.b5 v (fun x0 x1 => lp law39_num_E fuel Tryz.f23 [.raw] 0 law39_num.k 5 [] k (law39_num.s5 v x0 x1)) x0 x1 := by kernel_rfl
    rw [h]
    have e5 : (fun x0 x1 => lp law39_num_E fuel Tryz.f23 [.raw] 0 law39_num.k 5 [] k (law39_num.s5 v x0 x1)) = law39_num.l5 fuel v k := (funext fun x0 => (funext fun x1 => ih x0 x1))
    rw [e5]
    rfl
theorem law39_num.eq (fuel : Nat) (v : Int) : (denF law39_num_E loopN fuel Tryz.f23 [.raw] [.d (.int .i64) v] [] law39_num.k) = law39_num.f fuel v := by
  have h : (denF law39_num_E loopN fuel Tryz.f23 [.raw] [.d (.int .i64) v] [] law39_num.k) = law39_num.b v (fun x0 x1 => lp law39_num_E fuel Tryz.f23 [.raw] 0 law39_num.k 5 [] fuel (law39_num.s5 v x0 x1)) := by kernel_rfl
  rw [h]
  have e5 : (fun x0 x1 => lp law39_num_E fuel Tryz.f23 [.raw] 0 law39_num.k 5 [] fuel (law39_num.s5 v x0 x1)) = law39_num.l5 fuel v fuel := (funext fun x0 => (funext fun x1 => law39_num.l5_eq fuel v fuel x0 x1))
  rw [e5]
  rfl
noncomputable def s_law39_num : Den.Sum := ⟨[.raw], fun args objs κ => match args, objs with
  | [.d (.int .i64) v], [] => (match veil (law39_num.f BIG v) with | none => none | some y => κ [.d .str y] [])
  | _, _ => none⟩
theorem s_law39_num_det : SumDet s_law39_num := fun avs objs R κ => by
  show s_law39_num.run avs objs (two κ) = (s_law39_num.run avs objs (two some)).bind κ
  unfold s_law39_num
  simp only [veil_eq]
  split
  · split <;> rfl
  · rfl
theorem s_law39_num_ok : SumOk Tryz.prog 23 s_law39_num := by
  have hE : EnvOk Tryz.prog law39_num_E := env_ok (l := []) th_ok any_ok trivial _
  refine sum_ok hE Tryz.func23 rfl (by kernel_rfl) s_law39_num [.raw] law39_num.k ?_
  intro R avs objs κ r h
  unfold s_law39_num at h
  simp only [veil_eq] at h
  split at h
  · rename_i v
    split at h
    · cases h
    · rename_i y hy
      refine ⟨BIG, _, _, _, (law39_num.eq BIG v).trans hy, ?_, h⟩
      intro rs ros hk
      unfold law39_num.k at hk
      split at hk
      · first | (cases hk; exact ⟨rfl, rfl⟩) | (have e := Option.some.inj hk; rw [← e]; exact ⟨rfl, rfl⟩)
      · cases hk
  · cases h
noncomputable def law39_hex_E : Env := ⟨th, gam [], fun i => ⟨[], [], []⟩⟩
noncomputable def law39_hex.k (rs : List AV) (os : List Den.Obj) : Option ByteArray :=
  match rs, os with
  | [.d .str r0], [] => some r0
  | _, _ => none
noncomputable def law39_hex.b (c : Int) : Option ByteArray :=
  (if (((0 : Int) ≤ (Go.IntKind.wrap .i64 (Int.tdiv (Go.IntKind.wrap .i64 c) (16 : Int)))) ∧ (((Go.IntKind.wrap .i64 (Int.tdiv (Go.IntKind.wrap .i64 c) (16 : Int))) ≤ (Go.IntKind.wrap .i64 ((Go.IntKind.wrap .i64 (Int.tdiv (Go.IntKind.wrap .i64 c) (16 : Int))) + (1 : Int)))) ∧ ((Go.IntKind.wrap .i64 ((Go.IntKind.wrap .i64 (Int.tdiv (Go.IntKind.wrap .i64 c) (16 : Int))) + (1 : Int))) ≤ ((((ByteArray.size (⟨((48 :: (49 :: (50 :: (51 :: (52 :: (53 :: (54 :: (55 :: (56 :: (57 :: (97 :: (98 :: (99 :: (100 :: (101 :: (102 :: ([] : List UInt8)))))))))))))))))).toArray⟩ : ByteArray))) : Nat) : Int)))) then (if (((0 : Int) ≤ (Int.tmod (Go.IntKind.wrap .i64 c) (16 : Int))) ∧ (((Int.tmod (Go.IntKind.wrap .i64 c) (16 : Int)) ≤ (Go.IntKind.wrap .i64 ((Int.tmod (Go.IntKind.wrap .i64 c) (16 : Int)) + (1 : Int)))) ∧ ((Go.IntKind.wrap .i64 ((Int.tmod (Go.IntKind.wrap .i64 c) (16 : Int)) + (1 : Int))) ≤ ((((ByteArray.size (⟨((48 :: (49 :: (50 :: (51 :: (52 :: (53 :: (54 :: (55 :: (56 :: (57 :: (97 :: (98 :: (99 :: (100 :: (101 :: (102 :: ([] : List UInt8)))))))))))))))))).toArray⟩ : ByteArray))) : Nat) : Int)))) then (if (((ByteArray.size (ByteArray.extract (⟨((48 :: (49 :: (50 :: (51 :: (52 :: (53 :: (54 :: (55 :: (56 :: (57 :: (97 :: (98 :: (99 :: (100 :: (101 :: (102 :: ([] : List UInt8)))))))))))))))))).toArray⟩ : ByteArray) (Int.toNat (Go.IntKind.wrap .i64 (Int.tdiv (Go.IntKind.wrap .i64 c) (16 : Int)))) (Int.toNat (Go.IntKind.wrap .i64 ((Go.IntKind.wrap .i64 (Int.tdiv (Go.IntKind.wrap .i64 c) (16 : Int))) + (1 : Int)))))) + (ByteArray.size (ByteArray.extract (⟨((48 :: (49 :: (50 :: (51 :: (52 :: (53 :: (54 :: (55 :: (56 :: (57 :: (97 :: (98 :: (99 :: (100 :: (101 :: (102 :: ([] : List UInt8)))))))))))))))))).toArray⟩ : ByteArray) (Int.toNat (Int.tmod (Go.IntKind.wrap .i64 c) (16 : Int))) (Int.toNat (Go.IntKind.wrap .i64 ((Int.tmod (Go.IntKind.wrap .i64 c) (16 : Int)) + (1 : Int))))))) ≤ (1099511627776 : Nat)) then some (((ByteArray.extract (⟨((48 :: (49 :: (50 :: (51 :: (52 :: (53 :: (54 :: (55 :: (56 :: (57 :: (97 :: (98 :: (99 :: (100 :: (101 :: (102 :: ([] : List UInt8)))))))))))))))))).toArray⟩ : ByteArray) (Int.toNat (Go.IntKind.wrap .i64 (Int.tdiv (Go.IntKind.wrap .i64 c) (16 : Int)))) (Int.toNat (Go.IntKind.wrap .i64 ((Go.IntKind.wrap .i64 (Int.tdiv (Go.IntKind.wrap .i64 c) (16 : Int))) + (1 : Int))))) ++ (ByteArray.extract (⟨((48 :: (49 :: (50 :: (51 :: (52 :: (53 :: (54 :: (55 :: (56 :: (57 :: (97 :: (98 :: (99 :: (100 :: (101 :: (102 :: ([] : List UInt8)))))))))))))))))).toArray⟩ : ByteArray) (Int.toNat (Int.tmod (Go.IntKind.wrap .i64 c) (16 : Int))) (Int.toNat (Go.IntKind.wrap .i64 ((Int.tmod (Go.IntKind.wrap .i64 c) (16 : Int)) + (1 : Int))))))) else none) else none) else none)
noncomputable def law39_hex.f (fuel : Nat) (c : Int) : Option ByteArray := law39_hex.b c
theorem law39_hex.eq (fuel : Nat) (c : Int) : (denF law39_hex_E loopN fuel Tryz.f24 [.raw] [.d (.int .u8) c] [] law39_hex.k) = law39_hex.f fuel c := by
  kernel_rfl
noncomputable def s_law39_hex : Den.Sum := ⟨[.raw], fun args objs κ => match args, objs with
  | [.d (.int .u8) c], [] => (match veil (law39_hex.f BIG c) with | none => none | some y => κ [.d .str y] [])
  | _, _ => none⟩
theorem s_law39_hex_det : SumDet s_law39_hex := fun avs objs R κ => by
  show s_law39_hex.run avs objs (two κ) = (s_law39_hex.run avs objs (two some)).bind κ
  unfold s_law39_hex
  simp only [veil_eq]
  split
  · split <;> rfl
  · rfl
theorem s_law39_hex_ok : SumOk Tryz.prog 24 s_law39_hex := by
  have hE : EnvOk Tryz.prog law39_hex_E := env_ok (l := []) th_ok any_ok trivial _
  refine sum_ok hE Tryz.func24 rfl (by kernel_rfl) s_law39_hex [.raw] law39_hex.k ?_
  intro R avs objs κ r h
  unfold s_law39_hex at h
  simp only [veil_eq] at h
  split at h
  · rename_i c
    split at h
    · cases h
    · rename_i y hy
      refine ⟨BIG, _, _, _, (law39_hex.eq BIG c).trans hy, ?_, h⟩
      intro rs ros hk
      unfold law39_hex.k at hk
      split at hk
      · first | (cases hk; exact ⟨rfl, rfl⟩) | (have e := Option.some.inj hk; rw [← e]; exact ⟨rfl, rfl⟩)
      · cases hk
  · cases h
noncomputable def law06_Few_E : Env := ⟨th, gam [], fun i => if i = 5 then ⟨[0, 3, 4], [], []⟩ else ⟨[], [], []⟩⟩
noncomputable def law06_Few.k (rs : List AV) (os : List Den.Obj) : Option Bool :=
  match rs, os with
  | [.d .bool r0], [] => some r0
  | _, _ => none
noncomputable def law06_Few.s5 (b : List (Int × List Int)) (x0 : Int) (x1 : Int) : St := ⟨[.d (.sl (.pair (.int .i64) (.sl (.int .u8)))) (b), .dead, .dead, .d (.int .i64) x0, .d (.int .i64) x1, .dead, .dead, .dead, .dead, .dead, .dead, .dead, .dead, .dead, .dead, .dead, .dead, .dead, .dead, .dead, .dead, .dead, .dead, .dead], ofL [], 0⟩
noncomputable def law06_Few.b5 (b : List (Int × List Int)) (A5 : Int → Int → Option Bool) (x0 : Int) (x1 : Int) : Option Bool :=
  (if (decide (x1 < ((((List.length b)) : Nat) : Int))) then (match (idx b x1) with | none => none | some y2 => (if (decide ((Go.IntKind.wrap .i64 (x0 + ((((List.length y2.2)) : Nat) : Int))) > (5000 : Int))) then some (false) else A5 (Go.IntKind.wrap .i64 (x0 + ((((List.length y2.2)) : Nat) : Int))) (Go.IntKind.wrap .i64 (x1 + (1 : Int))))) else some (true))
noncomputable def law06_Few.l5 (fuel : Nat) (b : List (Int × List Int)) : Nat → Int → Int → Option Bool
  | 0, _, _ => none
  | k + 1, x0, x1 => law06_Few.b5 b (law06_Few.l5 fuel b k) x0 x1
noncomputable def law06_Few.b (b : List (Int × List Int)) (E5 : Int → Int → Option Bool) : Option Bool :=
  (if (decide (((((List.length b)) : Nat) : Int) > (40 : Int))) then some (false) else E5 (0 : Int) (0 : Int))
noncomputable def law06_Few.f (fuel : Nat) (b : List (Int × List Int)) : Option Bool := law06_Few.b b (law06_Few.l5 fuel b fuel)
theorem law06_Few.l5_eq (fuel : Nat) (b : List (Int × List Int)) : ∀ (k : Nat) (x0 : Int) (x1 : Int), lp law06_Few_E fuel Tryz.f25 [.raw] 0 law06_Few.k 5 [] k (law06_Few.s5 b x0 x1) = law06_Few.l5 fuel b k x0 x1 := by
  intro k
  induction k with
  | zero => intro x0 x1; rfl
  | succ k ih =>
    intro x0 x1
    have h : lp law06_Few_E fuel Tryz.f25 [.raw] 0 law06_Few.k 5 [] (k + 1) (law06_Few.s5 b x0 x1) = law06_Few.b5 b (fun x0 x1 => lp law06_Few_E fuel Tryz.f25 [.raw] 0 law06_Few.k 5 [] k (law06_Few.s5 b x0 x1)) x0 x1 := by kernel_rfl
    rw [h]
    have e5 : (fun x0 x1 => lp law06_Few_E fuel Tryz.f25 [.raw] 0 law06_Few.k 5 [] k (law06_Few.s5 b x0 x1)) = law06_Few.l5 fuel b k := (funext fun x0 => (funext fun x1 => ih x0 x1))
    rw [e5]
    rfl
theorem law06_Few.eq (fuel : Nat) (b : List (Int × List Int)) : (denF law06_Few_E loopN fuel Tryz.f25 [.raw] [.d (.sl (.pair (.int .i64) (.sl (.int .u8)))) b] [] law06_Few.k) = law06_Few.f fuel b := by
  have h : (denF law06_Few_E loopN fuel Tryz.f25 [.raw] [.d (.sl (.pair (.int .i64) (.sl (.int .u8)))) b] [] law06_Few.k) = law06_Few.b b (fun x0 x1 => lp law06_Few_E fuel Tryz.f25 [.raw] 0 law06_Few.k 5 [] fuel (law06_Few.s5 b x0 x1)) := by kernel_rfl
  rw [h]
  have e5 : (fun x0 x1 => lp law06_Few_E fuel Tryz.f25 [.raw] 0 law06_Few.k 5 [] fuel (law06_Few.s5 b x0 x1)) = law06_Few.l5 fuel b fuel := (funext fun x0 => (funext fun x1 => law06_Few.l5_eq fuel b fuel x0 x1))
  rw [e5]
  rfl
theorem law06_Few.l5_at (fuel nN kK : Nat) (hN : nN = kK + 1) (b : List (Int × List Int)) (x0 : Int) (x1 : Int) : law06_Few.l5 fuel b nN x0 x1 = law06_Few.b5 b (law06_Few.l5 fuel b kK) x0 x1 := by
  subst hN
  rfl
noncomputable def s_law06_Few : Den.Sum := ⟨[.dat (.sl (.pair (.int .i64) (.sl (.int .u8)))) false], fun args objs κ => match args, objs with
  | [.d (.sl (.pair (.int .i64) (.sl (.int .u8)))) b], [] => (match veil (law06_Few.f BIG b) with | none => none | some y => κ [.d .bool y] [])
  | _, _ => none⟩
theorem s_law06_Few_det : SumDet s_law06_Few := fun avs objs R κ => by
  show s_law06_Few.run avs objs (two κ) = (s_law06_Few.run avs objs (two some)).bind κ
  unfold s_law06_Few
  simp only [veil_eq]
  split
  · split <;> rfl
  · rfl
theorem s_law06_Few_ok : SumOk Tryz.prog 25 s_law06_Few := by
  have hE : EnvOk Tryz.prog law06_Few_E := env_ok (l := []) th_ok any_ok trivial _
  refine sum_ok hE Tryz.func25 rfl (by kernel_rfl) s_law06_Few [.raw] law06_Few.k ?_
  intro R avs objs κ r h
  unfold s_law06_Few at h
  simp only [veil_eq] at h
  split at h
  · rename_i b
    split at h
    · cases h
    · rename_i y hy
      refine ⟨BIG, _, _, _, (law06_Few.eq BIG b).trans hy, ?_, h⟩
      intro rs ros hk
      unfold law06_Few.k at hk
      split at hk
      · first | (cases hk; exact ⟨rfl, rfl⟩) | (have e := Option.some.inj hk; rw [← e]; exact ⟨rfl, rfl⟩)
      · cases hk
  · cases h
noncomputable def strings_Builder_WriteString_E : Env := ⟨th, gam [(52, s_bcheckS)], fun i => ⟨[], [], []⟩⟩
noncomputable def strings_Builder_WriteString.k (rs : List AV) (os : List Den.Obj) : Option (Int × (List Int)) :=
  match rs, os with
  | [.d (.int .i64) r0, .nili], [.bld 74 (.row 2), .gone, .row 5 (.int .u8) r1 false] => some (r0, r1)
  | _, _ => none
noncomputable def strings_Builder_WriteString.b (buf : List Int) (s : ByteArray) : Option (Int × (List Int)) :=
  (if ((((List.length buf) + (List.length (bytesOf s))) * (1 : Nat)) ≤ lim) then some (((((ByteArray.size s)) : Nat) : Int), (buf ++ (bytesOf s))) else none)
noncomputable def strings_Builder_WriteString.f (fuel : Nat) (buf : List Int) (s : ByteArray) : Option (Int × (List Int)) := strings_Builder_WriteString.b buf s
theorem strings_Builder_WriteString.eq (fuel : Nat) (buf : List Int) (s : ByteArray) : (denF strings_Builder_WriteString_E loopN fuel Tryz.f29 [.raw, .raw] [.ptr 0 0, .d .str s] [.bld 74 (.row 1), .row 5 (.int .u8) buf false] strings_Builder_WriteString.k) = strings_Builder_WriteString.f fuel buf s := by
  kernel_rfl
noncomputable def s_strings_Builder_WriteString : Den.Sum := ⟨[.raw, .raw], fun args objs κ => match args, objs with
  | [.ptr 0 0, .d .str s], [.bld 74 (.row 1), .row 5 (.int .u8) buf false] => (match veil (strings_Builder_WriteString.f BIG buf s) with | none => none | some y => κ [.d (.int .i64) y.1, .nili] [.bld 74 (.row 2), .gone, .row 5 (.int .u8) y.2 false])
  | _, _ => none⟩
theorem s_strings_Builder_WriteString_det : SumDet s_strings_Builder_WriteString := fun avs objs R κ => by
  show s_strings_Builder_WriteString.run avs objs (two κ) = (s_strings_Builder_WriteString.run avs objs (two some)).bind κ
  unfold s_strings_Builder_WriteString
  simp only [veil_eq]
  split
  · split <;> rfl
  · rfl
theorem s_strings_Builder_WriteString_ok : SumOk Tryz.prog 29 s_strings_Builder_WriteString := by
  have hE : EnvOk Tryz.prog strings_Builder_WriteString_E := env_ok (l := [(52, s_bcheckS)]) th_ok any_ok ⟨⟨s_bcheckS_ok, s_bcheckS_det⟩, trivial⟩ _
  refine sum_ok hE Tryz.func29 rfl (by kernel_rfl) s_strings_Builder_WriteString [.raw, .raw] strings_Builder_WriteString.k ?_
  intro R avs objs κ r h
  unfold s_strings_Builder_WriteString at h
  simp only [veil_eq] at h
  split at h
  · rename_i s buf
    split at h
    · cases h
    · rename_i y hy
      refine ⟨BIG, _, _, _, (strings_Builder_WriteString.eq BIG buf s).trans hy, ?_, h⟩
      intro rs ros hk
      unfold strings_Builder_WriteString.k at hk
      split at hk
      · first | (cases hk; exact ⟨rfl, rfl⟩) | (have e := Option.some.inj hk; rw [← e]; exact ⟨rfl, rfl⟩)
      · cases hk
  · cases h
noncomputable def strings_Builder_WriteByte_E : Env := ⟨th, gam [(52, s_bcheckS)], fun i => ⟨[], [], []⟩⟩
noncomputable def strings_Builder_WriteByte.k (rs : List AV) (os : List Den.Obj) : Option (List Int) :=
  match rs, os with
  | [.nili], [.bld 74 (.row 2), .gone, .row 5 (.int .u8) r0 false] => some r0
  | _, _ => none
noncomputable def strings_Builder_WriteByte.b (buf : List Int) (c : Int) : Option (List Int) :=
  (if ((((List.length buf) + (List.length (c :: ([] : List Int)))) * (1 : Nat)) ≤ lim) then some ((buf ++ (c :: ([] : List Int)))) else none)
noncomputable def strings_Builder_WriteByte.f (fuel : Nat) (buf : List Int) (c : Int) : Option (List Int) := strings_Builder_WriteByte.b buf c
theorem strings_Builder_WriteByte.eq (fuel : Nat) (buf : List Int) (c : Int) : (denF strings_Builder_WriteByte_E loopN fuel Tryz.f30 [.raw] [.ptr 0 0, .d (.int .u8) c] [.bld 74 (.row 1), .row 5 (.int .u8) buf false] strings_Builder_WriteByte.k) = strings_Builder_WriteByte.f fuel buf c := by
  kernel_rfl
noncomputable def s_strings_Builder_WriteByte : Den.Sum := ⟨[.raw, .raw], fun args objs κ => match args, objs with
  | [.ptr 0 0, .d (.int .u8) c], [.bld 74 (.row 1), .row 5 (.int .u8) buf false] => (match veil (strings_Builder_WriteByte.f BIG buf c) with | none => none | some y => κ [.nili] [.bld 74 (.row 2), .gone, .row 5 (.int .u8) y false])
  | _, _ => none⟩
theorem s_strings_Builder_WriteByte_det : SumDet s_strings_Builder_WriteByte := fun avs objs R κ => by
  show s_strings_Builder_WriteByte.run avs objs (two κ) = (s_strings_Builder_WriteByte.run avs objs (two some)).bind κ
  unfold s_strings_Builder_WriteByte
  simp only [veil_eq]
  split
  · split <;> rfl
  · rfl
theorem s_strings_Builder_WriteByte_ok : SumOk Tryz.prog 30 s_strings_Builder_WriteByte := by
  have hE : EnvOk Tryz.prog strings_Builder_WriteByte_E := env_ok (l := [(52, s_bcheckS)]) th_ok any_ok ⟨⟨s_bcheckS_ok, s_bcheckS_det⟩, trivial⟩ _
  refine sum_ok hE Tryz.func30 rfl (by kernel_rfl) s_strings_Builder_WriteByte [.raw] strings_Builder_WriteByte.k ?_
  intro R avs objs κ r h
  unfold s_strings_Builder_WriteByte at h
  simp only [veil_eq] at h
  split at h
  · rename_i c buf
    split at h
    · cases h
    · rename_i y hy
      refine ⟨BIG, _, _, _, (strings_Builder_WriteByte.eq BIG buf c).trans hy, ?_, h⟩
      intro rs ros hk
      unfold strings_Builder_WriteByte.k at hk
      split at hk
      · first | (cases hk; exact ⟨rfl, rfl⟩) | (have e := Option.some.inj hk; rw [← e]; exact ⟨rfl, rfl⟩)
      · cases hk
  · cases h
noncomputable def say_parts_c1_E : Env := ⟨th, gam [], fun i => ⟨[], [], []⟩⟩
noncomputable def s_say_parts_c1 : Den.Sum := inl say_parts_c1_E BIG Tryz.f34 [.raw] [.raw]
theorem say_parts_c1_envOk : EnvOk Tryz.prog say_parts_c1_E := env_ok (l := []) th_ok any_ok trivial _
theorem s_say_parts_c1_det : SumDet s_say_parts_c1 := inl_det say_parts_c1_envOk.D _ _ _ _
theorem s_say_parts_c1_ok : SumOk Tryz.prog 34 s_say_parts_c1 := inl_ok say_parts_c1_envOk Tryz.func34 rfl (by kernel_rfl) _ _ _
noncomputable def say_parts_c2_E : Env := ⟨th, gam [], fun i => ⟨[], [], []⟩⟩
noncomputable def s_say_parts_c2 : Den.Sum := inl say_parts_c2_E BIG Tryz.f35 [.raw] [.raw]
theorem say_parts_c2_envOk : EnvOk Tryz.prog say_parts_c2_E := env_ok (l := []) th_ok any_ok trivial _
theorem s_say_parts_c2_det : SumDet s_say_parts_c2 := inl_det say_parts_c2_envOk.D _ _ _ _
theorem s_say_parts_c2_ok : SumOk Tryz.prog 35 s_say_parts_c2 := inl_ok say_parts_c2_envOk Tryz.func35 rfl (by kernel_rfl) _ _ _
noncomputable def say_parts_c3_E : Env := ⟨th, gam [], fun i => ⟨[], [], []⟩⟩
noncomputable def s_say_parts_c3 : Den.Sum := inl say_parts_c3_E BIG Tryz.f36 [.raw] [.raw]
theorem say_parts_c3_envOk : EnvOk Tryz.prog say_parts_c3_E := env_ok (l := []) th_ok any_ok trivial _
theorem s_say_parts_c3_det : SumDet s_say_parts_c3 := inl_det say_parts_c3_envOk.D _ _ _ _
theorem s_say_parts_c3_ok : SumOk Tryz.prog 36 s_say_parts_c3 := inl_ok say_parts_c3_envOk Tryz.func36 rfl (by kernel_rfl) _ _ _
noncomputable def say_parts_c4_E : Env := ⟨th, gam [], fun i => ⟨[], [], []⟩⟩
noncomputable def s_say_parts_c4 : Den.Sum := inl say_parts_c4_E BIG Tryz.f37 [.raw] [.raw]
theorem say_parts_c4_envOk : EnvOk Tryz.prog say_parts_c4_E := env_ok (l := []) th_ok any_ok trivial _
theorem s_say_parts_c4_det : SumDet s_say_parts_c4 := inl_det say_parts_c4_envOk.D _ _ _ _
theorem s_say_parts_c4_ok : SumOk Tryz.prog 37 s_say_parts_c4 := inl_ok say_parts_c4_envOk Tryz.func37 rfl (by kernel_rfl) _ _ _
noncomputable def say_parts_c5_E : Env := ⟨th, gam [], fun i => ⟨[], [], []⟩⟩
noncomputable def s_say_parts_c5 : Den.Sum := inl say_parts_c5_E BIG Tryz.f38 [.raw, .raw] []
theorem say_parts_c5_envOk : EnvOk Tryz.prog say_parts_c5_E := env_ok (l := []) th_ok any_ok trivial _
theorem s_say_parts_c5_det : SumDet s_say_parts_c5 := inl_det say_parts_c5_envOk.D _ _ _ _
theorem s_say_parts_c5_ok : SumOk Tryz.prog 38 s_say_parts_c5 := inl_ok say_parts_c5_envOk Tryz.func38 rfl (by kernel_rfl) _ _ _
noncomputable def say_sayBag_E : Env := ⟨th, gam [(58, s_itoaS)], fun i => if i = 3 then ⟨[3, 10, 11, 12], [(3, 9, .str)], []⟩ else if i = 7 then ⟨[3, 6, 10, 11, 12, 22, 23, 24], [], []⟩ else ⟨[], [], []⟩⟩
noncomputable def say_sayBag.k (rs : List AV) (os : List Den.Obj) : Option (List ByteArray) :=
  match rs, os with
  | [.row 0], [.row 9 .str r0 false] => some r0
  | _, _ => none
noncomputable def say_sayBag.s7 (aKind : Int) (aI : Int) (aK : Int) (aAt : Int) (aBy : Int) (aSpanLo : Int) (aSpanHi : Int) (aBag : List (Int × List Int)) (aDraws : List Int) (x4 : Int) (x5 : Int) (x6 : (List Int)) (x7 : Int) (x8 : Int) (x9 : (List ByteArray)) (x10 : (List Int)) : St := ⟨[.dead, .dead, .dead, .row 64, .dead, .dead, .row 65, .dead, .dead, .dead, .d (.sl (.pair (.int .i64) (.sl (.int .u8)))) (aBag), .d (.int .i64) x4, .d (.int .i64) x5, .dead, .dead, .dead, .dead, .dead, .dead, .dead, .dead, .dead, .d (.sl (.int .u8)) x6, .d (.int .i64) x7, .d (.int .i64) x8, .dead, .dead, .dead, .dead, .dead, .dead, .dead, .dead, .dead, .dead, .dead, .dead, .dead, .dead, .dead, .dead, .dead, .dead, .dead, .dead], ofL [(64, .row 9 .str x9 false), (65, .row 5 (.int .u8) x10 false)], 0⟩
noncomputable def say_sayBag.b7 (aKind : Int) (aI : Int) (aK : Int) (aAt : Int) (aBy : Int) (aSpanLo : Int) (aSpanHi : Int) (aBag : List (Int × List Int)) (aDraws : List Int) (A3 : Int → Int → (List ByteArray) → Option (List ByteArray)) (A7 : Int → Int → (List Int) → Int → Int → (List ByteArray) → (List Int) → Option (List ByteArray)) (x4 : Int) (x5 : Int) (x6 : (List Int)) (x7 : Int) (x8 : Int) (x9 : (List ByteArray)) (x10 : (List Int)) : Option (List ByteArray) :=
  (if (decide (x8 < x7)) then (match (idx x6 x8) with | none => none | some y11 => (match (idx (Array.toList (ByteArray.data (⟨((48 :: (49 :: (50 :: (51 :: (52 :: (53 :: (54 :: (55 :: (56 :: (57 :: (97 :: (98 :: (99 :: (100 :: (101 :: (102 :: ([] : List UInt8)))))))))))))))))).toArray⟩ : ByteArray))) (Int.fdiv y11 ((2 : Int) ^ (Min.min (Int.toNat (4 : Int)) (Go.IntKind.bits .u8))))) with | none => none | some y12 => (match (idx (Array.toList (ByteArray.data (⟨((48 :: (49 :: (50 :: (51 :: (52 :: (53 :: (54 :: (55 :: (56 :: (57 :: (97 :: (98 :: (99 :: (100 :: (101 :: (102 :: ([] : List UInt8)))))))))))))))))).toArray⟩ : ByteArray))) (bits Go.BinOp.and .u8 y11 (15 : Int))) with | none => none | some y13 => (if ((((List.length x10) + (List.length (((((UInt8.toNat y12)) : Nat) : Int) :: (((((UInt8.toNat y13)) : Nat) : Int) :: ([] : List Int))))) * (1 : Nat)) ≤ lim) then A7 x4 x5 x6 x7 (Go.IntKind.wrap .i64 (x8 + (1 : Int))) x9 (x10 ++ (((((UInt8.toNat y12)) : Nat) : Int) :: (((((UInt8.toNat y13)) : Nat) : Int) :: ([] : List Int)))) else none)))) else (if ((((List.length x9) + (List.length ((strOf x10) :: ([] : List ByteArray)))) * (16 : Nat)) ≤ lim) then A3 x4 (Go.IntKind.wrap .i64 (x5 + (1 : Int))) (x9 ++ ((strOf x10) :: ([] : List ByteArray))) else none))
noncomputable def say_sayBag.l7 (fuel : Nat) (aKind : Int) (aI : Int) (aK : Int) (aAt : Int) (aBy : Int) (aSpanLo : Int) (aSpanHi : Int) (aBag : List (Int × List Int)) (aDraws : List Int) (A3 : Int → Int → (List ByteArray) → Option (List ByteArray)) : Nat → Int → Int → (List Int) → Int → Int → (List ByteArray) → (List Int) → Option (List ByteArray)
  | 0, _, _, _, _, _, _, _ => none
  | k + 1, x4, x5, x6, x7, x8, x9, x10 => say_sayBag.b7 aKind aI aK aAt aBy aSpanLo aSpanHi aBag aDraws A3 (say_sayBag.l7 fuel aKind aI aK aAt aBy aSpanLo aSpanHi aBag aDraws A3 k) x4 x5 x6 x7 x8 x9 x10
noncomputable def say_sayBag.s3 (aKind : Int) (aI : Int) (aK : Int) (aAt : Int) (aBy : Int) (aSpanLo : Int) (aSpanHi : Int) (aBag : List (Int × List Int)) (aDraws : List Int) (x0 : Int) (x1 : Int) (x2 : (List ByteArray)) : St := ⟨[.dead, .dead, .dead, .row 64, .dead, .dead, .dead, .dead, .dead, .dead, .d (.sl (.pair (.int .i64) (.sl (.int .u8)))) (aBag), .d (.int .i64) x0, .d (.int .i64) x1, .dead, .dead, .dead, .dead, .dead, .dead, .dead, .dead, .dead, .dead, .dead, .dead, .dead, .dead, .dead, .dead, .dead, .dead, .dead, .dead, .dead, .dead, .dead, .dead, .dead, .dead, .dead, .dead, .dead, .dead, .dead, .dead], ofL [(64, .row 9 .str x2 false)], 0⟩
noncomputable def say_sayBag.b3 (aKind : Int) (aI : Int) (aK : Int) (aAt : Int) (aBy : Int) (aSpanLo : Int) (aSpanHi : Int) (aBag : List (Int × List Int)) (aDraws : List Int) (A3 : Int → Int → (List ByteArray) → Option (List ByteArray)) (E7 : Int → Int → (List Int) → Int → Int → (List ByteArray) → (List Int) → Option (List ByteArray)) (x0 : Int) (x1 : Int) (x2 : (List ByteArray)) : Option (List ByteArray) :=
  (if (decide (x1 < x0)) then (match (idx aBag x1) with | none => none | some y3 => (if (((-9223372036854775808) ≤ y3.1) ∧ (y3.1 ≤ 9223372036854775807)) then (if (((ByteArray.size (itoaT y3.1)) + (ByteArray.size (⟨((58 :: ([] : List UInt8))).toArray⟩ : ByteArray))) ≤ (1099511627776 : Nat)) then (if ((ByteArray.size ((itoaT y3.1) ++ (⟨((58 :: ([] : List UInt8))).toArray⟩ : ByteArray))) ≤ lim) then E7 x0 x1 y3.2 ((((List.length y3.2)) : Nat) : Int) (0 : Int) x2 (bytesOf ((itoaT y3.1) ++ (⟨((58 :: ([] : List UInt8))).toArray⟩ : ByteArray))) else none) else none) else none)) else some (x2))
noncomputable def say_sayBag.l3 (fuel : Nat) (aKind : Int) (aI : Int) (aK : Int) (aAt : Int) (aBy : Int) (aSpanLo : Int) (aSpanHi : Int) (aBag : List (Int × List Int)) (aDraws : List Int) : Nat → Int → Int → (List ByteArray) → Option (List ByteArray)
  | 0, _, _, _ => none
  | k + 1, x0, x1, x2 => say_sayBag.b3 aKind aI aK aAt aBy aSpanLo aSpanHi aBag aDraws (say_sayBag.l3 fuel aKind aI aK aAt aBy aSpanLo aSpanHi aBag aDraws k) (say_sayBag.l7 fuel aKind aI aK aAt aBy aSpanLo aSpanHi aBag aDraws (say_sayBag.l3 fuel aKind aI aK aAt aBy aSpanLo aSpanHi aBag aDraws k) fuel) x0 x1 x2
noncomputable def say_sayBag.b (aKind : Int) (aI : Int) (aK : Int) (aAt : Int) (aBy : Int) (aSpanLo : Int) (aSpanHi : Int) (aBag : List (Int × List Int)) (aDraws : List Int) (E3 : Int → Int → (List ByteArray) → Option (List ByteArray)) : Option (List ByteArray) :=
  E3 ((((List.length aBag)) : Nat) : Int) (0 : Int) ([] : List ByteArray)
noncomputable def say_sayBag.f (fuel : Nat) (aKind : Int) (aI : Int) (aK : Int) (aAt : Int) (aBy : Int) (aSpanLo : Int) (aSpanHi : Int) (aBag : List (Int × List Int)) (aDraws : List Int) : Option (List ByteArray) := say_sayBag.b aKind aI aK aAt aBy aSpanLo aSpanHi aBag aDraws (say_sayBag.l3 fuel aKind aI aK aAt aBy aSpanLo aSpanHi aBag aDraws fuel)
theorem say_sayBag.l7_eq (fuel : Nat) (aKind : Int) (aI : Int) (aK : Int) (aAt : Int) (aBy : Int) (aSpanLo : Int) (aSpanHi : Int) (aBag : List (Int × List Int)) (aDraws : List Int) (k3 : Nat) : ∀ (k : Nat) (x4 : Int) (x5 : Int) (x6 : (List Int)) (x7 : Int) (x8 : Int) (x9 : (List ByteArray)) (x10 : (List Int)), lp say_sayBag_E fuel Tryz.f44 [.own 9 .str] 0 say_sayBag.k 7 [k3] k (say_sayBag.s7 aKind aI aK aAt aBy aSpanLo aSpanHi aBag aDraws x4 x5 x6 x7 x8 x9 x10) = say_sayBag.l7 fuel aKind aI aK aAt aBy aSpanLo aSpanHi aBag aDraws (fun x0 x1 x2 => lp say_sayBag_E fuel Tryz.f44 [.own 9 .str] 0 say_sayBag.k 3 [] k3 (say_sayBag.s3 aKind aI aK aAt aBy aSpanLo aSpanHi aBag aDraws x0 x1 x2)) k x4 x5 x6 x7 x8 x9 x10 := by
  intro k
  induction k with
  | zero => intro x4 x5 x6 x7 x8 x9 x10; rfl
  | succ k ih =>
    intro x4 x5 x6 x7 x8 x9 x10
    have h : lp say_sayBag_E fuel Tryz.f44 [.own 9 .str] 0 say_sayBag.k 7 [k3] (k + 1) (say_sayBag.s7 aKind aI aK aAt aBy aSpanLo aSpanHi aBag aDraws x4 x5 x6 x7 x8 x9 x10) = say_sayBag.b7 aKind aI aK aAt aBy aSpanLo aSpanHi aBag aDraws (fun x0 x1 x2 => lp say_sayBag_E fuel Tryz.f44 [.own 9 .str] 0 say_sayBag.k 3 [] k3 (say_sayBag.s3 aKind aI aK aAt aBy aSpanLo aSpanHi aBag aDraws x0 x1 x2)) (fun x4 x5 x6 x7 x8 x9 x10 => lp say_sayBag_E fuel Tryz.f44 [.own 9 .str] 0 say_sayBag.k 7 [k3] k (say_sayBag.s7 aKind aI aK aAt aBy aSpanLo aSpanHi aBag aDraws x4 x5 x6 x7 x8 x9 x10)) x4 x5 x6 x7 x8 x9 x10 := by kernel_rfl
    rw [h]
    have e7 : (fun x4 x5 x6 x7 x8 x9 x10 => lp say_sayBag_E fuel Tryz.f44 [.own 9 .str] 0 say_sayBag.k 7 [k3] k (say_sayBag.s7 aKind aI aK aAt aBy aSpanLo aSpanHi aBag aDraws x4 x5 x6 x7 x8 x9 x10)) = say_sayBag.l7 fuel aKind aI aK aAt aBy aSpanLo aSpanHi aBag aDraws (fun x0 x1 x2 => lp say_sayBag_E fuel Tryz.f44 [.own 9 .str] 0 say_sayBag.k 3 [] k3 (say_sayBag.s3 aKind aI aK aAt aBy aSpanLo aSpanHi aBag aDraws x0 x1 x2)) k := (funext fun x4 => (funext fun x5 => (funext fun x6 => (funext fun x7 => (funext fun x8 => (funext fun x9 => (funext fun x10 => ih x4 x5 x6 x7 x8 x9 x10)))))))
    rw [e7]
    rfl
theorem say_sayBag.l3_eq (fuel : Nat) (aKind : Int) (aI : Int) (aK : Int) (aAt : Int) (aBy : Int) (aSpanLo : Int) (aSpanHi : Int) (aBag : List (Int × List Int)) (aDraws : List Int) : ∀ (k : Nat) (x0 : Int) (x1 : Int) (x2 : (List ByteArray)), lp say_sayBag_E fuel Tryz.f44 [.own 9 .str] 0 say_sayBag.k 3 [] k (say_sayBag.s3 aKind aI aK aAt aBy aSpanLo aSpanHi aBag aDraws x0 x1 x2) = say_sayBag.l3 fuel aKind aI aK aAt aBy aSpanLo aSpanHi aBag aDraws k x0 x1 x2 := by
  intro k
  induction k with
  | zero => intro x0 x1 x2; rfl
  | succ k ih =>
    intro x0 x1 x2
    have h : lp say_sayBag_E fuel Tryz.f44 [.own 9 .str] 0 say_sayBag.k 3 [] (k + 1) (say_sayBag.s3 aKind aI aK aAt aBy aSpanLo aSpanHi aBag aDraws x0 x1 x2) = say_sayBag.b3 aKind aI aK aAt aBy aSpanLo aSpanHi aBag aDraws (fun x0 x1 x2 => lp say_sayBag_E fuel Tryz.f44 [.own 9 .str] 0 say_sayBag.k 3 [] k (say_sayBag.s3 aKind aI aK aAt aBy aSpanLo aSpanHi aBag aDraws x0 x1 x2)) (fun x4 x5 x6 x7 x8 x9 x10 => lp say_sayBag_E fuel Tryz.f44 [.own 9 .str] 0 say_sayBag.k 7 [k] fuel (say_sayBag.s7 aKind aI aK aAt aBy aSpanLo aSpanHi aBag aDraws x4 x5 x6 x7 x8 x9 x10)) x0 x1 x2 := by kernel_rfl
    rw [h]
    have e3 : (fun x0 x1 x2 => lp say_sayBag_E fuel Tryz.f44 [.own 9 .str] 0 say_sayBag.k 3 [] k (say_sayBag.s3 aKind aI aK aAt aBy aSpanLo aSpanHi aBag aDraws x0 x1 x2)) = say_sayBag.l3 fuel aKind aI aK aAt aBy aSpanLo aSpanHi aBag aDraws k := (funext fun x0 => (funext fun x1 => (funext fun x2 => ih x0 x1 x2)))
    rw [e3]
    have e7 : (fun x4 x5 x6 x7 x8 x9 x10 => lp say_sayBag_E fuel Tryz.f44 [.own 9 .str] 0 say_sayBag.k 7 [k] fuel (say_sayBag.s7 aKind aI aK aAt aBy aSpanLo aSpanHi aBag aDraws x4 x5 x6 x7 x8 x9 x10)) = say_sayBag.l7 fuel aKind aI aK aAt aBy aSpanLo aSpanHi aBag aDraws (fun x0 x1 x2 => lp say_sayBag_E fuel Tryz.f44 [.own 9 .str] 0 say_sayBag.k 3 [] k (say_sayBag.s3 aKind aI aK aAt aBy aSpanLo aSpanHi aBag aDraws x0 x1 x2)) fuel := (funext fun x4 => (funext fun x5 => (funext fun x6 => (funext fun x7 => (funext fun x8 => (funext fun x9 => (funext fun x10 => say_sayBag.l7_eq fuel aKind aI aK aAt aBy aSpanLo aSpanHi aBag aDraws k fuel x4 x5 x6 x7 x8 x9 x10)))))))
    rw [e7]
    rw [e3]
    rfl
theorem say_sayBag.eq (fuel : Nat) (aKind : Int) (aI : Int) (aK : Int) (aAt : Int) (aBy : Int) (aSpanLo : Int) (aSpanHi : Int) (aBag : List (Int × List Int)) (aDraws : List Int) : (denF say_sayBag_E loopN fuel Tryz.f44 [.own 9 .str] [.agg [.d (.int .i64) aKind, .d (.int .i64) aI, .d (.int .i64) aK, .d (.int .i64) aAt, .d (.int .i64) aBy, .d (.int .i64) aSpanLo, .d (.int .i64) aSpanHi, .d (.sl (.pair (.int .i64) (.sl (.int .u8)))) aBag, .d (.sl (.int .i64)) aDraws]] [] say_sayBag.k) = say_sayBag.f fuel aKind aI aK aAt aBy aSpanLo aSpanHi aBag aDraws := by
  have h : (denF say_sayBag_E loopN fuel Tryz.f44 [.own 9 .str] [.agg [.d (.int .i64) aKind, .d (.int .i64) aI, .d (.int .i64) aK, .d (.int .i64) aAt, .d (.int .i64) aBy, .d (.int .i64) aSpanLo, .d (.int .i64) aSpanHi, .d (.sl (.pair (.int .i64) (.sl (.int .u8)))) aBag, .d (.sl (.int .i64)) aDraws]] [] say_sayBag.k) = say_sayBag.b aKind aI aK aAt aBy aSpanLo aSpanHi aBag aDraws (fun x0 x1 x2 => lp say_sayBag_E fuel Tryz.f44 [.own 9 .str] 0 say_sayBag.k 3 [] fuel (say_sayBag.s3 aKind aI aK aAt aBy aSpanLo aSpanHi aBag aDraws x0 x1 x2)) := by kernel_rfl
  rw [h]
  have e3 : (fun x0 x1 x2 => lp say_sayBag_E fuel Tryz.f44 [.own 9 .str] 0 say_sayBag.k 3 [] fuel (say_sayBag.s3 aKind aI aK aAt aBy aSpanLo aSpanHi aBag aDraws x0 x1 x2)) = say_sayBag.l3 fuel aKind aI aK aAt aBy aSpanLo aSpanHi aBag aDraws fuel := (funext fun x0 => (funext fun x1 => (funext fun x2 => say_sayBag.l3_eq fuel aKind aI aK aAt aBy aSpanLo aSpanHi aBag aDraws fuel x0 x1 x2)))
  rw [e3]
  rfl
theorem say_sayBag.l3_at (fuel nN kK : Nat) (hN : nN = kK + 1) (aKind : Int) (aI : Int) (aK : Int) (aAt : Int) (aBy : Int) (aSpanLo : Int) (aSpanHi : Int) (aBag : List (Int × List Int)) (aDraws : List Int) (x0 : Int) (x1 : Int) (x2 : (List ByteArray)) : say_sayBag.l3 fuel aKind aI aK aAt aBy aSpanLo aSpanHi aBag aDraws nN x0 x1 x2 = say_sayBag.b3 aKind aI aK aAt aBy aSpanLo aSpanHi aBag aDraws (say_sayBag.l3 fuel aKind aI aK aAt aBy aSpanLo aSpanHi aBag aDraws kK) (say_sayBag.l7 fuel aKind aI aK aAt aBy aSpanLo aSpanHi aBag aDraws (say_sayBag.l3 fuel aKind aI aK aAt aBy aSpanLo aSpanHi aBag aDraws kK) fuel) x0 x1 x2 := by
  subst hN
  rfl
noncomputable def s_say_sayBag : Den.Sum := ⟨[.dat (.pair (.int .i64) (.pair (.int .i64) (.pair (.int .i64) (.pair (.int .i64) (.pair (.int .i64) (.pair (.pair (.int .i64) (.int .i64)) (.pair (.sl (.pair (.int .i64) (.sl (.int .u8)))) (.sl (.int .i64))))))))) true], fun args objs κ => match args, objs with
  | [.agg [.d (.int .i64) aKind, .d (.int .i64) aI, .d (.int .i64) aK, .d (.int .i64) aAt, .d (.int .i64) aBy, .d (.int .i64) aSpanLo, .d (.int .i64) aSpanHi, .d (.sl (.pair (.int .i64) (.sl (.int .u8)))) aBag, .d (.sl (.int .i64)) aDraws]], [] => (match veil (say_sayBag.f BIG aKind aI aK aAt aBy aSpanLo aSpanHi aBag aDraws) with | none => none | some y => κ [.row 0] [.row 9 .str y false])
  | _, _ => none⟩
theorem s_say_sayBag_det : SumDet s_say_sayBag := fun avs objs R κ => by
  show s_say_sayBag.run avs objs (two κ) = (s_say_sayBag.run avs objs (two some)).bind κ
  unfold s_say_sayBag
  simp only [veil_eq]
  split
  · split <;> rfl
  · rfl
theorem s_say_sayBag_ok : SumOk Tryz.prog 44 s_say_sayBag := by
  have hE : EnvOk Tryz.prog say_sayBag_E := env_ok (l := [(58, s_itoaS)]) th_ok any_ok ⟨⟨s_itoaS_ok, s_itoaS_det⟩, trivial⟩ _
  refine sum_ok hE Tryz.func44 rfl (by kernel_rfl) s_say_sayBag [.own 9 .str] say_sayBag.k ?_
  intro R avs objs κ r h
  unfold s_say_sayBag at h
  simp only [veil_eq] at h
  split at h
  · rename_i aKind aI aK aAt aBy aSpanLo aSpanHi aBag aDraws
    split at h
    · cases h
    · rename_i y hy
      refine ⟨BIG, _, _, _, (say_sayBag.eq BIG aKind aI aK aAt aBy aSpanLo aSpanHi aBag aDraws).trans hy, ?_, h⟩
      intro rs ros hk
      unfold say_sayBag.k at hk
      split at hk
      · first | (cases hk; exact ⟨rfl, rfl⟩) | (have e := Option.some.inj hk; rw [← e]; exact ⟨rfl, rfl⟩)
      · cases hk
  · cases h
noncomputable def say_parts_c8_E : Env := ⟨th, gam [(47, s_cloneDS)], fun i => ⟨[], [], []⟩⟩
noncomputable def s_say_parts_c8 : Den.Sum := inl say_parts_c8_E BIG Tryz.f46 [.raw, .raw] []
theorem say_parts_c8_envOk : EnvOk Tryz.prog say_parts_c8_E := env_ok (l := [(47, s_cloneDS)]) th_ok any_ok ⟨⟨s_cloneDS_ok, s_cloneDS_det⟩, trivial⟩ _
theorem s_say_parts_c8_det : SumDet s_say_parts_c8 := inl_det say_parts_c8_envOk.D _ _ _ _
theorem s_say_parts_c8_ok : SumOk Tryz.prog 46 s_say_parts_c8 := inl_ok say_parts_c8_envOk Tryz.func46 rfl (by kernel_rfl) _ _ _
noncomputable def say_sayDraws_E : Env := ⟨th, gam [(58, s_itoaS)], fun i => if i = 3 then ⟨[3, 7, 8, 9], [(3, 9, .str)], []⟩ else ⟨[], [], []⟩⟩
noncomputable def say_sayDraws.k (rs : List AV) (os : List Den.Obj) : Option (List ByteArray) :=
  match rs, os with
  | [.row 0], [.row 9 .str r0 false] => some r0
  | _, _ => none
noncomputable def say_sayDraws.s3 (aKind : Int) (aI : Int) (aK : Int) (aAt : Int) (aBy : Int) (aSpanLo : Int) (aSpanHi : Int) (aBag : List (Int × List Int)) (aDraws : List Int) (x0 : Int) (x1 : Int) (x2 : (List ByteArray)) : St := ⟨[.dead, .dead, .dead, .row 64, .dead, .dead, .dead, .d (.sl (.int .i64)) (aDraws), .d (.int .i64) x0, .d (.int .i64) x1, .dead, .dead, .dead, .dead, .dead, .dead, .dead, .dead, .dead, .dead], ofL [(64, .row 9 .str x2 false)], 0⟩
noncomputable def say_sayDraws.b3 (aKind : Int) (aI : Int) (aK : Int) (aAt : Int) (aBy : Int) (aSpanLo : Int) (aSpanHi : Int) (aBag : List (Int × List Int)) (aDraws : List Int) (A3 : Int → Int → (List ByteArray) → Option (List ByteArray)) (x0 : Int) (x1 : Int) (x2 : (List ByteArray)) : Option (List ByteArray) :=
  (if (decide (x1 < x0)) then (match (idx aDraws x1) with | none => none | some y3 => (if (((-9223372036854775808) ≤ y3) ∧ (y3 ≤ 9223372036854775807)) then (if ((((List.length x2) + (List.length ((itoaT y3) :: ([] : List ByteArray)))) * (16 : Nat)) ≤ lim) then A3 x0 (Go.IntKind.wrap .i64 (x1 + (1 : Int))) (x2 ++ ((itoaT y3) :: ([] : List ByteArray))) else none) else none)) else some (x2))
noncomputable def say_sayDraws.l3 (fuel : Nat) (aKind : Int) (aI : Int) (aK : Int) (aAt : Int) (aBy : Int) (aSpanLo : Int) (aSpanHi : Int) (aBag : List (Int × List Int)) (aDraws : List Int) : Nat → Int → Int → (List ByteArray) → Option (List ByteArray)
  | 0, _, _, _ => none
  | k + 1, x0, x1, x2 => say_sayDraws.b3 aKind aI aK aAt aBy aSpanLo aSpanHi aBag aDraws (say_sayDraws.l3 fuel aKind aI aK aAt aBy aSpanLo aSpanHi aBag aDraws k) x0 x1 x2
noncomputable def say_sayDraws.b (aKind : Int) (aI : Int) (aK : Int) (aAt : Int) (aBy : Int) (aSpanLo : Int) (aSpanHi : Int) (aBag : List (Int × List Int)) (aDraws : List Int) (E3 : Int → Int → (List ByteArray) → Option (List ByteArray)) : Option (List ByteArray) :=
  E3 ((((List.length aDraws)) : Nat) : Int) (0 : Int) ([] : List ByteArray)
noncomputable def say_sayDraws.f (fuel : Nat) (aKind : Int) (aI : Int) (aK : Int) (aAt : Int) (aBy : Int) (aSpanLo : Int) (aSpanHi : Int) (aBag : List (Int × List Int)) (aDraws : List Int) : Option (List ByteArray) := say_sayDraws.b aKind aI aK aAt aBy aSpanLo aSpanHi aBag aDraws (say_sayDraws.l3 fuel aKind aI aK aAt aBy aSpanLo aSpanHi aBag aDraws fuel)
theorem say_sayDraws.l3_eq (fuel : Nat) (aKind : Int) (aI : Int) (aK : Int) (aAt : Int) (aBy : Int) (aSpanLo : Int) (aSpanHi : Int) (aBag : List (Int × List Int)) (aDraws : List Int) : ∀ (k : Nat) (x0 : Int) (x1 : Int) (x2 : (List ByteArray)), lp say_sayDraws_E fuel Tryz.f48 [.own 9 .str] 0 say_sayDraws.k 3 [] k (say_sayDraws.s3 aKind aI aK aAt aBy aSpanLo aSpanHi aBag aDraws x0 x1 x2) = say_sayDraws.l3 fuel aKind aI aK aAt aBy aSpanLo aSpanHi aBag aDraws k x0 x1 x2 := by
  intro k
  induction k with
  | zero => intro x0 x1 x2; rfl
  | succ k ih =>
    intro x0 x1 x2
    have h : lp say_sayDraws_E fuel Tryz.f48 [.own 9 .str] 0 say_sayDraws.k 3 [] (k + 1) (say_sayDraws.s3 aKind aI aK aAt aBy aSpanLo aSpanHi aBag aDraws x0 x1 x2) = say_sayDraws.b3 aKind aI aK aAt aBy aSpanLo aSpanHi aBag aDraws (fun x0 x1 x2 => lp say_sayDraws_E fuel Tryz.f48 [.own 9 .str] 0 say_sayDraws.k 3 [] k (say_sayDraws.s3 aKind aI aK aAt aBy aSpanLo aSpanHi aBag aDraws x0 x1 x2)) x0 x1 x2 := by kernel_rfl
    rw [h]
    have e3 : (fun x0 x1 x2 => lp say_sayDraws_E fuel Tryz.f48 [.own 9 .str] 0 say_sayDraws.k 3 [] k (say_sayDraws.s3 aKind aI aK aAt aBy aSpanLo aSpanHi aBag aDraws x0 x1 x2)) = say_sayDraws.l3 fuel aKind aI aK aAt aBy aSpanLo aSpanHi aBag aDraws k := (funext fun x0 => (funext fun x1 => (funext fun x2 => ih x0 x1 x2)))
    rw [e3]
    rfl
theorem say_sayDraws.eq (fuel : Nat) (aKind : Int) (aI : Int) (aK : Int) (aAt : Int) (aBy : Int) (aSpanLo : Int) (aSpanHi : Int) (aBag : List (Int × List Int)) (aDraws : List Int) : (denF say_sayDraws_E loopN fuel Tryz.f48 [.own 9 .str] [.agg [.d (.int .i64) aKind, .d (.int .i64) aI, .d (.int .i64) aK, .d (.int .i64) aAt, .d (.int .i64) aBy, .d (.int .i64) aSpanLo, .d (.int .i64) aSpanHi, .d (.sl (.pair (.int .i64) (.sl (.int .u8)))) aBag, .d (.sl (.int .i64)) aDraws]] [] say_sayDraws.k) = say_sayDraws.f fuel aKind aI aK aAt aBy aSpanLo aSpanHi aBag aDraws := by
  have h : (denF say_sayDraws_E loopN fuel Tryz.f48 [.own 9 .str] [.agg [.d (.int .i64) aKind, .d (.int .i64) aI, .d (.int .i64) aK, .d (.int .i64) aAt, .d (.int .i64) aBy, .d (.int .i64) aSpanLo, .d (.int .i64) aSpanHi, .d (.sl (.pair (.int .i64) (.sl (.int .u8)))) aBag, .d (.sl (.int .i64)) aDraws]] [] say_sayDraws.k) = say_sayDraws.b aKind aI aK aAt aBy aSpanLo aSpanHi aBag aDraws (fun x0 x1 x2 => lp say_sayDraws_E fuel Tryz.f48 [.own 9 .str] 0 say_sayDraws.k 3 [] fuel (say_sayDraws.s3 aKind aI aK aAt aBy aSpanLo aSpanHi aBag aDraws x0 x1 x2)) := by kernel_rfl
  rw [h]
  have e3 : (fun x0 x1 x2 => lp say_sayDraws_E fuel Tryz.f48 [.own 9 .str] 0 say_sayDraws.k 3 [] fuel (say_sayDraws.s3 aKind aI aK aAt aBy aSpanLo aSpanHi aBag aDraws x0 x1 x2)) = say_sayDraws.l3 fuel aKind aI aK aAt aBy aSpanLo aSpanHi aBag aDraws fuel := (funext fun x0 => (funext fun x1 => (funext fun x2 => say_sayDraws.l3_eq fuel aKind aI aK aAt aBy aSpanLo aSpanHi aBag aDraws fuel x0 x1 x2)))
  rw [e3]
  rfl
noncomputable def s_say_sayDraws : Den.Sum := ⟨[.dat (.pair (.int .i64) (.pair (.int .i64) (.pair (.int .i64) (.pair (.int .i64) (.pair (.int .i64) (.pair (.pair (.int .i64) (.int .i64)) (.pair (.sl (.pair (.int .i64) (.sl (.int .u8)))) (.sl (.int .i64))))))))) true], fun args objs κ => match args, objs with
  | [.agg [.d (.int .i64) aKind, .d (.int .i64) aI, .d (.int .i64) aK, .d (.int .i64) aAt, .d (.int .i64) aBy, .d (.int .i64) aSpanLo, .d (.int .i64) aSpanHi, .d (.sl (.pair (.int .i64) (.sl (.int .u8)))) aBag, .d (.sl (.int .i64)) aDraws]], [] => (match veil (say_sayDraws.f BIG aKind aI aK aAt aBy aSpanLo aSpanHi aBag aDraws) with | none => none | some y => κ [.row 0] [.row 9 .str y false])
  | _, _ => none⟩
theorem s_say_sayDraws_det : SumDet s_say_sayDraws := fun avs objs R κ => by
  show s_say_sayDraws.run avs objs (two κ) = (s_say_sayDraws.run avs objs (two some)).bind κ
  unfold s_say_sayDraws
  simp only [veil_eq]
  split
  · split <;> rfl
  · rfl
theorem s_say_sayDraws_ok : SumOk Tryz.prog 48 s_say_sayDraws := by
  have hE : EnvOk Tryz.prog say_sayDraws_E := env_ok (l := [(58, s_itoaS)]) th_ok any_ok ⟨⟨s_itoaS_ok, s_itoaS_det⟩, trivial⟩ _
  refine sum_ok hE Tryz.func48 rfl (by kernel_rfl) s_say_sayDraws [.own 9 .str] say_sayDraws.k ?_
  intro R avs objs κ r h
  unfold s_say_sayDraws at h
  simp only [veil_eq] at h
  split at h
  · rename_i aKind aI aK aAt aBy aSpanLo aSpanHi aBag aDraws
    split at h
    · cases h
    · rename_i y hy
      refine ⟨BIG, _, _, _, (say_sayDraws.eq BIG aKind aI aK aAt aBy aSpanLo aSpanHi aBag aDraws).trans hy, ?_, h⟩
      intro rs ros hk
      unfold say_sayDraws.k at hk
      split at hk
      · first | (cases hk; exact ⟨rfl, rfl⟩) | (have e := Option.some.inj hk; rw [← e]; exact ⟨rfl, rfl⟩)
      · cases hk
  · cases h
noncomputable def say_readDraws_E : Env := ⟨th, gam [(60, s_parseS)], fun i => if i = 2 then ⟨[0, 10, 11, 12], [], [1002]⟩ else ⟨[], [], []⟩⟩
noncomputable def say_readDraws.k (rs : List AV) (os : List Den.Obj) : Option (Bool × Int × Int × Int × Int × Int × Int × Int × (List (Int × (List Int))) × (List Int) × (List ByteArray)) :=
  match rs, os with
  | [.row 5, .d .bool r0], [.box [.d (.int .i64) r1, .d (.int .i64) r2, .d (.int .i64) r3, .d (.int .i64) r4, .d (.int .i64) r5, .d (.int .i64) r6, .d (.int .i64) r7, .row 3, .row 4], .gone, .gone, .row 48 (.pair (.int .i64) (.sl (.int .u8))) r8 false, .row 3 (.int .i64) r9 false, .row 9 .str r10 false] => some (r0, r1, r2, r3, r4, r5, r6, r7, r8, r9, r10)
  | _, _ => none
noncomputable def say_readDraws.s2 (aKind : Int) (aI : Int) (aK : Int) (aAt : Int) (aBy : Int) (aLo : Int) (aHi : Int) (aBag : List (Int × List Int)) (aDraws : List Int) (words : List ByteArray) (x0 : Int) (x1 : Int) (x2 : (List Int)) : St := ⟨[.ptr 0 0, .dead, .dead, .dead, .dead, .dead, .dead, .dead, .dead, .dead, .d (.sl .str) (words), .d (.int .i64) x0, .d (.int .i64) x1, .dead, .dead, .dead, .dead, .dead, .dead, .dead, .dead, .dead, .dead, .dead, .dead, .dead, .dead, .dead, .dead, .dead, .dead, .dead, .dead, .dead], ofL [(0, .box [.d (.int .i64) (aKind), .d (.int .i64) (aI), .d (.int .i64) (aK), .d (.int .i64) (aAt), .d (.int .i64) (aBy), .d (.int .i64) (aLo), .d (.int .i64) (aHi), .row 1, .row 64]), (1, .row 48 (.pair (.int .i64) (.sl (.int .u8))) (aBag) false), (2, .gone), (64, .row 3 (.int .i64) x2 false)], 3⟩
noncomputable def say_readDraws.b2 (aKind : Int) (aI : Int) (aK : Int) (aAt : Int) (aBy : Int) (aLo : Int) (aHi : Int) (aBag : List (Int × List Int)) (aDraws : List Int) (words : List ByteArray) (A2 : Int → Int → (List Int) → Option (Bool × Int × Int × Int × Int × Int × Int × Int × (List (Int × (List Int))) × (List Int) × (List ByteArray))) (x0 : Int) (x1 : Int) (x2 : (List Int)) : Option (Bool × Int × Int × Int × Int × Int × Int × Int × (List (Int × (List Int))) × (List Int) × (List ByteArray)) :=
  (if (decide (x1 < x0)) then (match (idx words x1) with | none => none | some y3 => (if ((ByteArray.size y3) ≤ (281474976710656 : Nat)) then (if (!(parseB y3).2) then some (false, aKind, aI, aK, aAt, aBy, aLo, aHi, aBag, x2, ([] : List ByteArray)) else (if ((((List.length x2) + (List.length ((parseB y3).1 :: ([] : List Int)))) * (8 : Nat)) ≤ lim) then A2 x0 (Go.IntKind.wrap .i64 (x1 + (1 : Int))) (x2 ++ ((parseB y3).1 :: ([] : List Int))) else none)) else none)) else some (true, aKind, aI, aK, aAt, aBy, aLo, aHi, aBag, x2, ([] : List ByteArray)))
noncomputable def say_readDraws.l2 (fuel : Nat) (aKind : Int) (aI : Int) (aK : Int) (aAt : Int) (aBy : Int) (aLo : Int) (aHi : Int) (aBag : List (Int × List Int)) (aDraws : List Int) (words : List ByteArray) : Nat → Int → Int → (List Int) → Option (Bool × Int × Int × Int × Int × Int × Int × Int × (List (Int × (List Int))) × (List Int) × (List ByteArray))
  | 0, _, _, _ => none
  | k + 1, x0, x1, x2 => say_readDraws.b2 aKind aI aK aAt aBy aLo aHi aBag aDraws words (say_readDraws.l2 fuel aKind aI aK aAt aBy aLo aHi aBag aDraws words k) x0 x1 x2
noncomputable def say_readDraws.b (aKind : Int) (aI : Int) (aK : Int) (aAt : Int) (aBy : Int) (aLo : Int) (aHi : Int) (aBag : List (Int × List Int)) (aDraws : List Int) (words : List ByteArray) (E2 : Int → Int → (List Int) → Option (Bool × Int × Int × Int × Int × Int × Int × Int × (List (Int × (List Int))) × (List Int) × (List ByteArray))) : Option (Bool × Int × Int × Int × Int × Int × Int × Int × (List (Int × (List Int))) × (List Int) × (List ByteArray)) :=
  E2 ((((List.length words)) : Nat) : Int) (0 : Int) aDraws
noncomputable def say_readDraws.f (fuel : Nat) (aKind : Int) (aI : Int) (aK : Int) (aAt : Int) (aBy : Int) (aLo : Int) (aHi : Int) (aBag : List (Int × List Int)) (aDraws : List Int) (words : List ByteArray) : Option (Bool × Int × Int × Int × Int × Int × Int × Int × (List (Int × (List Int))) × (List Int) × (List ByteArray)) := say_readDraws.b aKind aI aK aAt aBy aLo aHi aBag aDraws words (say_readDraws.l2 fuel aKind aI aK aAt aBy aLo aHi aBag aDraws words fuel)
theorem say_readDraws.l2_eq (fuel : Nat) (aKind : Int) (aI : Int) (aK : Int) (aAt : Int) (aBy : Int) (aLo : Int) (aHi : Int) (aBag : List (Int × List Int)) (aDraws : List Int) (words : List ByteArray) : ∀ (k : Nat) (x0 : Int) (x1 : Int) (x2 : (List Int)), lp say_readDraws_E fuel Tryz.f49 [.own 9 .str, .raw, .pb [.own (some 0) [] 7 48 (.pair (.int .i64) (.sl (.int .u8))) true, .own (some 0) [] 8 3 (.int .i64) true, .kill 1, .kill 2]] 3 say_readDraws.k 2 [] k (say_readDraws.s2 aKind aI aK aAt aBy aLo aHi aBag aDraws words x0 x1 x2) = say_readDraws.l2 fuel aKind aI aK aAt aBy aLo aHi aBag aDraws words k x0 x1 x2 := by
  intro k
  induction k with
  | zero => intro x0 x1 x2; rfl
  | succ k ih =>
    intro x0 x1 x2
    have h : lp say_readDraws_E fuel Tryz.f49 [.own 9 .str, .raw, .pb [.own (some 0) [] 7 48 (.pair (.int .i64) (.sl (.int .u8))) true, .own (some 0) [] 8 3 (.int .i64) true, .kill 1, .kill 2]] 3 say_readDraws.k 2 [] (k + 1) (say_readDraws.s2 aKind aI aK aAt aBy aLo aHi aBag aDraws words x0 x1 x2) = say_readDraws.b2 aKind aI aK aAt aBy aLo aHi aBag aDraws words (fun x0 x1 x2 => lp say_readDraws_E fuel Tryz.f49 [.own 9 .str, .raw, .pb [.own (some 0) [] 7 48 (.pair (.int .i64) (.sl (.int .u8))) true, .own (some 0) [] 8 3 (.int .i64) true, .kill 1, .kill 2]] 3 say_readDraws.k 2 [] k (say_readDraws.s2 aKind aI aK aAt aBy aLo aHi aBag aDraws words x0 x1 x2)) x0 x1 x2 := by kernel_rfl
    rw [h]
    have e2 : (fun x0 x1 x2 => lp say_readDraws_E fuel Tryz.f49 [.own 9 .str, .raw, .pb [.own (some 0) [] 7 48 (.pair (.int .i64) (.sl (.int .u8))) true, .own (some 0) [] 8 3 (.int .i64) true, .kill 1, .kill 2]] 3 say_readDraws.k 2 [] k (say_readDraws.s2 aKind aI aK aAt aBy aLo aHi aBag aDraws words x0 x1 x2)) = say_readDraws.l2 fuel aKind aI aK aAt aBy aLo aHi aBag aDraws words k := (funext fun x0 => (funext fun x1 => (funext fun x2 => ih x0 x1 x2)))
    rw [e2]
    rfl
theorem say_readDraws.eq (fuel : Nat) (aKind : Int) (aI : Int) (aK : Int) (aAt : Int) (aBy : Int) (aLo : Int) (aHi : Int) (aBag : List (Int × List Int)) (aDraws : List Int) (words : List ByteArray) : (denF say_readDraws_E loopN fuel Tryz.f49 [.own 9 .str, .raw, .pb [.own (some 0) [] 7 48 (.pair (.int .i64) (.sl (.int .u8))) true, .own (some 0) [] 8 3 (.int .i64) true, .kill 1, .kill 2]] [.ptr 0 0, .d (.sl .str) words] [.box [.d (.int .i64) aKind, .d (.int .i64) aI, .d (.int .i64) aK, .d (.int .i64) aAt, .d (.int .i64) aBy, .d (.int .i64) aLo, .d (.int .i64) aHi, .row 1, .row 2], .row 48 (.pair (.int .i64) (.sl (.int .u8))) aBag false, .row 3 (.int .i64) aDraws false] say_readDraws.k) = say_readDraws.f fuel aKind aI aK aAt aBy aLo aHi aBag aDraws words := by
  have h : (denF say_readDraws_E loopN fuel Tryz.f49 [.own 9 .str, .raw, .pb [.own (some 0) [] 7 48 (.pair (.int .i64) (.sl (.int .u8))) true, .own (some 0) [] 8 3 (.int .i64) true, .kill 1, .kill 2]] [.ptr 0 0, .d (.sl .str) words] [.box [.d (.int .i64) aKind, .d (.int .i64) aI, .d (.int .i64) aK, .d (.int .i64) aAt, .d (.int .i64) aBy, .d (.int .i64) aLo, .d (.int .i64) aHi, .row 1, .row 2], .row 48 (.pair (.int .i64) (.sl (.int .u8))) aBag false, .row 3 (.int .i64) aDraws false] say_readDraws.k) = say_readDraws.b aKind aI aK aAt aBy aLo aHi aBag aDraws words (fun x0 x1 x2 => lp say_readDraws_E fuel Tryz.f49 [.own 9 .str, .raw, .pb [.own (some 0) [] 7 48 (.pair (.int .i64) (.sl (.int .u8))) true, .own (some 0) [] 8 3 (.int .i64) true, .kill 1, .kill 2]] 3 say_readDraws.k 2 [] fuel (say_readDraws.s2 aKind aI aK aAt aBy aLo aHi aBag aDraws words x0 x1 x2)) := by kernel_rfl
  rw [h]
  have e2 : (fun x0 x1 x2 => lp say_readDraws_E fuel Tryz.f49 [.own 9 .str, .raw, .pb [.own (some 0) [] 7 48 (.pair (.int .i64) (.sl (.int .u8))) true, .own (some 0) [] 8 3 (.int .i64) true, .kill 1, .kill 2]] 3 say_readDraws.k 2 [] fuel (say_readDraws.s2 aKind aI aK aAt aBy aLo aHi aBag aDraws words x0 x1 x2)) = say_readDraws.l2 fuel aKind aI aK aAt aBy aLo aHi aBag aDraws words fuel := (funext fun x0 => (funext fun x1 => (funext fun x2 => say_readDraws.l2_eq fuel aKind aI aK aAt aBy aLo aHi aBag aDraws words fuel x0 x1 x2)))
  rw [e2]
  rfl
theorem say_readDraws.l2_at (fuel nN kK : Nat) (hN : nN = kK + 1) (aKind : Int) (aI : Int) (aK : Int) (aAt : Int) (aBy : Int) (aLo : Int) (aHi : Int) (aBag : List (Int × List Int)) (aDraws : List Int) (words : List ByteArray) (x0 : Int) (x1 : Int) (x2 : (List Int)) : say_readDraws.l2 fuel aKind aI aK aAt aBy aLo aHi aBag aDraws words nN x0 x1 x2 = say_readDraws.b2 aKind aI aK aAt aBy aLo aHi aBag aDraws words (say_readDraws.l2 fuel aKind aI aK aAt aBy aLo aHi aBag aDraws words kK) x0 x1 x2 := by
  subst hN
  rfl
noncomputable def s_say_readDraws : Den.Sum := ⟨[.pb [.own none [] 7 48 (.pair (.int .i64) (.sl (.int .u8))) false, .own none [] 8 3 (.int .i64) false], .dat (.sl .str) false], fun args objs κ => match args, objs with
  | [.ptr 0 0, .d (.sl .str) words], [.box [.d (.int .i64) aKind, .d (.int .i64) aI, .d (.int .i64) aK, .d (.int .i64) aAt, .d (.int .i64) aBy, .d (.int .i64) aLo, .d (.int .i64) aHi, .row 1, .row 2], .row 48 (.pair (.int .i64) (.sl (.int .u8))) aBag false, .row 3 (.int .i64) aDraws false] => (match veil (say_readDraws.f BIG aKind aI aK aAt aBy aLo aHi aBag aDraws words) with | none => none | some y => κ [.row 5, .d .bool y.1] [.box [.d (.int .i64) y.2.1, .d (.int .i64) y.2.2.1, .d (.int .i64) y.2.2.2.1, .d (.int .i64) y.2.2.2.2.1, .d (.int .i64) y.2.2.2.2.2.1, .d (.int .i64) y.2.2.2.2.2.2.1, .d (.int .i64) y.2.2.2.2.2.2.2.1, .row 3, .row 4], .gone, .gone, .row 48 (.pair (.int .i64) (.sl (.int .u8))) y.2.2.2.2.2.2.2.2.1 false, .row 3 (.int .i64) y.2.2.2.2.2.2.2.2.2.1 false, .row 9 .str y.2.2.2.2.2.2.2.2.2.2 false])
  | _, _ => none⟩
theorem s_say_readDraws_det : SumDet s_say_readDraws := fun avs objs R κ => by
  show s_say_readDraws.run avs objs (two κ) = (s_say_readDraws.run avs objs (two some)).bind κ
  unfold s_say_readDraws
  simp only [veil_eq]
  split
  · split <;> rfl
  · rfl
theorem s_say_readDraws_ok : SumOk Tryz.prog 49 s_say_readDraws := by
  have hE : EnvOk Tryz.prog say_readDraws_E := env_ok (l := [(60, s_parseS)]) th_ok any_ok ⟨⟨s_parseS_ok, s_parseS_det⟩, trivial⟩ _
  refine sum_ok hE Tryz.func49 rfl (by kernel_rfl) s_say_readDraws [.own 9 .str, .raw, .pb [.own (some 0) [] 7 48 (.pair (.int .i64) (.sl (.int .u8))) true, .own (some 0) [] 8 3 (.int .i64) true, .kill 1, .kill 2]] say_readDraws.k ?_
  intro R avs objs κ r h
  unfold s_say_readDraws at h
  simp only [veil_eq] at h
  split at h
  · rename_i words aKind aI aK aAt aBy aLo aHi aBag aDraws
    split at h
    · cases h
    · rename_i y hy
      refine ⟨BIG, _, _, _, (say_readDraws.eq BIG aKind aI aK aAt aBy aLo aHi aBag aDraws words).trans hy, ?_, h⟩
      intro rs ros hk
      unfold say_readDraws.k at hk
      split at hk
      · first | (cases hk; exact ⟨rfl, rfl⟩) | (have e := Option.some.inj hk; rw [← e]; exact ⟨rfl, rfl⟩)
      · cases hk
  · cases h
noncomputable def bag_one_E : Env := ⟨th, gam [], fun i => ⟨[], [], []⟩⟩
noncomputable def bag_one.k (rs : List AV) (os : List Den.Obj) : Option (Int × (List Int)) :=
  match rs, os with
  | [.agg [.d (.int .i64) r0, .d (.sl (.int .u8)) r1]], [] => some (r0, r1)
  | _, _ => none
noncomputable def bag_one.b (fTag : Int) (fData : List Int) : Option (Int × (List Int)) :=
  (if (((0 : Int) ≤ ((((List.length fData)) : Nat) : Int)) ∧ ((((((List.length fData)) : Nat) : Int) ≤ ((((List.length fData)) : Nat) : Int)) ∧ (((((((List.length fData)) : Nat) : Int) * ((((1 : Nat)) : Nat) : Int)) ≤ (1099511627776 : Int)) ∧ (((((List.length fData)) : Nat) : Int) ≤ (1099511627776 : Int))))) then (if ((false = false) ∧ ((List.length fData) ≤ (List.length (List.replicate (Int.toNat ((((List.length fData)) : Nat) : Int)) (zeroI (Go.Den.Ty.int .u8)))))) then some (fTag, (fData ++ (List.drop (List.length fData) (List.replicate (Int.toNat ((((List.length fData)) : Nat) : Int)) (zeroI (Go.Den.Ty.int .u8)))))) else none) else none)
noncomputable def bag_one.f (fuel : Nat) (fTag : Int) (fData : List Int) : Option (Int × (List Int)) := bag_one.b fTag fData
theorem bag_one.eq (fuel : Nat) (fTag : Int) (fData : List Int) : (denF bag_one_E loopN fuel Tryz.f62 [.dat (.pair (.int .i64) (.sl (.int .u8))) true] [.agg [.d (.int .i64) fTag, .d (.sl (.int .u8)) fData]] [] bag_one.k) = bag_one.f fuel fTag fData := by
  kernel_rfl
noncomputable def s_bag_one : Den.Sum := ⟨[.dat (.pair (.int .i64) (.sl (.int .u8))) true], fun args objs κ => match args, objs with
  | [.agg [.d (.int .i64) fTag, .d (.sl (.int .u8)) fData]], [] => (match veil (bag_one.f BIG fTag fData) with | none => none | some y => κ [.agg [.d (.int .i64) y.1, .d (.sl (.int .u8)) y.2]] [])
  | _, _ => none⟩
theorem s_bag_one_det : SumDet s_bag_one := fun avs objs R κ => by
  show s_bag_one.run avs objs (two κ) = (s_bag_one.run avs objs (two some)).bind κ
  unfold s_bag_one
  simp only [veil_eq]
  split
  · split <;> rfl
  · rfl
theorem s_bag_one_ok : SumOk Tryz.prog 62 s_bag_one := by
  have hE : EnvOk Tryz.prog bag_one_E := env_ok (l := []) th_ok any_ok trivial _
  refine sum_ok hE Tryz.func62 rfl (by kernel_rfl) s_bag_one [.dat (.pair (.int .i64) (.sl (.int .u8))) true] bag_one.k ?_
  intro R avs objs κ r h
  unfold s_bag_one at h
  simp only [veil_eq] at h
  split at h
  · rename_i fTag fData
    split at h
    · cases h
    · rename_i y hy
      refine ⟨BIG, _, _, _, (bag_one.eq BIG fTag fData).trans hy, ?_, h⟩
      intro rs ros hk
      unfold bag_one.k at hk
      split at hk
      · first | (cases hk; exact ⟨rfl, rfl⟩) | (have e := Option.some.inj hk; rw [← e]; exact ⟨rfl, rfl⟩)
      · cases hk
  · cases h
noncomputable def say_readField_E : Env := ⟨th, gam [(60, s_parseS), (75, s_cutS), (76, s_indexS)], fun i => if i = 7 then ⟨[2, 5, 9, 10], [(1577, 5, (.int .u8))], []⟩ else ⟨[], [], []⟩⟩
noncomputable def say_readField.k (rs : List AV) (os : List Den.Obj) : Option (Int × (List Int) × Bool) :=
  match rs, os with
  | [.agg [.d (.int .i64) r0, .d (.sl (.int .u8)) r1], .d .bool r2], [] => some (r0, r1, r2)
  | _, _ => none
noncomputable def say_readField.s7 (w : ByteArray) (x0 : Int) (x1 : (List Int)) : St := ⟨[.dead, .dead, .ptr 64 0, .dead, .dead, .d .str ((cutL w (⟨((58 :: ([] : List UInt8))).toArray⟩ : ByteArray)).2.1), .dead, .dead, .dead, .ptr 65 0, .d (.int .i64) x0, .dead, .dead, .dead, .dead, .dead, .dead, .dead, .dead, .dead, .dead, .dead, .dead, .dead, .dead, .dead, .dead, .dead, .dead, .dead, .dead, .dead, .dead, .dead, .dead, .dead, .dead, .dead, .dead, .dead, .dead, .dead, .dead, .dead, .dead, .dead, .dead, .dead, .dead, .dead, .dead, .dead, .dead, .dead, .dead, .dead, .dead, .dead, .dead, .dead, .dead, .dead, .dead, .dead, .dead, .dead, .dead, .dead, .dead, .dead, .dead, .dead], ofL [(64, .box [.d (.int .i64) (0), .nilsl]), (65, .box [.d (.int .i64) ((parseB (cutL w (⟨((58 :: ([] : List UInt8))).toArray⟩ : ByteArray)).1).1), .row 66]), (66, .row 5 (.int .u8) x1 false)], 0⟩
noncomputable def say_readField.b7 (w : ByteArray) (A7 : Int → (List Int) → Option (Int × (List Int) × Bool)) (x0 : Int) (x1 : (List Int)) : Option (Int × (List Int) × Bool) :=
  (if (decide (x0 < ((((ByteArray.size (cutL w (⟨((58 :: ([] : List UInt8))).toArray⟩ : ByteArray)).2.1)) : Nat) : Int))) then (match (idx (Array.toList (ByteArray.data (cutL w (⟨((58 :: ([] : List UInt8))).toArray⟩ : ByteArray)).2.1)) x0) with | none => none | some y2 => (match (idx (Array.toList (ByteArray.data (cutL w (⟨((58 :: ([] : List UInt8))).toArray⟩ : ByteArray)).2.1)) (Go.IntKind.wrap .i64 (x0 + (1 : Int)))) with | none => none | some y3 => (if (decide ((Go.Lib.indexByte (Array.toList (ByteArray.data (⟨((48 :: (49 :: (50 :: (51 :: (52 :: (53 :: (54 :: (55 :: (56 :: (57 :: (97 :: (98 :: (99 :: (100 :: (101 :: (102 :: ([] : List UInt8)))))))))))))))))).toArray⟩ : ByteArray))) (Nat.toUInt8 (Int.toNat ((((UInt8.toNat y2)) : Nat) : Int)))) < (0 : Int))) then some (0, ([] : List Int), false) else (if (decide ((Go.Lib.indexByte (Array.toList (ByteArray.data (⟨((48 :: (49 :: (50 :: (51 :: (52 :: (53 :: (54 :: (55 :: (56 :: (57 :: (97 :: (98 :: (99 :: (100 :: (101 :: (102 :: ([] : List UInt8)))))))))))))))))).toArray⟩ : ByteArray))) (Nat.toUInt8 (Int.toNat ((((UInt8.toNat y3)) : Nat) : Int)))) < (0 : Int))) then some (0, ([] : List Int), false) else (if ((((List.length x1) + (List.length ((Go.IntKind.wrap .u8 (bits Go.BinOp.or .i64 (Go.IntKind.wrap .i64 ((Go.Lib.indexByte (Array.toList (ByteArray.data (⟨((48 :: (49 :: (50 :: (51 :: (52 :: (53 :: (54 :: (55 :: (56 :: (57 :: (97 :: (98 :: (99 :: (100 :: (101 :: (102 :: ([] : List UInt8)))))))))))))))))).toArray⟩ : ByteArray))) (Nat.toUInt8 (Int.toNat ((((UInt8.toNat y2)) : Nat) : Int)))) * ((2 : Int) ^ (Min.min (Int.toNat (4 : Int)) (Go.IntKind.bits .i64))))) (Go.Lib.indexByte (Array.toList (ByteArray.data (⟨((48 :: (49 :: (50 :: (51 :: (52 :: (53 :: (54 :: (55 :: (56 :: (57 :: (97 :: (98 :: (99 :: (100 :: (101 :: (102 :: ([] : List UInt8)))))))))))))))))).toArray⟩ : ByteArray))) (Nat.toUInt8 (Int.toNat ((((UInt8.toNat y3)) : Nat) : Int)))))) :: ([] : List Int)))) * (1 : Nat)) ≤ lim) then A7 (Go.IntKind.wrap .i64 (x0 + (2 : Int))) (x1 ++ ((Go.IntKind.wrap .u8 (bits Go.BinOp.or .i64 (Go.IntKind.wrap .i64 ((Go.Lib.indexByte (Array.toList (ByteArray.data (⟨((48 :: (49 :: (50 :: (51 :: (52 :: (53 :: (54 :: (55 :: (56 :: (57 :: (97 :: (98 :: (99 :: (100 :: (101 :: (102 :: ([] : List UInt8)))))))))))))))))).toArray⟩ : ByteArray))) (Nat.toUInt8 (Int.toNat ((((UInt8.toNat y2)) : Nat) : Int)))) * ((2 : Int) ^ (Min.min (Int.toNat (4 : Int)) (Go.IntKind.bits .i64))))) (Go.Lib.indexByte (Array.toList (ByteArray.data (⟨((48 :: (49 :: (50 :: (51 :: (52 :: (53 :: (54 :: (55 :: (56 :: (57 :: (97 :: (98 :: (99 :: (100 :: (101 :: (102 :: ([] : List UInt8)))))))))))))))))).toArray⟩ : ByteArray))) (Nat.toUInt8 (Int.toNat ((((UInt8.toNat y3)) : Nat) : Int)))))) :: ([] : List Int))) else none))))) else some ((parseB (cutL w (⟨((58 :: ([] : List UInt8))).toArray⟩ : ByteArray)).1).1, x1, true))
noncomputable def say_readField.l7 (fuel : Nat) (w : ByteArray) : Nat → Int → (List Int) → Option (Int × (List Int) × Bool)
  | 0, _, _ => none
  | k + 1, x0, x1 => say_readField.b7 w (say_readField.l7 fuel w k) x0 x1
noncomputable def say_readField.b (w : ByteArray) (E7 : Int → (List Int) → Option (Int × (List Int) × Bool)) : Option (Int × (List Int) × Bool) :=
  (if ((ByteArray.size w) < (4294967281 : Nat)) then (if ((ByteArray.size (cutL w (⟨((58 :: ([] : List UInt8))).toArray⟩ : ByteArray)).1) ≤ (281474976710656 : Nat)) then (if (!(cutL w (⟨((58 :: ([] : List UInt8))).toArray⟩ : ByteArray)).2.2) then some (0, ([] : List Int), false) else (if (!(parseB (cutL w (⟨((58 :: ([] : List UInt8))).toArray⟩ : ByteArray)).1).2) then some (0, ([] : List Int), false) else (if ((Int.tmod ((((ByteArray.size (cutL w (⟨((58 :: ([] : List UInt8))).toArray⟩ : ByteArray)).2.1)) : Nat) : Int) (2 : Int)) != (0 : Int)) then some (0, ([] : List Int), false) else E7 (0 : Int) ([] : List Int)))) else none) else none)
noncomputable def say_readField.f (fuel : Nat) (w : ByteArray) : Option (Int × (List Int) × Bool) := say_readField.b w (say_readField.l7 fuel w fuel)
theorem say_readField.l7_eq (fuel : Nat) (w : ByteArray) : ∀ (k : Nat) (x0 : Int) (x1 : (List Int)), lp say_readField_E fuel Tryz.f63 [.dat (.pair (.int .i64) (.sl (.int .u8))) true, .raw] 0 say_readField.k 7 [] k (say_readField.s7 w x0 x1) = say_readField.l7 fuel w k x0 x1 := by
  intro k
  induction k with
  | zero => intro x0 x1; rfl
  | succ k ih =>
    intro x0 x1
    have h : lp say_readField_E fuel Tryz.f63 [.dat (.pair (.int .i64) (.sl (.int .u8))) true, .raw] 0 say_readField.k 7 [] (k + 1) (say_readField.s7 w x0 x1) = say_readField.b7 w (fun x0 x1 => lp say_readField_E fuel Tryz.f63 [.dat (.pair (.int .i64) (.sl (.int .u8))) true, .raw] 0 say_readField.k 7 [] k (say_readField.s7 w x0 x1)) x0 x1 := by kernel_rfl
    rw [h]
    have e7 : (fun x0 x1 => lp say_readField_E fuel Tryz.f63 [.dat (.pair (.int .i64) (.sl (.int .u8))) true, .raw] 0 say_readField.k 7 [] k (say_readField.s7 w x0 x1)) = say_readField.l7 fuel w k := (funext fun x0 => (funext fun x1 => ih x0 x1))
    rw [e7]
    rfl
theorem say_readField.eq (fuel : Nat) (w : ByteArray) : (denF say_readField_E loopN fuel Tryz.f63 [.dat (.pair (.int .i64) (.sl (.int .u8))) true, .raw] [.d .str w] [] say_readField.k) = say_readField.f fuel w := by
  have h : (denF say_readField_E loopN fuel Tryz.f63 [.dat (.pair (.int .i64) (.sl (.int .u8))) true, .raw] [.d .str w] [] say_readField.k) = say_readField.b w (fun x0 x1 => lp say_readField_E fuel Tryz.f63 [.dat (.pair (.int .i64) (.sl (.int .u8))) true, .raw] 0 say_readField.k 7 [] fuel (say_readField.s7 w x0 x1)) := by kernel_rfl
  rw [h]
  have e7 : (fun x0 x1 => lp say_readField_E fuel Tryz.f63 [.dat (.pair (.int .i64) (.sl (.int .u8))) true, .raw] 0 say_readField.k 7 [] fuel (say_readField.s7 w x0 x1)) = say_readField.l7 fuel w fuel := (funext fun x0 => (funext fun x1 => say_readField.l7_eq fuel w fuel x0 x1))
  rw [e7]
  rfl
noncomputable def s_say_readField : Den.Sum := ⟨[.raw], fun args objs κ => match args, objs with
  | [.d .str w], [] => (match veil (say_readField.f BIG w) with | none => none | some y => κ [.agg [.d (.int .i64) y.1, .d (.sl (.int .u8)) y.2.1], .d .bool y.2.2] [])
  | _, _ => none⟩
theorem s_say_readField_det : SumDet s_say_readField := fun avs objs R κ => by
  show s_say_readField.run avs objs (two κ) = (s_say_readField.run avs objs (two some)).bind κ
  unfold s_say_readField
  simp only [veil_eq]
  split
  · split <;> rfl
  · rfl
theorem s_say_readField_ok : SumOk Tryz.prog 63 s_say_readField := by
  have hE : EnvOk Tryz.prog say_readField_E := env_ok (l := [(60, s_parseS), (75, s_cutS), (76, s_indexS)]) th_ok any_ok ⟨⟨s_parseS_ok, s_parseS_det⟩, ⟨s_cutS_ok, s_cutS_det⟩, ⟨s_indexS_ok, s_indexS_det⟩, trivial⟩ _
  refine sum_ok hE Tryz.func63 rfl (by kernel_rfl) s_say_readField [.dat (.pair (.int .i64) (.sl (.int .u8))) true, .raw] say_readField.k ?_
  intro R avs objs κ r h
  unfold s_say_readField at h
  simp only [veil_eq] at h
  split at h
  · rename_i w
    split at h
    · cases h
    · rename_i y hy
      refine ⟨BIG, _, _, _, (say_readField.eq BIG w).trans hy, ?_, h⟩
      intro rs ros hk
      unfold say_readField.k at hk
      split at hk
      · first | (cases hk; exact ⟨rfl, rfl⟩) | (have e := Option.some.inj hk; rw [← e]; exact ⟨rfl, rfl⟩)
      · cases hk
  · cases h
noncomputable def span_All_E : Env := ⟨th, gam [], fun i => if i = 3 then ⟨[1, 2], [(1, 24, (.pair (.int .i64) (.int .i64)))], []⟩ else if i = 6 then ⟨[1, 2, 3], [(1, 24, (.pair (.int .i64) (.int .i64)))], []⟩ else ⟨[], [], []⟩⟩
noncomputable def span_All.k (rs : List AV) (os : List Den.Obj) : Option (List (Int × Int)) :=
  match rs, os with
  | [.row 0], [.row 24 (.pair (.int .i64) (.int .i64)) r0 false] => some r0
  | _, _ => none
noncomputable def span_All.s6 (u : Unit) (x2 : Int) (x3 : Int) (x4 : (List (Int × Int))) : St := ⟨[.dead, .row 64, .d (.int .i64) x2, .d (.int .i64) x3, .dead, .dead, .dead, .dead, .dead, .dead, .dead, .dead, .dead, .dead, .dead, .dead, .dead, .dead, .dead, .dead], ofL [(64, .row 24 (.pair (.int .i64) (.int .i64)) x4 false)], 0⟩
noncomputable def span_All.b6 (u : Unit) (A3 : Int → (List (Int × Int)) → Option (List (Int × Int))) (A6 : Int → Int → (List (Int × Int)) → Option (List (Int × Int))) (x2 : Int) (x3 : Int) (x4 : (List (Int × Int))) : Option (List (Int × Int)) :=
  (if (decide (x3 ≤ (3 : Int))) then (if ((((List.length x4) + (List.length ((x2, x3) :: ([] : List (Int × Int))))) * (16 : Nat)) ≤ lim) then A6 x2 (Go.IntKind.wrap .i64 (x3 + (1 : Int))) (x4 ++ ((x2, x3) :: ([] : List (Int × Int)))) else none) else A3 (Go.IntKind.wrap .i64 (x2 + (1 : Int))) x4)
noncomputable def span_All.l6 (fuel : Nat) (u : Unit) (A3 : Int → (List (Int × Int)) → Option (List (Int × Int))) : Nat → Int → Int → (List (Int × Int)) → Option (List (Int × Int))
  | 0, _, _, _ => none
  | k + 1, x2, x3, x4 => span_All.b6 u A3 (span_All.l6 fuel u A3 k) x2 x3 x4
noncomputable def span_All.s3 (u : Unit) (x0 : Int) (x1 : (List (Int × Int))) : St := ⟨[.dead, .row 64, .d (.int .i64) x0, .dead, .dead, .dead, .dead, .dead, .dead, .dead, .dead, .dead, .dead, .dead, .dead, .dead, .dead, .dead, .dead, .dead], ofL [(64, .row 24 (.pair (.int .i64) (.int .i64)) x1 false)], 0⟩
noncomputable def span_All.b3 (u : Unit) (A3 : Int → (List (Int × Int)) → Option (List (Int × Int))) (E6 : Int → Int → (List (Int × Int)) → Option (List (Int × Int))) (x0 : Int) (x1 : (List (Int × Int))) : Option (List (Int × Int)) :=
  (if (decide (x0 ≤ (3 : Int))) then E6 x0 x0 x1 else some (x1))
noncomputable def span_All.l3 (fuel : Nat) (u : Unit) : Nat → Int → (List (Int × Int)) → Option (List (Int × Int))
  | 0, _, _ => none
  | k + 1, x0, x1 => span_All.b3 u (span_All.l3 fuel u k) (span_All.l6 fuel u (span_All.l3 fuel u k) fuel) x0 x1
noncomputable def span_All.b (u : Unit) (E3 : Int → (List (Int × Int)) → Option (List (Int × Int))) : Option (List (Int × Int)) :=
  E3 (1 : Int) ([] : List (Int × Int))
noncomputable def span_All.f (fuel : Nat) (u : Unit) : Option (List (Int × Int)) := span_All.b u (span_All.l3 fuel u fuel)
theorem span_All.l6_eq (fuel : Nat) (u : Unit) (k3 : Nat) : ∀ (k : Nat) (x2 : Int) (x3 : Int) (x4 : (List (Int × Int))), lp span_All_E fuel Tryz.f74 [.own 24 (.pair (.int .i64) (.int .i64))] 0 span_All.k 6 [k3] k (span_All.s6 u x2 x3 x4) = span_All.l6 fuel u (fun x0 x1 => lp span_All_E fuel Tryz.f74 [.own 24 (.pair (.int .i64) (.int .i64))] 0 span_All.k 3 [] k3 (span_All.s3 u x0 x1)) k x2 x3 x4 := by
  intro k
  induction k with
  | zero => intro x2 x3 x4; rfl
  | succ k ih =>
    intro x2 x3 x4
    have h : lp span_All_E fuel Tryz.f74 [.own 24 (.pair (.int .i64) (.int .i64))] 0 span_All.k 6 [k3] (k + 1) (span_All.s6 u x2 x3 x4) = span_All.b6 u (fun x0 x1 => lp span_All_E fuel Tryz.f74 [.own 24 (.pair (.int .i64) (.int .i64))] 0 span_All.k 3 [] k3 (span_All.s3 u x0 x1)) (fun x2 x3 x4 => lp span_All_E fuel Tryz.f74 [.own 24 (.pair (.int .i64) (.int .i64))] 0 span_All.k 6 [k3] k (span_All.s6 u x2 x3 x4)) x2 x3 x4 := by kernel_rfl
    rw [h]
    have e6 : (fun x2 x3 x4 => lp span_All_E fuel Tryz.f74 [.own 24 (.pair (.int .i64) (.int .i64))] 0 span_All.k 6 [k3] k (span_All.s6 u x2 x3 x4)) = span_All.l6 fuel u (fun x0 x1 => lp span_All_E fuel Tryz.f74 [.own 24 (.pair (.int .i64) (.int .i64))] 0 span_All.k 3 [] k3 (span_All.s3 u x0 x1)) k := (funext fun x2 => (funext fun x3 => (funext fun x4 => ih x2 x3 x4)))
    rw [e6]
    rfl
theorem span_All.l3_eq (fuel : Nat) (u : Unit) : ∀ (k : Nat) (x0 : Int) (x1 : (List (Int × Int))), lp span_All_E fuel Tryz.f74 [.own 24 (.pair (.int .i64) (.int .i64))] 0 span_All.k 3 [] k (span_All.s3 u x0 x1) = span_All.l3 fuel u k x0 x1 := by
  intro k
  induction k with
  | zero => intro x0 x1; rfl
  | succ k ih =>
    intro x0 x1
    have h : lp span_All_E fuel Tryz.f74 [.own 24 (.pair (.int .i64) (.int .i64))] 0 span_All.k 3 [] (k + 1) (span_All.s3 u x0 x1) = span_All.b3 u (fun x0 x1 => lp span_All_E fuel Tryz.f74 [.own 24 (.pair (.int .i64) (.int .i64))] 0 span_All.k 3 [] k (span_All.s3 u x0 x1)) (fun x2 x3 x4 => lp span_All_E fuel Tryz.f74 [.own 24 (.pair (.int .i64) (.int .i64))] 0 span_All.k 6 [k] fuel (span_All.s6 u x2 x3 x4)) x0 x1 := by kernel_rfl
    rw [h]
    have e3 : (fun x0 x1 => lp span_All_E fuel Tryz.f74 [.own 24 (.pair (.int .i64) (.int .i64))] 0 span_All.k 3 [] k (span_All.s3 u x0 x1)) = span_All.l3 fuel u k := (funext fun x0 => (funext fun x1 => ih x0 x1))
    rw [e3]
    have e6 : (fun x2 x3 x4 => lp span_All_E fuel Tryz.f74 [.own 24 (.pair (.int .i64) (.int .i64))] 0 span_All.k 6 [k] fuel (span_All.s6 u x2 x3 x4)) = span_All.l6 fuel u (fun x0 x1 => lp span_All_E fuel Tryz.f74 [.own 24 (.pair (.int .i64) (.int .i64))] 0 span_All.k 3 [] k (span_All.s3 u x0 x1)) fuel := (funext fun x2 => (funext fun x3 => (funext fun x4 => span_All.l6_eq fuel u k fuel x2 x3 x4)))
    rw [e6]
    rw [e3]
    rfl
theorem span_All.eq (fuel : Nat) (u : Unit) : (denF span_All_E loopN fuel Tryz.f74 [.own 24 (.pair (.int .i64) (.int .i64))] [] [] span_All.k) = span_All.f fuel u := by
  have h : (denF span_All_E loopN fuel Tryz.f74 [.own 24 (.pair (.int .i64) (.int .i64))] [] [] span_All.k) = span_All.b u (fun x0 x1 => lp span_All_E fuel Tryz.f74 [.own 24 (.pair (.int .i64) (.int .i64))] 0 span_All.k 3 [] fuel (span_All.s3 u x0 x1)) := by kernel_rfl
  rw [h]
  have e3 : (fun x0 x1 => lp span_All_E fuel Tryz.f74 [.own 24 (.pair (.int .i64) (.int .i64))] 0 span_All.k 3 [] fuel (span_All.s3 u x0 x1)) = span_All.l3 fuel u fuel := (funext fun x0 => (funext fun x1 => span_All.l3_eq fuel u fuel x0 x1))
  rw [e3]
  rfl
noncomputable def s_span_All : Den.Sum := ⟨[], fun args objs κ => match args, objs with
  | [], [] => (match veil (span_All.f BIG ()) with | none => none | some y => κ [.row 0] [.row 24 (.pair (.int .i64) (.int .i64)) y false])
  | _, _ => none⟩
theorem s_span_All_det : SumDet s_span_All := fun avs objs R κ => by
  show s_span_All.run avs objs (two κ) = (s_span_All.run avs objs (two some)).bind κ
  unfold s_span_All
  simp only [veil_eq]
  split
  · split <;> rfl
  · rfl
theorem s_span_All_ok : SumOk Tryz.prog 74 s_span_All := by
  have hE : EnvOk Tryz.prog span_All_E := env_ok (l := []) th_ok any_ok trivial _
  refine sum_ok hE Tryz.func74 rfl (by kernel_rfl) s_span_All [.own 24 (.pair (.int .i64) (.int .i64))] span_All.k ?_
  intro R avs objs κ r h
  unfold s_span_All at h
  simp only [veil_eq] at h
  split at h
  · skip
    split at h
    · cases h
    · rename_i y hy
      refine ⟨BIG, _, _, _, (span_All.eq BIG ()).trans hy, ?_, h⟩
      intro rs ros hk
      unfold span_All.k at hk
      split at hk
      · first | (cases hk; exact ⟨rfl, rfl⟩) | (have e := Option.some.inj hk; rw [← e]; exact ⟨rfl, rfl⟩)
      · cases hk
  · cases h
noncomputable def slices_Index_api_Span_api_Span_E : Env := ⟨th, gam [], fun i => if i = 2 then ⟨[0, 3, 7, 8], [], []⟩ else ⟨[], [], []⟩⟩
noncomputable def slices_Index_api_Span_api_Span.k (rs : List AV) (os : List Den.Obj) : Option Int :=
  match rs, os with
  | [.d (.int .i64) r0], [] => some r0
  | _, _ => none
noncomputable def slices_Index_api_Span_api_Span.s2 (s : List (Int × Int)) (vLo : Int) (vHi : Int) (x0 : Int) (x1 : Int) : St := ⟨[.d (.sl (.pair (.int .i64) (.int .i64))) (s), .dead, .dead, .ptr 64 0, .dead, .dead, .dead, .d (.int .i64) x0, .d (.int .i64) x1, .dead, .dead, .dead, .dead, .dead, .dead, .dead, .dead, .dead, .dead], ofL [(64, .box [.d (.int .i64) (vLo), .d (.int .i64) (vHi)])], 0⟩
noncomputable def slices_Index_api_Span_api_Span.b2 (s : List (Int × Int)) (vLo : Int) (vHi : Int) (A2 : Int → Int → Option Int) (x0 : Int) (x1 : Int) : Option Int :=
  (if (decide (x1 < x0)) then (match (idx s x1) with | none => none | some y2 => (if (if (vLo == y2.1) then (if (vHi == y2.2) then true else false) else false) then some (x1) else A2 x0 (Go.IntKind.wrap .i64 (x1 + (1 : Int))))) else some ((-(1 : Int))))
noncomputable def slices_Index_api_Span_api_Span.l2 (fuel : Nat) (s : List (Int × Int)) (vLo : Int) (vHi : Int) : Nat → Int → Int → Option Int
  | 0, _, _ => none
  | k + 1, x0, x1 => slices_Index_api_Span_api_Span.b2 s vLo vHi (slices_Index_api_Span_api_Span.l2 fuel s vLo vHi k) x0 x1
noncomputable def slices_Index_api_Span_api_Span.b (s : List (Int × Int)) (vLo : Int) (vHi : Int) (E2 : Int → Int → Option Int) : Option Int :=
  E2 ((((List.length s)) : Nat) : Int) (0 : Int)
noncomputable def slices_Index_api_Span_api_Span.f (fuel : Nat) (s : List (Int × Int)) (vLo : Int) (vHi : Int) : Option Int := slices_Index_api_Span_api_Span.b s vLo vHi (slices_Index_api_Span_api_Span.l2 fuel s vLo vHi fuel)
theorem slices_Index_api_Span_api_Span.l2_eq (fuel : Nat) (s : List (Int × Int)) (vLo : Int) (vHi : Int) : ∀ (k : Nat) (x0 : Int) (x1 : Int), lp slices_Index_api_Span_api_Span_E fuel Tryz.f87 [.raw] 0 slices_Index_api_Span_api_Span.k 2 [] k (slices_Index_api_Span_api_Span.s2 s vLo vHi x0 x1) = slices_Index_api_Span_api_Span.l2 fuel s vLo vHi k x0 x1 := by
  intro k
  induction k with
  | zero => intro x0 x1; rfl
  | succ k ih =>
    intro x0 x1
    have h : lp slices_Index_api_Span_api_Span_E fuel Tryz.f87 [.raw] 0 slices_Index_api_Span_api_Span.k 2 [] (k + 1) (slices_Index_api_Span_api_Span.s2 s vLo vHi x0 x1) = slices_Index_api_Span_api_Span.b2 s vLo vHi (fun x0 x1 => lp slices_Index_api_Span_api_Span_E fuel Tryz.f87 [.raw] 0 slices_Index_api_Span_api_Span.k 2 [] k (slices_Index_api_Span_api_Span.s2 s vLo vHi x0 x1)) x0 x1 := by kernel_rfl
    rw [h]
    have e2 : (fun x0 x1 => lp slices_Index_api_Span_api_Span_E fuel Tryz.f87 [.raw] 0 slices_Index_api_Span_api_Span.k 2 [] k (slices_Index_api_Span_api_Span.s2 s vLo vHi x0 x1)) = slices_Index_api_Span_api_Span.l2 fuel s vLo vHi k := (funext fun x0 => (funext fun x1 => ih x0 x1))
    rw [e2]
    rfl
theorem slices_Index_api_Span_api_Span.eq (fuel : Nat) (s : List (Int × Int)) (vLo : Int) (vHi : Int) : (denF slices_Index_api_Span_api_Span_E loopN fuel Tryz.f87 [.raw] [.d (.sl (.pair (.int .i64) (.int .i64))) s, .agg [.d (.int .i64) vLo, .d (.int .i64) vHi]] [] slices_Index_api_Span_api_Span.k) = slices_Index_api_Span_api_Span.f fuel s vLo vHi := by
  have h : (denF slices_Index_api_Span_api_Span_E loopN fuel Tryz.f87 [.raw] [.d (.sl (.pair (.int .i64) (.int .i64))) s, .agg [.d (.int .i64) vLo, .d (.int .i64) vHi]] [] slices_Index_api_Span_api_Span.k) = slices_Index_api_Span_api_Span.b s vLo vHi (fun x0 x1 => lp slices_Index_api_Span_api_Span_E fuel Tryz.f87 [.raw] 0 slices_Index_api_Span_api_Span.k 2 [] fuel (slices_Index_api_Span_api_Span.s2 s vLo vHi x0 x1)) := by kernel_rfl
  rw [h]
  have e2 : (fun x0 x1 => lp slices_Index_api_Span_api_Span_E fuel Tryz.f87 [.raw] 0 slices_Index_api_Span_api_Span.k 2 [] fuel (slices_Index_api_Span_api_Span.s2 s vLo vHi x0 x1)) = slices_Index_api_Span_api_Span.l2 fuel s vLo vHi fuel := (funext fun x0 => (funext fun x1 => slices_Index_api_Span_api_Span.l2_eq fuel s vLo vHi fuel x0 x1))
  rw [e2]
  rfl
noncomputable def s_slices_Index_api_Span_api_Span : Den.Sum := ⟨[.dat (.sl (.pair (.int .i64) (.int .i64))) false, .dat (.pair (.int .i64) (.int .i64)) true], fun args objs κ => match args, objs with
  | [.d (.sl (.pair (.int .i64) (.int .i64))) s, .agg [.d (.int .i64) vLo, .d (.int .i64) vHi]], [] => (match veil (slices_Index_api_Span_api_Span.f BIG s vLo vHi) with | none => none | some y => κ [.d (.int .i64) y] [])
  | _, _ => none⟩
theorem s_slices_Index_api_Span_api_Span_det : SumDet s_slices_Index_api_Span_api_Span := fun avs objs R κ => by
  show s_slices_Index_api_Span_api_Span.run avs objs (two κ) = (s_slices_Index_api_Span_api_Span.run avs objs (two some)).bind κ
  unfold s_slices_Index_api_Span_api_Span
  simp only [veil_eq]
  split
  · split <;> rfl
  · rfl
theorem s_slices_Index_api_Span_api_Span_ok : SumOk Tryz.prog 87 s_slices_Index_api_Span_api_Span := by
  have hE : EnvOk Tryz.prog slices_Index_api_Span_api_Span_E := env_ok (l := []) th_ok any_ok trivial _
  refine sum_ok hE Tryz.func87 rfl (by kernel_rfl) s_slices_Index_api_Span_api_Span [.raw] slices_Index_api_Span_api_Span.k ?_
  intro R avs objs κ r h
  unfold s_slices_Index_api_Span_api_Span at h
  simp only [veil_eq] at h
  split at h
  · rename_i s vLo vHi
    split at h
    · cases h
    · rename_i y hy
      refine ⟨BIG, _, _, _, (slices_Index_api_Span_api_Span.eq BIG s vLo vHi).trans hy, ?_, h⟩
      intro rs ros hk
      unfold slices_Index_api_Span_api_Span.k at hk
      split at hk
      · first | (cases hk; exact ⟨rfl, rfl⟩) | (have e := Option.some.inj hk; rw [← e]; exact ⟨rfl, rfl⟩)
      · cases hk
  · cases h
noncomputable def cmp_isNaN_byte_E : Env := ⟨th, gam [], fun i => ⟨[], [], []⟩⟩
noncomputable def cmp_isNaN_byte.k (rs : List AV) (os : List Den.Obj) : Option Bool :=
  match rs, os with
  | [.d .bool r0], [] => some r0
  | _, _ => none
noncomputable def cmp_isNaN_byte.b (x0 : Int) : Option Bool :=
  some ((x0 != x0))
noncomputable def cmp_isNaN_byte.f (fuel : Nat) (x0 : Int) : Option Bool := cmp_isNaN_byte.b x0
theorem cmp_isNaN_byte.eq (fuel : Nat) (x0 : Int) : (denF cmp_isNaN_byte_E loopN fuel Tryz.f101 [.raw] [.d (.int .u8) x0] [] cmp_isNaN_byte.k) = cmp_isNaN_byte.f fuel x0 := by
  kernel_rfl
noncomputable def s_cmp_isNaN_byte : Den.Sum := ⟨[.raw], fun args objs κ => match args, objs with
  | [.d (.int .u8) x0], [] => (match veil (cmp_isNaN_byte.f BIG x0) with | none => none | some y => κ [.d .bool y] [])
  | _, _ => none⟩
theorem s_cmp_isNaN_byte_det : SumDet s_cmp_isNaN_byte := fun avs objs R κ => by
  show s_cmp_isNaN_byte.run avs objs (two κ) = (s_cmp_isNaN_byte.run avs objs (two some)).bind κ
  unfold s_cmp_isNaN_byte
  simp only [veil_eq]
  split
  · split <;> rfl
  · rfl
theorem s_cmp_isNaN_byte_ok : SumOk Tryz.prog 101 s_cmp_isNaN_byte := by
  have hE : EnvOk Tryz.prog cmp_isNaN_byte_E := env_ok (l := []) th_ok any_ok trivial _
  refine sum_ok hE Tryz.func101 rfl (by kernel_rfl) s_cmp_isNaN_byte [.raw] cmp_isNaN_byte.k ?_
  intro R avs objs κ r h
  unfold s_cmp_isNaN_byte at h
  simp only [veil_eq] at h
  split at h
  · rename_i x0
    split at h
    · cases h
    · rename_i y hy
      refine ⟨BIG, _, _, _, (cmp_isNaN_byte.eq BIG x0).trans hy, ?_, h⟩
      intro rs ros hk
      unfold cmp_isNaN_byte.k at hk
      split at hk
      · first | (cases hk; exact ⟨rfl, rfl⟩) | (have e := Option.some.inj hk; rw [← e]; exact ⟨rfl, rfl⟩)
      · cases hk
  · cases h
noncomputable def law39_line_E : Env := ⟨th, gam [(17, s_span_Valid), (23, s_law39_num), (24, s_law39_hex)], fun i => if i = 18 then ⟨[1, 4, 5, 6], [], []⟩ else if i = 22 then ⟨[1, 4, 5, 6, 7], [], []⟩ else if i = 27 then ⟨[1, 5, 8], [], []⟩ else if i = 5 then ⟨[1, 3, 4], [], [777777]⟩ else if i = 8 then ⟨[1, 4, 5], [], [777777]⟩ else if i = 10 then ⟨[1, 4, 5], [], [777777]⟩ else if i = 12 then ⟨[1, 4, 5], [], [777777]⟩ else if i = 14 then ⟨[1, 4, 5], [], [777777]⟩ else if i = 16 then ⟨[1, 4, 5], [], [777777]⟩ else if i = 25 then ⟨[1, 4, 5], [], [777777]⟩ else if i = 30 then ⟨[5], [], [777777]⟩ else ⟨[], [], []⟩⟩
noncomputable def law39_line.k (rs : List AV) (os : List Den.Obj) : Option ByteArray :=
  match rs, os with
  | [.d .str r0], [] => some r0
  | _, _ => none
noncomputable def law39_line.s22 (aKind : Int) (aI : Int) (aK : Int) (aAt : Int) (aBy : Int) (aSpanLo : Int) (aSpanHi : Int) (aBag : List (Int × List Int)) (aDraws : List Int) (x18 : ByteArray) (x19 : Int) (x20 : Int) : St := ⟨[.dead, .ptr 64 0, .dead, .dead, .d (.int .i64) (aKind), .d .str x18, .d (.int .i64) x19, .d (.int .i64) x20, .dead, .dead, .dead, .dead, .dead, .dead, .dead, .dead, .dead, .dead, .dead, .dead, .dead, .dead, .dead, .dead, .dead, .dead, .dead, .dead, .dead, .dead, .dead, .dead, .dead, .dead, .dead, .dead, .dead, .dead, .dead, .dead, .dead, .dead, .dead, .dead, .dead, .dead, .dead, .dead, .dead, .dead, .dead, .dead, .dead, .dead, .dead, .dead, .dead, .dead, .dead, .dead, .dead, .dead, .dead, .dead, .dead, .dead, .dead, .dead, .dead, .dead, .dead, .dead, .dead, .dead, .dead, .dead, .dead, .dead, .dead, .dead, .dead, .dead, .dead, .dead, .dead, .dead, .dead, .dead, .dead, .dead, .dead, .dead, .dead, .dead, .dead, .dead, .dead, .dead, .dead, .dead, .dead, .dead, .dead, .dead, .dead, .dead, .dead, .dead, .dead, .dead, .dead, .dead, .dead, .dead, .dead, .dead, .dead, .dead, .dead, .dead, .dead, .dead, .dead, .dead, .dead, .dead, .dead, .dead, .dead, .dead, .dead, .dead, .dead, .dead, .dead, .dead, .dead, .dead, .dead, .dead, .dead, .dead, .dead, .dead, .dead, .dead, .dead, .dead, .dead, .dead, .dead, .dead, .dead, .dead, .dead, .dead, .dead], ofL [(64, .box [.d (.int .i64) (aKind), .d (.int .i64) (aI), .d (.int .i64) (aK), .d (.int .i64) (aAt), .d (.int .i64) (aBy), .d (.int .i64) (aSpanLo), .d (.int .i64) (aSpanHi), .d (.sl (.pair (.int .i64) (.sl (.int .u8)))) (aBag), .d (.sl (.int .i64)) (aDraws)])], 0⟩
noncomputable def law39_line.b22 (aKind : Int) (aI : Int) (aK : Int) (aAt : Int) (aBy : Int) (aSpanLo : Int) (aSpanHi : Int) (aBag : List (Int × List Int)) (aDraws : List Int) (A18 : ByteArray → Int → Option ByteArray) (A22 : ByteArray → Int → Int → Option ByteArray) (x18 : ByteArray) (x19 : Int) (x20 : Int) : Option ByteArray :=
  (match (idx aBag x19) with | none => none | some y21 => (if (decide (x20 < ((((List.length y21.2)) : Nat) : Int))) then (match (idx aBag x19) with | none => none | some y22 => (match (idx y22.2 x20) with | none => none | some y23 => (match (veil (law39_hex.f BIG y23)) with | none => none | some y24 => (if (((ByteArray.size x18) + (ByteArray.size y24)) ≤ (1099511627776 : Nat)) then A22 (x18 ++ y24) x19 (Go.IntKind.wrap .i64 (x20 + (1 : Int))) else none)))) else A18 x18 (Go.IntKind.wrap .i64 (x19 + (1 : Int)))))
noncomputable def law39_line.l22 (fuel : Nat) (aKind : Int) (aI : Int) (aK : Int) (aAt : Int) (aBy : Int) (aSpanLo : Int) (aSpanHi : Int) (aBag : List (Int × List Int)) (aDraws : List Int) (A18 : ByteArray → Int → Option ByteArray) : Nat → ByteArray → Int → Int → Option ByteArray
  | 0, _, _, _ => none
  | k + 1, x18, x19, x20 => law39_line.b22 aKind aI aK aAt aBy aSpanLo aSpanHi aBag aDraws A18 (law39_line.l22 fuel aKind aI aK aAt aBy aSpanLo aSpanHi aBag aDraws A18 k) x18 x19 x20
noncomputable def law39_line.s30 (aKind : Int) (aI : Int) (aK : Int) (aAt : Int) (aBy : Int) (aSpanLo : Int) (aSpanHi : Int) (aBag : List (Int × List Int)) (aDraws : List Int) (x30 : ByteArray) : St := ⟨[.dead, .dead, .dead, .dead, .dead, .d .str x30, .dead, .dead, .dead, .dead, .dead, .dead, .dead, .dead, .dead, .dead, .dead, .dead, .dead, .dead, .dead, .dead, .dead, .dead, .dead, .dead, .dead, .dead, .dead, .dead, .dead, .dead, .dead, .dead, .dead, .dead, .dead, .dead, .dead, .dead, .dead, .dead, .dead, .dead, .dead, .dead, .dead, .dead, .dead, .dead, .dead, .dead, .dead, .dead, .dead, .dead, .dead, .dead, .dead, .dead, .dead, .dead, .dead, .dead, .dead, .dead, .dead, .dead, .dead, .dead, .dead, .dead, .dead, .dead, .dead, .dead, .dead, .dead, .dead, .dead, .dead, .dead, .dead, .dead, .dead, .dead, .dead, .dead, .dead, .dead, .dead, .dead, .dead, .dead, .dead, .dead, .dead, .dead, .dead, .dead, .dead, .dead, .dead, .dead, .dead, .dead, .dead, .dead, .dead, .dead, .dead, .dead, .dead, .dead, .dead, .dead, .dead, .dead, .dead, .dead, .dead, .dead, .dead, .dead, .dead, .dead, .dead, .dead, .dead, .dead, .dead, .dead, .dead, .dead, .dead, .dead, .dead, .dead, .dead, .dead, .dead, .dead, .dead, .dead, .dead, .dead, .dead, .dead, .dead, .dead, .dead, .dead, .dead, .dead, .dead, .dead, .dead], ofL [], 0⟩
noncomputable def law39_line.b30 (aKind : Int) (aI : Int) (aK : Int) (aAt : Int) (aBy : Int) (aSpanLo : Int) (aSpanHi : Int) (aBag : List (Int × List Int)) (aDraws : List Int) (A30 : ByteArray → Option ByteArray) (x30 : ByteArray) : Option ByteArray :=
  some (x30)
noncomputable def law39_line.l30 (fuel : Nat) (aKind : Int) (aI : Int) (aK : Int) (aAt : Int) (aBy : Int) (aSpanLo : Int) (aSpanHi : Int) (aBag : List (Int × List Int)) (aDraws : List Int) : Nat → ByteArray → Option ByteArray
  | 0, _ => none
  | k + 1, x30 => law39_line.b30 aKind aI aK aAt aBy aSpanLo aSpanHi aBag aDraws (law39_line.l30 fuel aKind aI aK aAt aBy aSpanLo aSpanHi aBag aDraws k) x30
noncomputable def law39_line.s27 (aKind : Int) (aI : Int) (aK : Int) (aAt : Int) (aBy : Int) (aSpanLo : Int) (aSpanHi : Int) (aBag : List (Int × List Int)) (aDraws : List Int) (x26 : ByteArray) (x27 : Int) : St := ⟨[.dead, .ptr 64 0, .dead, .dead, .dead, .d .str x26, .dead, .dead, .d (.int .i64) x27, .dead, .dead, .dead, .dead, .dead, .dead, .dead, .dead, .dead, .dead, .dead, .dead, .dead, .dead, .dead, .dead, .dead, .dead, .dead, .dead, .dead, .dead, .dead, .dead, .dead, .dead, .dead, .dead, .dead, .dead, .dead, .dead, .dead, .dead, .dead, .dead, .dead, .dead, .dead, .dead, .dead, .dead, .dead, .dead, .dead, .dead, .dead, .dead, .dead, .dead, .dead, .dead, .dead, .dead, .dead, .dead, .dead, .dead, .dead, .dead, .dead, .dead, .dead, .dead, .dead, .dead, .dead, .dead, .dead, .dead, .dead, .dead, .dead, .dead, .dead, .dead, .dead, .dead, .dead, .dead, .dead, .dead, .dead, .dead, .dead, .dead, .dead, .dead, .dead, .dead, .dead, .dead, .dead, .dead, .dead, .dead, .dead, .dead, .dead, .dead, .dead, .dead, .dead, .dead, .dead, .dead, .dead, .dead, .dead, .dead, .dead, .dead, .dead, .dead, .dead, .dead, .dead, .dead, .dead, .dead, .dead, .dead, .dead, .dead, .dead, .dead, .dead, .dead, .dead, .dead, .dead, .dead, .dead, .dead, .dead, .dead, .dead, .dead, .dead, .dead, .dead, .dead, .dead, .dead, .dead, .dead, .dead, .dead], ofL [(64, .box [.d (.int .i64) (aKind), .d (.int .i64) (aI), .d (.int .i64) (aK), .d (.int .i64) (aAt), .d (.int .i64) (aBy), .d (.int .i64) (aSpanLo), .d (.int .i64) (aSpanHi), .d (.sl (.pair (.int .i64) (.sl (.int .u8)))) (aBag), .d (.sl (.int .i64)) (aDraws)])], 0⟩
noncomputable def law39_line.b27 (aKind : Int) (aI : Int) (aK : Int) (aAt : Int) (aBy : Int) (aSpanLo : Int) (aSpanHi : Int) (aBag : List (Int × List Int)) (aDraws : List Int) (A27 : ByteArray → Int → Option ByteArray) (E30 : ByteArray → Option ByteArray) (x26 : ByteArray) (x27 : Int) : Option ByteArray :=
  (if (decide (x27 < ((((List.length aDraws)) : Nat) : Int))) then (if (((ByteArray.size x26) + (ByteArray.size (⟨((32 :: ([] : List UInt8))).toArray⟩ : ByteArray))) ≤ (1099511627776 : Nat)) then (match (idx aDraws x27) with | none => none | some y28 => (match (veil (law39_num.f BIG y28)) with | none => none | some y29 => (if (((ByteArray.size (x26 ++ (⟨((32 :: ([] : List UInt8))).toArray⟩ : ByteArray))) + (ByteArray.size y29)) ≤ (1099511627776 : Nat)) then A27 ((x26 ++ (⟨((32 :: ([] : List UInt8))).toArray⟩ : ByteArray)) ++ y29) (Go.IntKind.wrap .i64 (x27 + (1 : Int))) else none))) else none) else E30 x26)
noncomputable def law39_line.l27 (fuel : Nat) (aKind : Int) (aI : Int) (aK : Int) (aAt : Int) (aBy : Int) (aSpanLo : Int) (aSpanHi : Int) (aBag : List (Int × List Int)) (aDraws : List Int) : Nat → ByteArray → Int → Option ByteArray
  | 0, _, _ => none
  | k + 1, x26, x27 => law39_line.b27 aKind aI aK aAt aBy aSpanLo aSpanHi aBag aDraws (law39_line.l27 fuel aKind aI aK aAt aBy aSpanLo aSpanHi aBag aDraws k) (law39_line.l30 fuel aKind aI aK aAt aBy aSpanLo aSpanHi aBag aDraws fuel) x26 x27
noncomputable def law39_line.s25 (aKind : Int) (aI : Int) (aK : Int) (aAt : Int) (aBy : Int) (aSpanLo : Int) (aSpanHi : Int) (aBag : List (Int × List Int)) (aDraws : List Int) (x25 : ByteArray) : St := ⟨[.dead, .ptr 64 0, .dead, .dead, .d (.int .i64) (aKind), .d .str x25, .dead, .dead, .dead, .dead, .dead, .dead, .dead, .dead, .dead, .dead, .dead, .dead, .dead, .dead, .dead, .dead, .dead, .dead, .dead, .dead, .dead, .dead, .dead, .dead, .dead, .dead, .dead, .dead, .dead, .dead, .dead, .dead, .dead, .dead, .dead, .dead, .dead, .dead, .dead, .dead, .dead, .dead, .dead, .dead, .dead, .dead, .dead, .dead, .dead, .dead, .dead, .dead, .dead, .dead, .dead, .dead, .dead, .dead, .dead, .dead, .dead, .dead, .dead, .dead, .dead, .dead, .dead, .dead, .dead, .dead, .dead, .dead, .dead, .dead, .dead, .dead, .dead, .dead, .dead, .dead, .dead, .dead, .dead, .dead, .dead, .dead, .dead, .dead, .dead, .dead, .dead, .dead, .dead, .dead, .dead, .dead, .dead, .dead, .dead, .dead, .dead, .dead, .dead, .dead, .dead, .dead, .dead, .dead, .dead, .dead, .dead, .dead, .dead, .dead, .dead, .dead, .dead, .dead, .dead, .dead, .dead, .dead, .dead, .dead, .dead, .dead, .dead, .dead, .dead, .dead, .dead, .dead, .dead, .dead, .dead, .dead, .dead, .dead, .dead, .dead, .dead, .dead, .dead, .dead, .dead, .dead, .dead, .dead, .dead, .dead, .dead], ofL [(64, .box [.d (.int .i64) (aKind), .d (.int .i64) (aI), .d (.int .i64) (aK), .d (.int .i64) (aAt), .d (.int .i64) (aBy), .d (.int .i64) (aSpanLo), .d (.int .i64) (aSpanHi), .d (.sl (.pair (.int .i64) (.sl (.int .u8)))) (aBag), .d (.sl (.int .i64)) (aDraws)])], 0⟩
noncomputable def law39_line.b25 (aKind : Int) (aI : Int) (aK : Int) (aAt : Int) (aBy : Int) (aSpanLo : Int) (aSpanHi : Int) (aBag : List (Int × List Int)) (aDraws : List Int) (A25 : ByteArray → Option ByteArray) (E27 : ByteArray → Int → Option ByteArray) (E30 : ByteArray → Option ByteArray) (x25 : ByteArray) : Option ByteArray :=
  (if (aKind == (3 : Int)) then E27 x25 (0 : Int) else E30 x25)
noncomputable def law39_line.l25 (fuel : Nat) (aKind : Int) (aI : Int) (aK : Int) (aAt : Int) (aBy : Int) (aSpanLo : Int) (aSpanHi : Int) (aBag : List (Int × List Int)) (aDraws : List Int) : Nat → ByteArray → Option ByteArray
  | 0, _ => none
  | k + 1, x25 => law39_line.b25 aKind aI aK aAt aBy aSpanLo aSpanHi aBag aDraws (law39_line.l25 fuel aKind aI aK aAt aBy aSpanLo aSpanHi aBag aDraws k) (law39_line.l27 fuel aKind aI aK aAt aBy aSpanLo aSpanHi aBag aDraws fuel) (law39_line.l30 fuel aKind aI aK aAt aBy aSpanLo aSpanHi aBag aDraws fuel) x25
noncomputable def law39_line.s18 (aKind : Int) (aI : Int) (aK : Int) (aAt : Int) (aBy : Int) (aSpanLo : Int) (aSpanHi : Int) (aBag : List (Int × List Int)) (aDraws : List Int) (x14 : ByteArray) (x15 : Int) : St := ⟨[.dead, .ptr 64 0, .dead, .dead, .d (.int .i64) (aKind), .d .str x14, .d (.int .i64) x15, .dead, .dead, .dead, .dead, .dead, .dead, .dead, .dead, .dead, .dead, .dead, .dead, .dead, .dead, .dead, .dead, .dead, .dead, .dead, .dead, .dead, .dead, .dead, .dead, .dead, .dead, .dead, .dead, .dead, .dead, .dead, .dead, .dead, .dead, .dead, .dead, .dead, .dead, .dead, .dead, .dead, .dead, .dead, .dead, .dead, .dead, .dead, .dead, .dead, .dead, .dead, .dead, .dead, .dead, .dead, .dead, .dead, .dead, .dead, .dead, .dead, .dead, .dead, .dead, .dead, .dead, .dead, .dead, .dead, .dead, .dead, .dead, .dead, .dead, .dead, .dead, .dead, .dead, .dead, .dead, .dead, .dead, .dead, .dead, .dead, .dead, .dead, .dead, .dead, .dead, .dead, .dead, .dead, .dead, .dead, .dead, .dead, .dead, .dead, .dead, .dead, .dead, .dead, .dead, .dead, .dead, .dead, .dead, .dead, .dead, .dead, .dead, .dead, .dead, .dead, .dead, .dead, .dead, .dead, .dead, .dead, .dead, .dead, .dead, .dead, .dead, .dead, .dead, .dead, .dead, .dead, .dead, .dead, .dead, .dead, .dead, .dead, .dead, .dead, .dead, .dead, .dead, .dead, .dead, .dead, .dead, .dead, .dead, .dead, .dead], ofL [(64, .box [.d (.int .i64) (aKind), .d (.int .i64) (aI), .d (.int .i64) (aK), .d (.int .i64) (aAt), .d (.int .i64) (aBy), .d (.int .i64) (aSpanLo), .d (.int .i64) (aSpanHi), .d (.sl (.pair (.int .i64) (.sl (.int .u8)))) (aBag), .d (.sl (.int .i64)) (aDraws)])], 0⟩
noncomputable def law39_line.b18 (aKind : Int) (aI : Int) (aK : Int) (aAt : Int) (aBy : Int) (aSpanLo : Int) (aSpanHi : Int) (aBag : List (Int × List Int)) (aDraws : List Int) (A18 : ByteArray → Int → Option ByteArray) (E22 : ByteArray → Int → Int → Option ByteArray) (E25 : ByteArray → Option ByteArray) (x14 : ByteArray) (x15 : Int) : Option ByteArray :=
  (if (decide (x15 < ((((List.length aBag)) : Nat) : Int))) then (if (((ByteArray.size x14) + (ByteArray.size (⟨((32 :: ([] : List UInt8))).toArray⟩ : ByteArray))) ≤ (1099511627776 : Nat)) then (match (idx aBag x15) with | none => none | some y16 => (match (veil (law39_num.f BIG y16.1)) with | none => none | some y17 => (if (((ByteArray.size (x14 ++ (⟨((32 :: ([] : List UInt8))).toArray⟩ : ByteArray))) + (ByteArray.size y17)) ≤ (1099511627776 : Nat)) then (if (((ByteArray.size ((x14 ++ (⟨((32 :: ([] : List UInt8))).toArray⟩ : ByteArray)) ++ y17)) + (ByteArray.size (⟨((58 :: ([] : List UInt8))).toArray⟩ : ByteArray))) ≤ (1099511627776 : Nat)) then E22 (((x14 ++ (⟨((32 :: ([] : List UInt8))).toArray⟩ : ByteArray)) ++ y17) ++ (⟨((58 :: ([] : List UInt8))).toArray⟩ : ByteArray)) x15 (0 : Int) else none) else none))) else none) else E25 x14)
noncomputable def law39_line.l18 (fuel : Nat) (aKind : Int) (aI : Int) (aK : Int) (aAt : Int) (aBy : Int) (aSpanLo : Int) (aSpanHi : Int) (aBag : List (Int × List Int)) (aDraws : List Int) : Nat → ByteArray → Int → Option ByteArray
  | 0, _, _ => none
  | k + 1, x14, x15 => law39_line.b18 aKind aI aK aAt aBy aSpanLo aSpanHi aBag aDraws (law39_line.l18 fuel aKind aI aK aAt aBy aSpanLo aSpanHi aBag aDraws k) (law39_line.l22 fuel aKind aI aK aAt aBy aSpanLo aSpanHi aBag aDraws (law39_line.l18 fuel aKind aI aK aAt aBy aSpanLo aSpanHi aBag aDraws k) fuel) (law39_line.l25 fuel aKind aI aK aAt aBy aSpanLo aSpanHi aBag aDraws fuel) x14 x15
noncomputable def law39_line.s16 (aKind : Int) (aI : Int) (aK : Int) (aAt : Int) (aBy : Int) (aSpanLo : Int) (aSpanHi : Int) (aBag : List (Int × List Int)) (aDraws : List Int) (x13 : ByteArray) : St := ⟨[.dead, .ptr 64 0, .dead, .dead, .d (.int .i64) (aKind), .d .str x13, .dead, .dead, .dead, .dead, .dead, .dead, .dead, .dead, .dead, .dead, .dead, .dead, .dead, .dead, .dead, .dead, .dead, .dead, .dead, .dead, .dead, .dead, .dead, .dead, .dead, .dead, .dead, .dead, .dead, .dead, .dead, .dead, .dead, .dead, .dead, .dead, .dead, .dead, .dead, .dead, .dead, .dead, .dead, .dead, .dead, .dead, .dead, .dead, .dead, .dead, .dead, .dead, .dead, .dead, .dead, .dead, .dead, .dead, .dead, .dead, .dead, .dead, .dead, .dead, .dead, .dead, .dead, .dead, .dead, .dead, .dead, .dead, .dead, .dead, .dead, .dead, .dead, .dead, .dead, .dead, .dead, .dead, .dead, .dead, .dead, .dead, .dead, .dead, .dead, .dead, .dead, .dead, .dead, .dead, .dead, .dead, .dead, .dead, .dead, .dead, .dead, .dead, .dead, .dead, .dead, .dead, .dead, .dead, .dead, .dead, .dead, .dead, .dead, .dead, .dead, .dead, .dead, .dead, .dead, .dead, .dead, .dead, .dead, .dead, .dead, .dead, .dead, .dead, .dead, .dead, .dead, .dead, .dead, .dead, .dead, .dead, .dead, .dead, .dead, .dead, .dead, .dead, .dead, .dead, .dead, .dead, .dead, .dead, .dead, .dead, .dead], ofL [(64, .box [.d (.int .i64) (aKind), .d (.int .i64) (aI), .d (.int .i64) (aK), .d (.int .i64) (aAt), .d (.int .i64) (aBy), .d (.int .i64) (aSpanLo), .d (.int .i64) (aSpanHi), .d (.sl (.pair (.int .i64) (.sl (.int .u8)))) (aBag), .d (.sl (.int .i64)) (aDraws)])], 0⟩
noncomputable def law39_line.b16 (aKind : Int) (aI : Int) (aK : Int) (aAt : Int) (aBy : Int) (aSpanLo : Int) (aSpanHi : Int) (aBag : List (Int × List Int)) (aDraws : List Int) (A16 : ByteArray → Option ByteArray) (E18 : ByteArray → Int → Option ByteArray) (E25 : ByteArray → Option ByteArray) (x13 : ByteArray) : Option ByteArray :=
  (if (aKind == (1 : Int)) then E18 x13 (0 : Int) else (if (aKind == (11 : Int)) then E18 x13 (0 : Int) else E25 x13))
noncomputable def law39_line.l16 (fuel : Nat) (aKind : Int) (aI : Int) (aK : Int) (aAt : Int) (aBy : Int) (aSpanLo : Int) (aSpanHi : Int) (aBag : List (Int × List Int)) (aDraws : List Int) : Nat → ByteArray → Option ByteArray
  | 0, _ => none
  | k + 1, x13 => law39_line.b16 aKind aI aK aAt aBy aSpanLo aSpanHi aBag aDraws (law39_line.l16 fuel aKind aI aK aAt aBy aSpanLo aSpanHi aBag aDraws k) (law39_line.l18 fuel aKind aI aK aAt aBy aSpanLo aSpanHi aBag aDraws fuel) (law39_line.l25 fuel aKind aI aK aAt aBy aSpanLo aSpanHi aBag aDraws fuel) x13
noncomputable def law39_line.s14 (aKind : Int) (aI : Int) (aK : Int) (aAt : Int) (aBy : Int) (aSpanLo : Int) (aSpanHi : Int) (aBag : List (Int × List Int)) (aDraws : List Int) (x10 : ByteArray) : St := ⟨[.dead, .ptr 64 0, .dead, .dead, .d (.int .i64) (aKind), .d .str x10, .dead, .dead, .dead, .dead, .dead, .dead, .dead, .dead, .dead, .dead, .dead, .dead, .dead, .dead, .dead, .dead, .dead, .dead, .dead, .dead, .dead, .dead, .dead, .dead, .dead, .dead, .dead, .dead, .dead, .dead, .dead, .dead, .dead, .dead, .dead, .dead, .dead, .dead, .dead, .dead, .dead, .dead, .dead, .dead, .dead, .dead, .dead, .dead, .dead, .dead, .dead, .dead, .dead, .dead, .dead, .dead, .dead, .dead, .dead, .dead, .dead, .dead, .dead, .dead, .dead, .dead, .dead, .dead, .dead, .dead, .dead, .dead, .dead, .dead, .dead, .dead, .dead, .dead, .dead, .dead, .dead, .dead, .dead, .dead, .dead, .dead, .dead, .dead, .dead, .dead, .dead, .dead, .dead, .dead, .dead, .dead, .dead, .dead, .dead, .dead, .dead, .dead, .dead, .dead, .dead, .dead, .dead, .dead, .dead, .dead, .dead, .dead, .dead, .dead, .dead, .dead, .dead, .dead, .dead, .dead, .dead, .dead, .dead, .dead, .dead, .dead, .dead, .dead, .dead, .dead, .dead, .dead, .dead, .dead, .dead, .dead, .dead, .dead, .dead, .dead, .dead, .dead, .dead, .dead, .dead, .dead, .dead, .dead, .dead, .dead, .dead], ofL [(64, .box [.d (.int .i64) (aKind), .d (.int .i64) (aI), .d (.int .i64) (aK), .d (.int .i64) (aAt), .d (.int .i64) (aBy), .d (.int .i64) (aSpanLo), .d (.int .i64) (aSpanHi), .d (.sl (.pair (.int .i64) (.sl (.int .u8)))) (aBag), .d (.sl (.int .i64)) (aDraws)])], 0⟩
noncomputable def law39_line.b14 (aKind : Int) (aI : Int) (aK : Int) (aAt : Int) (aBy : Int) (aSpanLo : Int) (aSpanHi : Int) (aBag : List (Int × List Int)) (aDraws : List Int) (A14 : ByteArray → Option ByteArray) (E16 : ByteArray → Option ByteArray) (x10 : ByteArray) : Option ByteArray :=
  (if (aKind == (1 : Int)) then (if (((ByteArray.size x10) + (ByteArray.size (⟨((32 :: ([] : List UInt8))).toArray⟩ : ByteArray))) ≤ (1099511627776 : Nat)) then (match (veil (law39_num.f BIG aSpanLo)) with | none => none | some y11 => (if (((ByteArray.size (x10 ++ (⟨((32 :: ([] : List UInt8))).toArray⟩ : ByteArray))) + (ByteArray.size y11)) ≤ (1099511627776 : Nat)) then (if (((ByteArray.size ((x10 ++ (⟨((32 :: ([] : List UInt8))).toArray⟩ : ByteArray)) ++ y11)) + (ByteArray.size (⟨((45 :: ([] : List UInt8))).toArray⟩ : ByteArray))) ≤ (1099511627776 : Nat)) then (match (veil (law39_num.f BIG aSpanHi)) with | none => none | some y12 => (if (((ByteArray.size (((x10 ++ (⟨((32 :: ([] : List UInt8))).toArray⟩ : ByteArray)) ++ y11) ++ (⟨((45 :: ([] : List UInt8))).toArray⟩ : ByteArray))) + (ByteArray.size y12)) ≤ (1099511627776 : Nat)) then E16 ((((x10 ++ (⟨((32 :: ([] : List UInt8))).toArray⟩ : ByteArray)) ++ y11) ++ (⟨((45 :: ([] : List UInt8))).toArray⟩ : ByteArray)) ++ y12) else none)) else none) else none)) else none) else E16 x10)
noncomputable def law39_line.l14 (fuel : Nat) (aKind : Int) (aI : Int) (aK : Int) (aAt : Int) (aBy : Int) (aSpanLo : Int) (aSpanHi : Int) (aBag : List (Int × List Int)) (aDraws : List Int) : Nat → ByteArray → Option ByteArray
  | 0, _ => none
  | k + 1, x10 => law39_line.b14 aKind aI aK aAt aBy aSpanLo aSpanHi aBag aDraws (law39_line.l14 fuel aKind aI aK aAt aBy aSpanLo aSpanHi aBag aDraws k) (law39_line.l16 fuel aKind aI aK aAt aBy aSpanLo aSpanHi aBag aDraws fuel) x10
noncomputable def law39_line.s12 (aKind : Int) (aI : Int) (aK : Int) (aAt : Int) (aBy : Int) (aSpanLo : Int) (aSpanHi : Int) (aBag : List (Int × List Int)) (aDraws : List Int) (x8 : ByteArray) : St := ⟨[.dead, .ptr 64 0, .dead, .dead, .d (.int .i64) (aKind), .d .str x8, .dead, .dead, .dead, .dead, .dead, .dead, .dead, .dead, .dead, .dead, .dead, .dead, .dead, .dead, .dead, .dead, .dead, .dead, .dead, .dead, .dead, .dead, .dead, .dead, .dead, .dead, .dead, .dead, .dead, .dead, .dead, .dead, .dead, .dead, .dead, .dead, .dead, .dead, .dead, .dead, .dead, .dead, .dead, .dead, .dead, .dead, .dead, .dead, .dead, .dead, .dead, .dead, .dead, .dead, .dead, .dead, .dead, .dead, .dead, .dead, .dead, .dead, .dead, .dead, .dead, .dead, .dead, .dead, .dead, .dead, .dead, .dead, .dead, .dead, .dead, .dead, .dead, .dead, .dead, .dead, .dead, .dead, .dead, .dead, .dead, .dead, .dead, .dead, .dead, .dead, .dead, .dead, .dead, .dead, .dead, .dead, .dead, .dead, .dead, .dead, .dead, .dead, .dead, .dead, .dead, .dead, .dead, .dead, .dead, .dead, .dead, .dead, .dead, .dead, .dead, .dead, .dead, .dead, .dead, .dead, .dead, .dead, .dead, .dead, .dead, .dead, .dead, .dead, .dead, .dead, .dead, .dead, .dead, .dead, .dead, .dead, .dead, .dead, .dead, .dead, .dead, .dead, .dead, .dead, .dead, .dead, .dead, .dead, .dead, .dead, .dead], ofL [(64, .box [.d (.int .i64) (aKind), .d (.int .i64) (aI), .d (.int .i64) (aK), .d (.int .i64) (aAt), .d (.int .i64) (aBy), .d (.int .i64) (aSpanLo), .d (.int .i64) (aSpanHi), .d (.sl (.pair (.int .i64) (.sl (.int .u8)))) (aBag), .d (.sl (.int .i64)) (aDraws)])], 0⟩
noncomputable def law39_line.b12 (aKind : Int) (aI : Int) (aK : Int) (aAt : Int) (aBy : Int) (aSpanLo : Int) (aSpanHi : Int) (aBag : List (Int × List Int)) (aDraws : List Int) (A12 : ByteArray → Option ByteArray) (E14 : ByteArray → Option ByteArray) (x8 : ByteArray) : Option ByteArray :=
  (if (aKind == (7 : Int)) then (if (((ByteArray.size x8) + (ByteArray.size (⟨((32 :: ([] : List UInt8))).toArray⟩ : ByteArray))) ≤ (1099511627776 : Nat)) then (match (veil (law39_num.f BIG aBy)) with | none => none | some y9 => (if (((ByteArray.size (x8 ++ (⟨((32 :: ([] : List UInt8))).toArray⟩ : ByteArray))) + (ByteArray.size y9)) ≤ (1099511627776 : Nat)) then E14 ((x8 ++ (⟨((32 :: ([] : List UInt8))).toArray⟩ : ByteArray)) ++ y9) else none)) else none) else E14 x8)
noncomputable def law39_line.l12 (fuel : Nat) (aKind : Int) (aI : Int) (aK : Int) (aAt : Int) (aBy : Int) (aSpanLo : Int) (aSpanHi : Int) (aBag : List (Int × List Int)) (aDraws : List Int) : Nat → ByteArray → Option ByteArray
  | 0, _ => none
  | k + 1, x8 => law39_line.b12 aKind aI aK aAt aBy aSpanLo aSpanHi aBag aDraws (law39_line.l12 fuel aKind aI aK aAt aBy aSpanLo aSpanHi aBag aDraws k) (law39_line.l14 fuel aKind aI aK aAt aBy aSpanLo aSpanHi aBag aDraws fuel) x8
noncomputable def law39_line.s10 (aKind : Int) (aI : Int) (aK : Int) (aAt : Int) (aBy : Int) (aSpanLo : Int) (aSpanHi : Int) (aBag : List (Int × List Int)) (aDraws : List Int) (x6 : ByteArray) : St := ⟨[.dead, .ptr 64 0, .dead, .dead, .d (.int .i64) (aKind), .d .str x6, .dead, .dead, .dead, .dead, .dead, .dead, .dead, .dead, .dead, .dead, .dead, .dead, .dead, .dead, .dead, .dead, .dead, .dead, .dead, .dead, .dead, .dead, .dead, .dead, .dead, .dead, .dead, .dead, .dead, .dead, .dead, .dead, .dead, .dead, .dead, .dead, .dead, .dead, .dead, .dead, .dead, .dead, .dead, .dead, .dead, .dead, .dead, .dead, .dead, .dead, .dead, .dead, .dead, .dead, .dead, .dead, .dead, .dead, .dead, .dead, .dead, .dead, .dead, .dead, .dead, .dead, .dead, .dead, .dead, .dead, .dead, .dead, .dead, .dead, .dead, .dead, .dead, .dead, .dead, .dead, .dead, .dead, .dead, .dead, .dead, .dead, .dead, .dead, .dead, .dead, .dead, .dead, .dead, .dead, .dead, .dead, .dead, .dead, .dead, .dead, .dead, .dead, .dead, .dead, .dead, .dead, .dead, .dead, .dead, .dead, .dead, .dead, .dead, .dead, .dead, .dead, .dead, .dead, .dead, .dead, .dead, .dead, .dead, .dead, .dead, .dead, .dead, .dead, .dead, .dead, .dead, .dead, .dead, .dead, .dead, .dead, .dead, .dead, .dead, .dead, .dead, .dead, .dead, .dead, .dead, .dead, .dead, .dead, .dead, .dead, .dead], ofL [(64, .box [.d (.int .i64) (aKind), .d (.int .i64) (aI), .d (.int .i64) (aK), .d (.int .i64) (aAt), .d (.int .i64) (aBy), .d (.int .i64) (aSpanLo), .d (.int .i64) (aSpanHi), .d (.sl (.pair (.int .i64) (.sl (.int .u8)))) (aBag), .d (.sl (.int .i64)) (aDraws)])], 0⟩
noncomputable def law39_line.b10 (aKind : Int) (aI : Int) (aK : Int) (aAt : Int) (aBy : Int) (aSpanLo : Int) (aSpanHi : Int) (aBag : List (Int × List Int)) (aDraws : List Int) (A10 : ByteArray → Option ByteArray) (E12 : ByteArray → Option ByteArray) (x6 : ByteArray) : Option ByteArray :=
  (if (aKind == (7 : Int)) then (if (((ByteArray.size x6) + (ByteArray.size (⟨((32 :: ([] : List UInt8))).toArray⟩ : ByteArray))) ≤ (1099511627776 : Nat)) then (match (veil (law39_num.f BIG aAt)) with | none => none | some y7 => (if (((ByteArray.size (x6 ++ (⟨((32 :: ([] : List UInt8))).toArray⟩ : ByteArray))) + (ByteArray.size y7)) ≤ (1099511627776 : Nat)) then E12 ((x6 ++ (⟨((32 :: ([] : List UInt8))).toArray⟩ : ByteArray)) ++ y7) else none)) else none) else (if (aKind == (8 : Int)) then (if (((ByteArray.size x6) + (ByteArray.size (⟨((32 :: ([] : List UInt8))).toArray⟩ : ByteArray))) ≤ (1099511627776 : Nat)) then (match (veil (law39_num.f BIG aAt)) with | none => none | some y31 => (if (((ByteArray.size (x6 ++ (⟨((32 :: ([] : List UInt8))).toArray⟩ : ByteArray))) + (ByteArray.size y31)) ≤ (1099511627776 : Nat)) then E12 ((x6 ++ (⟨((32 :: ([] : List UInt8))).toArray⟩ : ByteArray)) ++ y31) else none)) else none) else E12 x6))
noncomputable def law39_line.l10 (fuel : Nat) (aKind : Int) (aI : Int) (aK : Int) (aAt : Int) (aBy : Int) (aSpanLo : Int) (aSpanHi : Int) (aBag : List (Int × List Int)) (aDraws : List Int) : Nat → ByteArray → Option ByteArray
  | 0, _ => none
  | k + 1, x6 => law39_line.b10 aKind aI aK aAt aBy aSpanLo aSpanHi aBag aDraws (law39_line.l10 fuel aKind aI aK aAt aBy aSpanLo aSpanHi aBag aDraws k) (law39_line.l12 fuel aKind aI aK aAt aBy aSpanLo aSpanHi aBag aDraws fuel) x6
noncomputable def law39_line.s8 (aKind : Int) (aI : Int) (aK : Int) (aAt : Int) (aBy : Int) (aSpanLo : Int) (aSpanHi : Int) (aBag : List (Int × List Int)) (aDraws : List Int) (x4 : ByteArray) : St := ⟨[.dead, .ptr 64 0, .dead, .dead, .d (.int .i64) (aKind), .d .str x4, .dead, .dead, .dead, .dead, .dead, .dead, .dead, .dead, .dead, .dead, .dead, .dead, .dead, .dead, .dead, .dead, .dead, .dead, .dead, .dead, .dead, .dead, .dead, .dead, .dead, .dead, .dead, .dead, .dead, .dead, .dead, .dead, .dead, .dead, .dead, .dead, .dead, .dead, .dead, .dead, .dead, .dead, .dead, .dead, .dead, .dead, .dead, .dead, .dead, .dead, .dead, .dead, .dead, .dead, .dead, .dead, .dead, .dead, .dead, .dead, .dead, .dead, .dead, .dead, .dead, .dead, .dead, .dead, .dead, .dead, .dead, .dead, .dead, .dead, .dead, .dead, .dead, .dead, .dead, .dead, .dead, .dead, .dead, .dead, .dead, .dead, .dead, .dead, .dead, .dead, .dead, .dead, .dead, .dead, .dead, .dead, .dead, .dead, .dead, .dead, .dead, .dead, .dead, .dead, .dead, .dead, .dead, .dead, .dead, .dead, .dead, .dead, .dead, .dead, .dead, .dead, .dead, .dead, .dead, .dead, .dead, .dead, .dead, .dead, .dead, .dead, .dead, .dead, .dead, .dead, .dead, .dead, .dead, .dead, .dead, .dead, .dead, .dead, .dead, .dead, .dead, .dead, .dead, .dead, .dead, .dead, .dead, .dead, .dead, .dead, .dead], ofL [(64, .box [.d (.int .i64) (aKind), .d (.int .i64) (aI), .d (.int .i64) (aK), .d (.int .i64) (aAt), .d (.int .i64) (aBy), .d (.int .i64) (aSpanLo), .d (.int .i64) (aSpanHi), .d (.sl (.pair (.int .i64) (.sl (.int .u8)))) (aBag), .d (.sl (.int .i64)) (aDraws)])], 0⟩
noncomputable def law39_line.b8 (aKind : Int) (aI : Int) (aK : Int) (aAt : Int) (aBy : Int) (aSpanLo : Int) (aSpanHi : Int) (aBag : List (Int × List Int)) (aDraws : List Int) (A8 : ByteArray → Option ByteArray) (E10 : ByteArray → Option ByteArray) (x4 : ByteArray) : Option ByteArray :=
  (if (decide (aKind ≥ (4 : Int))) then (if (decide (aKind ≤ (9 : Int))) then (if (((ByteArray.size x4) + (ByteArray.size (⟨((32 :: ([] : List UInt8))).toArray⟩ : ByteArray))) ≤ (1099511627776 : Nat)) then (match (veil (law39_num.f BIG aK)) with | none => none | some y5 => (if (((ByteArray.size (x4 ++ (⟨((32 :: ([] : List UInt8))).toArray⟩ : ByteArray))) + (ByteArray.size y5)) ≤ (1099511627776 : Nat)) then E10 ((x4 ++ (⟨((32 :: ([] : List UInt8))).toArray⟩ : ByteArray)) ++ y5) else none)) else none) else E10 x4) else E10 x4)
noncomputable def law39_line.l8 (fuel : Nat) (aKind : Int) (aI : Int) (aK : Int) (aAt : Int) (aBy : Int) (aSpanLo : Int) (aSpanHi : Int) (aBag : List (Int × List Int)) (aDraws : List Int) : Nat → ByteArray → Option ByteArray
  | 0, _ => none
  | k + 1, x4 => law39_line.b8 aKind aI aK aAt aBy aSpanLo aSpanHi aBag aDraws (law39_line.l8 fuel aKind aI aK aAt aBy aSpanLo aSpanHi aBag aDraws k) (law39_line.l10 fuel aKind aI aK aAt aBy aSpanLo aSpanHi aBag aDraws fuel) x4
noncomputable def law39_line.s5 (aKind : Int) (aI : Int) (aK : Int) (aAt : Int) (aBy : Int) (aSpanLo : Int) (aSpanHi : Int) (aBag : List (Int × List Int)) (aDraws : List Int) : St := ⟨[.dead, .ptr 64 0, .dead, .row 65, .d (.int .i64) (aKind), .dead, .dead, .dead, .dead, .dead, .dead, .dead, .dead, .dead, .dead, .dead, .dead, .dead, .dead, .dead, .dead, .dead, .dead, .dead, .dead, .dead, .dead, .dead, .dead, .dead, .dead, .dead, .dead, .dead, .dead, .dead, .dead, .dead, .dead, .dead, .dead, .dead, .dead, .dead, .dead, .dead, .dead, .dead, .dead, .dead, .dead, .dead, .dead, .dead, .dead, .dead, .dead, .dead, .dead, .dead, .dead, .dead, .dead, .dead, .dead, .dead, .dead, .dead, .dead, .dead, .dead, .dead, .dead, .dead, .dead, .dead, .dead, .dead, .dead, .dead, .dead, .dead, .dead, .dead, .dead, .dead, .dead, .dead, .dead, .dead, .dead, .dead, .dead, .dead, .dead, .dead, .dead, .dead, .dead, .dead, .dead, .dead, .dead, .dead, .dead, .dead, .dead, .dead, .dead, .dead, .dead, .dead, .dead, .dead, .dead, .dead, .dead, .dead, .dead, .dead, .dead, .dead, .dead, .dead, .dead, .dead, .dead, .dead, .dead, .dead, .dead, .dead, .dead, .dead, .dead, .dead, .dead, .dead, .dead, .dead, .dead, .dead, .dead, .dead, .dead, .dead, .dead, .dead, .dead, .dead, .dead, .dead, .dead, .dead, .dead, .dead, .dead], ofL [(64, .box [.d (.int .i64) (aKind), .d (.int .i64) (aI), .d (.int .i64) (aK), .d (.int .i64) (aAt), .d (.int .i64) (aBy), .d (.int .i64) (aSpanLo), .d (.int .i64) (aSpanHi), .d (.sl (.pair (.int .i64) (.sl (.int .u8)))) (aBag), .d (.sl (.int .i64)) (aDraws)]), (65, .row 9 .str (((⟨(([] : List UInt8)).toArray⟩ : ByteArray) :: ((⟨((115 :: (116 :: (97 :: (114 :: (116 :: ([] : List UInt8))))))).toArray⟩ : ByteArray) :: ((⟨((115 :: (116 :: (111 :: (112 :: ([] : List UInt8)))))).toArray⟩ : ByteArray) :: ((⟨((116 :: (105 :: (99 :: (107 :: ([] : List UInt8)))))).toArray⟩ : ByteArray) :: ((⟨((100 :: (101 :: (108 :: (105 :: (118 :: (101 :: (114 :: ([] : List UInt8))))))))).toArray⟩ : ByteArray) :: ((⟨((108 :: (111 :: (115 :: (101 :: ([] : List UInt8)))))).toArray⟩ : ByteArray) :: ((⟨((99 :: (111 :: (112 :: (121 :: ([] : List UInt8)))))).toArray⟩ : ByteArray) :: ((⟨((116 :: (117 :: (114 :: (110 :: ([] : List UInt8)))))).toArray⟩ : ByteArray) :: ((⟨((99 :: (104 :: (111 :: (112 :: ([] : List UInt8)))))).toArray⟩ : ByteArray) :: ((⟨((106 :: (111 :: (105 :: (110 :: ([] : List UInt8)))))).toArray⟩ : ByteArray) :: ((⟨((108 :: (101 :: (97 :: (118 :: (101 :: ([] : List UInt8))))))).toArray⟩ : ByteArray) :: ((⟨((99 :: (104 :: (97 :: (110 :: (103 :: (101 :: ([] : List UInt8)))))))).toArray⟩ : ByteArray) :: ([] : List ByteArray)))))))))))))) false)], 0⟩
noncomputable def law39_line.b5 (aKind : Int) (aI : Int) (aK : Int) (aAt : Int) (aBy : Int) (aSpanLo : Int) (aSpanHi : Int) (aBag : List (Int × List Int)) (aDraws : List Int) (A5 : Option ByteArray) (E8 : ByteArray → Option ByteArray) : Option ByteArray :=
  (match (idx ((⟨(([] : List UInt8)).toArray⟩ : ByteArray) :: ((⟨((115 :: (116 :: (97 :: (114 :: (116 :: ([] : List UInt8))))))).toArray⟩ : ByteArray) :: ((⟨((115 :: (116 :: (111 :: (112 :: ([] : List UInt8)))))).toArray⟩ : ByteArray) :: ((⟨((116 :: (105 :: (99 :: (107 :: ([] : List UInt8)))))).toArray⟩ : ByteArray) :: ((⟨((100 :: (101 :: (108 :: (105 :: (118 :: (101 :: (114 :: ([] : List UInt8))))))))).toArray⟩ : ByteArray) :: ((⟨((108 :: (111 :: (115 :: (101 :: ([] : List UInt8)))))).toArray⟩ : ByteArray) :: ((⟨((99 :: (111 :: (112 :: (121 :: ([] : List UInt8)))))).toArray⟩ : ByteArray) :: ((⟨((116 :: (117 :: (114 :: (110 :: ([] : List UInt8)))))).toArray⟩ : ByteArray) :: ((⟨((99 :: (104 :: (111 :: (112 :: ([] : List UInt8)))))).toArray⟩ : ByteArray) :: ((⟨((106 :: (111 :: (105 :: (110 :: ([] : List UInt8)))))).toArray⟩ : ByteArray) :: ((⟨((108 :: (101 :: (97 :: (118 :: (101 :: ([] : List UInt8))))))).toArray⟩ : ByteArray) :: ((⟨((99 :: (104 :: (97 :: (110 :: (103 :: (101 :: ([] : List UInt8)))))))).toArray⟩ : ByteArray) :: ([] : List ByteArray))))))))))))) aKind) with | none => none | some y1 => (match (idx ((⟨(([] : List UInt8)).toArray⟩ : ByteArray) :: ((⟨((115 :: (116 :: (97 :: (114 :: (116 :: ([] : List UInt8))))))).toArray⟩ : ByteArray) :: ((⟨((115 :: (116 :: (111 :: (112 :: ([] : List UInt8)))))).toArray⟩ : ByteArray) :: ((⟨((116 :: (105 :: (99 :: (107 :: ([] : List UInt8)))))).toArray⟩ : ByteArray) :: ((⟨((100 :: (101 :: (108 :: (105 :: (118 :: (101 :: (114 :: ([] : List UInt8))))))))).toArray⟩ : ByteArray) :: ((⟨((108 :: (111 :: (115 :: (101 :: ([] : List UInt8)))))).toArray⟩ : ByteArray) :: ((⟨((99 :: (111 :: (112 :: (121 :: ([] : List UInt8)))))).toArray⟩ : ByteArray) :: ((⟨((116 :: (117 :: (114 :: (110 :: ([] : List UInt8)))))).toArray⟩ : ByteArray) :: ((⟨((99 :: (104 :: (111 :: (112 :: ([] : List UInt8)))))).toArray⟩ : ByteArray) :: ((⟨((106 :: (111 :: (105 :: (110 :: ([] : List UInt8)))))).toArray⟩ : ByteArray) :: ((⟨((108 :: (101 :: (97 :: (118 :: (101 :: ([] : List UInt8))))))).toArray⟩ : ByteArray) :: ((⟨((99 :: (104 :: (97 :: (110 :: (103 :: (101 :: ([] : List UInt8)))))))).toArray⟩ : ByteArray) :: ([] : List ByteArray))))))))))))) aKind) with | none => none | some y2 => (if (decide (aKind ≤ (3 : Int))) then (if (((ByteArray.size y2) + (ByteArray.size (⟨((32 :: ([] : List UInt8))).toArray⟩ : ByteArray))) ≤ (1099511627776 : Nat)) then (match (veil (law39_num.f BIG aI)) with | none => none | some y3 => (if (((ByteArray.size (y2 ++ (⟨((32 :: ([] : List UInt8))).toArray⟩ : ByteArray))) + (ByteArray.size y3)) ≤ (1099511627776 : Nat)) then E8 ((y2 ++ (⟨((32 :: ([] : List UInt8))).toArray⟩ : ByteArray)) ++ y3) else none)) else none) else (if (decide (aKind ≥ (9 : Int))) then (if (((ByteArray.size y2) + (ByteArray.size (⟨((32 :: ([] : List UInt8))).toArray⟩ : ByteArray))) ≤ (1099511627776 : Nat)) then (match (veil (law39_num.f BIG aI)) with | none => none | some y32 => (if (((ByteArray.size (y2 ++ (⟨((32 :: ([] : List UInt8))).toArray⟩ : ByteArray))) + (ByteArray.size y32)) ≤ (1099511627776 : Nat)) then E8 ((y2 ++ (⟨((32 :: ([] : List UInt8))).toArray⟩ : ByteArray)) ++ y32) else none)) else none) else E8 y2))))
noncomputable def law39_line.l5 (fuel : Nat) (aKind : Int) (aI : Int) (aK : Int) (aAt : Int) (aBy : Int) (aSpanLo : Int) (aSpanHi : Int) (aBag : List (Int × List Int)) (aDraws : List Int) : Nat → Option ByteArray
  | 0 => none
  | k + 1 => law39_line.b5 aKind aI aK aAt aBy aSpanLo aSpanHi aBag aDraws (law39_line.l5 fuel aKind aI aK aAt aBy aSpanLo aSpanHi aBag aDraws k) (law39_line.l8 fuel aKind aI aK aAt aBy aSpanLo aSpanHi aBag aDraws fuel)
noncomputable def law39_line.b (aKind : Int) (aI : Int) (aK : Int) (aAt : Int) (aBy : Int) (aSpanLo : Int) (aSpanHi : Int) (aBag : List (Int × List Int)) (aDraws : List Int) (E5 : Option ByteArray) : Option ByteArray :=
  (if (decide (aKind < (1 : Int))) then some ((⟨(([] : List UInt8)).toArray⟩ : ByteArray)) else (if (decide (aKind > (11 : Int))) then some ((⟨(([] : List UInt8)).toArray⟩ : ByteArray)) else (if (aKind == (1 : Int)) then (match (veil (span_Valid.f BIG aSpanLo aSpanHi)) with | none => none | some y0 => (if (!y0) then some ((⟨(([] : List UInt8)).toArray⟩ : ByteArray)) else E5)) else E5)))
noncomputable def law39_line.f (fuel : Nat) (aKind : Int) (aI : Int) (aK : Int) (aAt : Int) (aBy : Int) (aSpanLo : Int) (aSpanHi : Int) (aBag : List (Int × List Int)) (aDraws : List Int) : Option ByteArray := law39_line.b aKind aI aK aAt aBy aSpanLo aSpanHi aBag aDraws (law39_line.l5 fuel aKind aI aK aAt aBy aSpanLo aSpanHi aBag aDraws fuel)
theorem law39_line.l22_eq (fuel : Nat) (aKind : Int) (aI : Int) (aK : Int) (aAt : Int) (aBy : Int) (aSpanLo : Int) (aSpanHi : Int) (aBag : List (Int × List Int)) (aDraws : List Int) (k18 : Nat) : ∀ (k : Nat) (x18 : ByteArray) (x19 : Int) (x20 : Int), lp law39_line_E fuel Tryz.f11 [.raw] 0 law39_line.k 22 [k18] k (law39_line.s22 aKind aI aK aAt aBy aSpanLo aSpanHi aBag aDraws x18 x19 x20) = law39_line.l22 fuel aKind aI aK aAt aBy aSpanLo aSpanHi aBag aDraws (fun x14 x15 => lp law39_line_E fuel Tryz.f11 [.raw] 0 law39_line.k 18 [] k18 (law39_line.s18 aKind aI aK aAt aBy aSpanLo aSpanHi aBag aDraws x14 x15)) k x18 x19 x20 := by
  intro k
  induction k with
  | zero => intro x18 x19 x20; rfl
  | succ k ih =>
    intro x18 x19 x20
    have h : lp law39_line_E fuel Tryz.f11 [.raw] 0 law39_line.k 22 [k18] (k + 1) (law39_line.s22 aKind aI aK aAt aBy aSpanLo aSpanHi aBag aDraws x18 x19 x20) = law39_line.b22 aKind aI aK aAt aBy aSpanLo aSpanHi aBag aDraws (fun x14 x15 => lp law39_line_E fuel Tryz.f11 [.raw] 0 law39_line.k 18 [] k18 (law39_line.s18 aKind aI aK aAt aBy aSpanLo aSpanHi aBag aDraws x14 x15)) (fun x18 x19 x20 => lp law39_line_E fuel Tryz.f11 [.raw] 0 law39_line.k 22 [k18] k (law39_line.s22 aKind aI aK aAt aBy aSpanLo aSpanHi aBag aDraws x18 x19 x20)) x18 x19 x20 := by kernel_rfl
    rw [h]
    have e22 : (fun x18 x19 x20 => lp law39_line_E fuel Tryz.f11 [.raw] 0 law39_line.k 22 [k18] k (law39_line.s22 aKind aI aK aAt aBy aSpanLo aSpanHi aBag aDraws x18 x19 x20)) = law39_line.l22 fuel aKind aI aK aAt aBy aSpanLo aSpanHi aBag aDraws (fun x14 x15 => lp law39_line_E fuel Tryz.f11 [.raw] 0 law39_line.k 18 [] k18 (law39_line.s18 aKind aI aK aAt aBy aSpanLo aSpanHi aBag aDraws x14 x15)) k := (funext fun x18 => (funext fun x19 => (funext fun x20 => ih x18 x19 x20)))
    rw [e22]
    rfl
theorem law39_line.l30_eq (fuel : Nat) (aKind : Int) (aI : Int) (aK : Int) (aAt : Int) (aBy : Int) (aSpanLo : Int) (aSpanHi : Int) (aBag : List (Int × List Int)) (aDraws : List Int) : ∀ (k : Nat) (x30 : ByteArray), lp law39_line_E fuel Tryz.f11 [.raw] 0 law39_line.k 30 [] k (law39_line.s30 aKind aI aK aAt aBy aSpanLo aSpanHi aBag aDraws x30) = law39_line.l30 fuel aKind aI aK aAt aBy aSpanLo aSpanHi aBag aDraws k x30 := by
  intro k
  induction k with
  | zero => intro x30; rfl
  | succ k ih =>
    intro x30
    have h : lp law39_line_E fuel Tryz.f11 [.raw] 0 law39_line.k 30 [] (k + 1) (law39_line.s30 aKind aI aK aAt aBy aSpanLo aSpanHi aBag aDraws x30) = law39_line.b30 aKind aI aK aAt aBy aSpanLo aSpanHi aBag aDraws (fun x30 => lp law39_line_E fuel Tryz.f11 [.raw] 0 law39_line.k 30 [] k (law39_line.s30 aKind aI aK aAt aBy aSpanLo aSpanHi aBag aDraws x30)) x30 := by kernel_rfl
    rw [h]
    have e30 : (fun x30 => lp law39_line_E fuel Tryz.f11 [.raw] 0 law39_line.k 30 [] k (law39_line.s30 aKind aI aK aAt aBy aSpanLo aSpanHi aBag aDraws x30)) = law39_line.l30 fuel aKind aI aK aAt aBy aSpanLo aSpanHi aBag aDraws k := (funext fun x30 => ih x30)
    rw [e30]
    rfl
theorem law39_line.l27_eq (fuel : Nat) (aKind : Int) (aI : Int) (aK : Int) (aAt : Int) (aBy : Int) (aSpanLo : Int) (aSpanHi : Int) (aBag : List (Int × List Int)) (aDraws : List Int) : ∀ (k : Nat) (x26 : ByteArray) (x27 : Int), lp law39_line_E fuel Tryz.f11 [.raw] 0 law39_line.k 27 [] k (law39_line.s27 aKind aI aK aAt aBy aSpanLo aSpanHi aBag aDraws x26 x27) = law39_line.l27 fuel aKind aI aK aAt aBy aSpanLo aSpanHi aBag aDraws k x26 x27 := by
  intro k
  induction k with
  | zero => intro x26 x27; rfl
  | succ k ih =>
    intro x26 x27
    have h : lp law39_line_E fuel Tryz.f11 [.raw] 0 law39_line.k 27 [] (k + 1) (law39_line.s27 aKind aI aK aAt aBy aSpanLo aSpanHi aBag aDraws x26 x27) = law39_line.b27 aKind aI aK aAt aBy aSpanLo aSpanHi aBag aDraws (fun x26 x27 => lp law39_line_E fuel Tryz.f11 [.raw] 0 law39_line.k 27 [] k (law39_line.s27 aKind aI aK aAt aBy aSpanLo aSpanHi aBag aDraws x26 x27)) (fun x30 => lp law39_line_E fuel Tryz.f11 [.raw] 0 law39_line.k 30 [] fuel (law39_line.s30 aKind aI aK aAt aBy aSpanLo aSpanHi aBag aDraws x30)) x26 x27 := by kernel_rfl
    rw [h]
    have e27 : (fun x26 x27 => lp law39_line_E fuel Tryz.f11 [.raw] 0 law39_line.k 27 [] k (law39_line.s27 aKind aI aK aAt aBy aSpanLo aSpanHi aBag aDraws x26 x27)) = law39_line.l27 fuel aKind aI aK aAt aBy aSpanLo aSpanHi aBag aDraws k := (funext fun x26 => (funext fun x27 => ih x26 x27))
    rw [e27]
    have e30 : (fun x30 => lp law39_line_E fuel Tryz.f11 [.raw] 0 law39_line.k 30 [] fuel (law39_line.s30 aKind aI aK aAt aBy aSpanLo aSpanHi aBag aDraws x30)) = law39_line.l30 fuel aKind aI aK aAt aBy aSpanLo aSpanHi aBag aDraws fuel := (funext fun x30 => law39_line.l30_eq fuel aKind aI aK aAt aBy aSpanLo aSpanHi aBag aDraws fuel x30)
    rw [e30]
    rfl
theorem law39_line.l25_eq (fuel : Nat) (aKind : Int) (aI : Int) (aK : Int) (aAt : Int) (aBy : Int) (aSpanLo : Int) (aSpanHi : Int) (aBag : List (Int × List Int)) (aDraws : List Int) : ∀ (k : Nat) (x25 : ByteArray), lp law39_line_E fuel Tryz.f11 [.raw] 0 law39_line.k 25 [] k (law39_line.s25 aKind aI aK aAt aBy aSpanLo aSpanHi aBag aDraws x25) = law39_line.l25 fuel aKind aI aK aAt aBy aSpanLo aSpanHi aBag aDraws k x25 := by
  intro k
  induction k with
  | zero => intro x25; rfl
  | succ k ih =>
    intro x25
    have h : lp law39_line_E fuel Tryz.f11 [.raw] 0 law39_line.k 25 [] (k + 1) (law39_line.s25 aKind aI aK aAt aBy aSpanLo aSpanHi aBag aDraws x25) = law39_line.b25 aKind aI aK aAt aBy aSpanLo aSpanHi aBag aDraws (fun x25 => lp law39_line_E fuel Tryz.f11 [.raw] 0 law39_line.k 25 [] k (law39_line.s25 aKind aI aK aAt aBy aSpanLo aSpanHi aBag aDraws x25)) (fun x26 x27 => lp law39_line_E fuel Tryz.f11 [.raw] 0 law39_line.k 27 [] fuel (law39_line.s27 aKind aI aK aAt aBy aSpanLo aSpanHi aBag aDraws x26 x27)) (fun x30 => lp law39_line_E fuel Tryz.f11 [.raw] 0 law39_line.k 30 [] fuel (law39_line.s30 aKind aI aK aAt aBy aSpanLo aSpanHi aBag aDraws x30)) x25 := by kernel_rfl
    rw [h]
    have e25 : (fun x25 => lp law39_line_E fuel Tryz.f11 [.raw] 0 law39_line.k 25 [] k (law39_line.s25 aKind aI aK aAt aBy aSpanLo aSpanHi aBag aDraws x25)) = law39_line.l25 fuel aKind aI aK aAt aBy aSpanLo aSpanHi aBag aDraws k := (funext fun x25 => ih x25)
    rw [e25]
    have e27 : (fun x26 x27 => lp law39_line_E fuel Tryz.f11 [.raw] 0 law39_line.k 27 [] fuel (law39_line.s27 aKind aI aK aAt aBy aSpanLo aSpanHi aBag aDraws x26 x27)) = law39_line.l27 fuel aKind aI aK aAt aBy aSpanLo aSpanHi aBag aDraws fuel := (funext fun x26 => (funext fun x27 => law39_line.l27_eq fuel aKind aI aK aAt aBy aSpanLo aSpanHi aBag aDraws fuel x26 x27))
    rw [e27]
    have e30 : (fun x30 => lp law39_line_E fuel Tryz.f11 [.raw] 0 law39_line.k 30 [] fuel (law39_line.s30 aKind aI aK aAt aBy aSpanLo aSpanHi aBag aDraws x30)) = law39_line.l30 fuel aKind aI aK aAt aBy aSpanLo aSpanHi aBag aDraws fuel := (funext fun x30 => law39_line.l30_eq fuel aKind aI aK aAt aBy aSpanLo aSpanHi aBag aDraws fuel x30)
    rw [e30]
    rfl
theorem law39_line.l18_eq (fuel : Nat) (aKind : Int) (aI : Int) (aK : Int) (aAt : Int) (aBy : Int) (aSpanLo : Int) (aSpanHi : Int) (aBag : List (Int × List Int)) (aDraws : List Int) : ∀ (k : Nat) (x14 : ByteArray) (x15 : Int), lp law39_line_E fuel Tryz.f11 [.raw] 0 law39_line.k 18 [] k (law39_line.s18 aKind aI aK aAt aBy aSpanLo aSpanHi aBag aDraws x14 x15) = law39_line.l18 fuel aKind aI aK aAt aBy aSpanLo aSpanHi aBag aDraws k x14 x15 := by
  intro k
  induction k with
  | zero => intro x14 x15; rfl
  | succ k ih =>
    intro x14 x15
    have h : lp law39_line_E fuel Tryz.f11 [.raw] 0 law39_line.k 18 [] (k + 1) (law39_line.s18 aKind aI aK aAt aBy aSpanLo aSpanHi aBag aDraws x14 x15) = law39_line.b18 aKind aI aK aAt aBy aSpanLo aSpanHi aBag aDraws (fun x14 x15 => lp law39_line_E fuel Tryz.f11 [.raw] 0 law39_line.k 18 [] k (law39_line.s18 aKind aI aK aAt aBy aSpanLo aSpanHi aBag aDraws x14 x15)) (fun x18 x19 x20 => lp law39_line_E fuel Tryz.f11 [.raw] 0 law39_line.k 22 [k] fuel (law39_line.s22 aKind aI aK aAt aBy aSpanLo aSpanHi aBag aDraws x18 x19 x20)) (fun x25 => lp law39_line_E fuel Tryz.f11 [.raw] 0 law39_line.k 25 [] fuel (law39_line.s25 aKind aI aK aAt aBy aSpanLo aSpanHi aBag aDraws x25)) x14 x15 := by kernel_rfl
    rw [h]
    have e18 : (fun x14 x15 => lp law39_line_E fuel Tryz.f11 [.raw] 0 law39_line.k 18 [] k (law39_line.s18 aKind aI aK aAt aBy aSpanLo aSpanHi aBag aDraws x14 x15)) = law39_line.l18 fuel aKind aI aK aAt aBy aSpanLo aSpanHi aBag aDraws k := (funext fun x14 => (funext fun x15 => ih x14 x15))
    rw [e18]
    have e22 : (fun x18 x19 x20 => lp law39_line_E fuel Tryz.f11 [.raw] 0 law39_line.k 22 [k] fuel (law39_line.s22 aKind aI aK aAt aBy aSpanLo aSpanHi aBag aDraws x18 x19 x20)) = law39_line.l22 fuel aKind aI aK aAt aBy aSpanLo aSpanHi aBag aDraws (fun x14 x15 => lp law39_line_E fuel Tryz.f11 [.raw] 0 law39_line.k 18 [] k (law39_line.s18 aKind aI aK aAt aBy aSpanLo aSpanHi aBag aDraws x14 x15)) fuel := (funext fun x18 => (funext fun x19 => (funext fun x20 => law39_line.l22_eq fuel aKind aI aK aAt aBy aSpanLo aSpanHi aBag aDraws k fuel x18 x19 x20)))
    rw [e22]
    rw [e18]
    have e25 : (fun x25 => lp law39_line_E fuel Tryz.f11 [.raw] 0 law39_line.k 25 [] fuel (law39_line.s25 aKind aI aK aAt aBy aSpanLo aSpanHi aBag aDraws x25)) = law39_line.l25 fuel aKind aI aK aAt aBy aSpanLo aSpanHi aBag aDraws fuel := (funext fun x25 => law39_line.l25_eq fuel aKind aI aK aAt aBy aSpanLo aSpanHi aBag aDraws fuel x25)
    rw [e25]
    rfl
theorem law39_line.l16_eq (fuel : Nat) (aKind : Int) (aI : Int) (aK : Int) (aAt : Int) (aBy : Int) (aSpanLo : Int) (aSpanHi : Int) (aBag : List (Int × List Int)) (aDraws : List Int) : ∀ (k : Nat) (x13 : ByteArray), lp law39_line_E fuel Tryz.f11 [.raw] 0 law39_line.k 16 [] k (law39_line.s16 aKind aI aK aAt aBy aSpanLo aSpanHi aBag aDraws x13) = law39_line.l16 fuel aKind aI aK aAt aBy aSpanLo aSpanHi aBag aDraws k x13 := by
  intro k
  induction k with
  | zero => intro x13; rfl
  | succ k ih =>
    intro x13
    have h : lp law39_line_E fuel Tryz.f11 [.raw] 0 law39_line.k 16 [] (k + 1) (law39_line.s16 aKind aI aK aAt aBy aSpanLo aSpanHi aBag aDraws x13) = law39_line.b16 aKind aI aK aAt aBy aSpanLo aSpanHi aBag aDraws (fun x13 => lp law39_line_E fuel Tryz.f11 [.raw] 0 law39_line.k 16 [] k (law39_line.s16 aKind aI aK aAt aBy aSpanLo aSpanHi aBag aDraws x13)) (fun x14 x15 => lp law39_line_E fuel Tryz.f11 [.raw] 0 law39_line.k 18 [] fuel (law39_line.s18 aKind aI aK aAt aBy aSpanLo aSpanHi aBag aDraws x14 x15)) (fun x25 => lp law39_line_E fuel Tryz.f11 [.raw] 0 law39_line.k 25 [] fuel (law39_line.s25 aKind aI aK aAt aBy aSpanLo aSpanHi aBag aDraws x25)) x13 := by kernel_rfl
    rw [h]
    have e16 : (fun x13 => lp law39_line_E fuel Tryz.f11 [.raw] 0 law39_line.k 16 [] k (law39_line.s16 aKind aI aK aAt aBy aSpanLo aSpanHi aBag aDraws x13)) = law39_line.l16 fuel aKind aI aK aAt aBy aSpanLo aSpanHi aBag aDraws k := (funext fun x13 => ih x13)
    rw [e16]
    have e18 : (fun x14 x15 => lp law39_line_E fuel Tryz.f11 [.raw] 0 law39_line.k 18 [] fuel (law39_line.s18 aKind aI aK aAt aBy aSpanLo aSpanHi aBag aDraws x14 x15)) = law39_line.l18 fuel aKind aI aK aAt aBy aSpanLo aSpanHi aBag aDraws fuel := (funext fun x14 => (funext fun x15 => law39_line.l18_eq fuel aKind aI aK aAt aBy aSpanLo aSpanHi aBag aDraws fuel x14 x15))
    rw [e18]
    have e25 : (fun x25 => lp law39_line_E fuel Tryz.f11 [.raw] 0 law39_line.k 25 [] fuel (law39_line.s25 aKind aI aK aAt aBy aSpanLo aSpanHi aBag aDraws x25)) = law39_line.l25 fuel aKind aI aK aAt aBy aSpanLo aSpanHi aBag aDraws fuel := (funext fun x25 => law39_line.l25_eq fuel aKind aI aK aAt aBy aSpanLo aSpanHi aBag aDraws fuel x25)
    rw [e25]
    rfl
theorem law39_line.l14_eq (fuel : Nat) (aKind : Int) (aI : Int) (aK : Int) (aAt : Int) (aBy : Int) (aSpanLo : Int) (aSpanHi : Int) (aBag : List (Int × List Int)) (aDraws : List Int) : ∀ (k : Nat) (x10 : ByteArray), lp law39_line_E fuel Tryz.f11 [.raw] 0 law39_line.k 14 [] k (law39_line.s14 aKind aI aK aAt aBy aSpanLo aSpanHi aBag aDraws x10) = law39_line.l14 fuel aKind aI aK aAt aBy aSpanLo aSpanHi aBag aDraws k x10 := by
  intro k
  induction k with
  | zero => intro x10; rfl
  | succ k ih =>
    intro x10
    have h : lp law39_line_E fuel Tryz.f11 [.raw] 0 law39_line.k 14 [] (k + 1) (law39_line.s14 aKind aI aK aAt aBy aSpanLo aSpanHi aBag aDraws x10) = law39_line.b14 aKind aI aK aAt aBy aSpanLo aSpanHi aBag aDraws (fun x10 => lp law39_line_E fuel Tryz.f11 [.raw] 0 law39_line.k 14 [] k (law39_line.s14 aKind aI aK aAt aBy aSpanLo aSpanHi aBag aDraws x10)) (fun x13 => lp law39_line_E fuel Tryz.f11 [.raw] 0 law39_line.k 16 [] fuel (law39_line.s16 aKind aI aK aAt aBy aSpanLo aSpanHi aBag aDraws x13)) x10 := by kernel_rfl
    rw [h]
    have e14 : (fun x10 => lp law39_line_E fuel Tryz.f11 [.raw] 0 law39_line.k 14 [] k (law39_line.s14 aKind aI aK aAt aBy aSpanLo aSpanHi aBag aDraws x10)) = law39_line.l14 fuel aKind aI aK aAt aBy aSpanLo aSpanHi aBag aDraws k := (funext fun x10 => ih x10)
    rw [e14]
    have e16 : (fun x13 => lp law39_line_E fuel Tryz.f11 [.raw] 0 law39_line.k 16 [] fuel (law39_line.s16 aKind aI aK aAt aBy aSpanLo aSpanHi aBag aDraws x13)) = law39_line.l16 fuel aKind aI aK aAt aBy aSpanLo aSpanHi aBag aDraws fuel := (funext fun x13 => law39_line.l16_eq fuel aKind aI aK aAt aBy aSpanLo aSpanHi aBag aDraws fuel x13)
    rw [e16]
    rfl
theorem law39_line.l12_eq (fuel : Nat) (aKind : Int) (aI : Int) (aK : Int) (aAt : Int) (aBy : Int) (aSpanLo : Int) (aSpanHi : Int) (aBag : List (Int × List Int)) (aDraws : List Int) : ∀ (k : Nat) (x8 : ByteArray), lp law39_line_E fuel Tryz.f11 [.raw] 0 law39_line.k 12 [] k (law39_line.s12 aKind aI aK aAt aBy aSpanLo aSpanHi aBag aDraws x8) = law39_line.l12 fuel aKind aI aK aAt aBy aSpanLo aSpanHi aBag aDraws k x8 := by
  intro k
  induction k with
  | zero => intro x8; rfl
  | succ k ih =>
    intro x8
    have h : lp law39_line_E fuel Tryz.f11 [.raw] 0 law39_line.k 12 [] (k + 1) (law39_line.s12 aKind aI aK aAt aBy aSpanLo aSpanHi aBag aDraws x8) = law39_line.b12 aKind aI aK aAt aBy aSpanLo aSpanHi aBag aDraws (fun x8 => lp law39_line_E fuel Tryz.f11 [.raw] 0 law39_line.k 12 [] k (law39_line.s12 aKind aI aK aAt aBy aSpanLo aSpanHi aBag aDraws x8)) (fun x10 => lp law39_line_E fuel Tryz.f11 [.raw] 0 law39_line.k 14 [] fuel (law39_line.s14 aKind aI aK aAt aBy aSpanLo aSpanHi aBag aDraws x10)) x8 := by kernel_rfl
    rw [h]
    have e12 : (fun x8 => lp law39_line_E fuel Tryz.f11 [.raw] 0 law39_line.k 12 [] k (law39_line.s12 aKind aI aK aAt aBy aSpanLo aSpanHi aBag aDraws x8)) = law39_line.l12 fuel aKind aI aK aAt aBy aSpanLo aSpanHi aBag aDraws k := (funext fun x8 => ih x8)
    rw [e12]
    have e14 : (fun x10 => lp law39_line_E fuel Tryz.f11 [.raw] 0 law39_line.k 14 [] fuel (law39_line.s14 aKind aI aK aAt aBy aSpanLo aSpanHi aBag aDraws x10)) = law39_line.l14 fuel aKind aI aK aAt aBy aSpanLo aSpanHi aBag aDraws fuel := (funext fun x10 => law39_line.l14_eq fuel aKind aI aK aAt aBy aSpanLo aSpanHi aBag aDraws fuel x10)
    rw [e14]
    rfl
theorem law39_line.l10_eq (fuel : Nat) (aKind : Int) (aI : Int) (aK : Int) (aAt : Int) (aBy : Int) (aSpanLo : Int) (aSpanHi : Int) (aBag : List (Int × List Int)) (aDraws : List Int) : ∀ (k : Nat) (x6 : ByteArray), lp law39_line_E fuel Tryz.f11 [.raw] 0 law39_line.k 10 [] k (law39_line.s10 aKind aI aK aAt aBy aSpanLo aSpanHi aBag aDraws x6) = law39_line.l10 fuel aKind aI aK aAt aBy aSpanLo aSpanHi aBag aDraws k x6 := by
  intro k
  induction k with
  | zero => intro x6; rfl
  | succ k ih =>
    intro x6
    have h : lp law39_line_E fuel Tryz.f11 [.raw] 0 law39_line.k 10 [] (k + 1) (law39_line.s10 aKind aI aK aAt aBy aSpanLo aSpanHi aBag aDraws x6) = law39_line.b10 aKind aI aK aAt aBy aSpanLo aSpanHi aBag aDraws (fun x6 => lp law39_line_E fuel Tryz.f11 [.raw] 0 law39_line.k 10 [] k (law39_line.s10 aKind aI aK aAt aBy aSpanLo aSpanHi aBag aDraws x6)) (fun x8 => lp law39_line_E fuel Tryz.f11 [.raw] 0 law39_line.k 12 [] fuel (law39_line.s12 aKind aI aK aAt aBy aSpanLo aSpanHi aBag aDraws x8)) x6 := by kernel_rfl
    rw [h]
    have e10 : (fun x6 => lp law39_line_E fuel Tryz.f11 [.raw] 0 law39_line.k 10 [] k (law39_line.s10 aKind aI aK aAt aBy aSpanLo aSpanHi aBag aDraws x6)) = law39_line.l10 fuel aKind aI aK aAt aBy aSpanLo aSpanHi aBag aDraws k := (funext fun x6 => ih x6)
    rw [e10]
    have e12 : (fun x8 => lp law39_line_E fuel Tryz.f11 [.raw] 0 law39_line.k 12 [] fuel (law39_line.s12 aKind aI aK aAt aBy aSpanLo aSpanHi aBag aDraws x8)) = law39_line.l12 fuel aKind aI aK aAt aBy aSpanLo aSpanHi aBag aDraws fuel := (funext fun x8 => law39_line.l12_eq fuel aKind aI aK aAt aBy aSpanLo aSpanHi aBag aDraws fuel x8)
    rw [e12]
    rfl
theorem law39_line.l8_eq (fuel : Nat) (aKind : Int) (aI : Int) (aK : Int) (aAt : Int) (aBy : Int) (aSpanLo : Int) (aSpanHi : Int) (aBag : List (Int × List Int)) (aDraws : List Int) : ∀ (k : Nat) (x4 : ByteArray), lp law39_line_E fuel Tryz.f11 [.raw] 0 law39_line.k 8 [] k (law39_line.s8 aKind aI aK aAt aBy aSpanLo aSpanHi aBag aDraws x4) = law39_line.l8 fuel aKind aI aK aAt aBy aSpanLo aSpanHi aBag aDraws k x4 := by
  intro k
  induction k with
  | zero => intro x4; rfl
  | succ k ih =>
    intro x4
    have h : lp law39_line_E fuel Tryz.f11 [.raw] 0 law39_line.k 8 [] (k + 1) (law39_line.s8 aKind aI aK aAt aBy aSpanLo aSpanHi aBag aDraws x4) = law39_line.b8 aKind aI aK aAt aBy aSpanLo aSpanHi aBag aDraws (fun x4 => lp law39_line_E fuel Tryz.f11 [.raw] 0 law39_line.k 8 [] k (law39_line.s8 aKind aI aK aAt aBy aSpanLo aSpanHi aBag aDraws x4)) (fun x6 => lp law39_line_E fuel Tryz.f11 [.raw] 0 law39_line.k 10 [] fuel (law39_line.s10 aKind aI aK aAt aBy aSpanLo aSpanHi aBag aDraws x6)) x4 := by kernel_rfl
    rw [h]
    have e8 : (fun x4 => lp law39_line_E fuel Tryz.f11 [.raw] 0 law39_line.k 8 [] k (law39_line.s8 aKind aI aK aAt aBy aSpanLo aSpanHi aBag aDraws x4)) = law39_line.l8 fuel aKind aI aK aAt aBy aSpanLo aSpanHi aBag aDraws k := (funext fun x4 => ih x4)
    rw [e8]
    have e10 : (fun x6 => lp law39_line_E fuel Tryz.f11 [.raw] 0 law39_line.k 10 [] fuel (law39_line.s10 aKind aI aK aAt aBy aSpanLo aSpanHi aBag aDraws x6)) = law39_line.l10 fuel aKind aI aK aAt aBy aSpanLo aSpanHi aBag aDraws fuel := (funext fun x6 => law39_line.l10_eq fuel aKind aI aK aAt aBy aSpanLo aSpanHi aBag aDraws fuel x6)
    rw [e10]
    rfl
theorem law39_line.l5_eq (fuel : Nat) (aKind : Int) (aI : Int) (aK : Int) (aAt : Int) (aBy : Int) (aSpanLo : Int) (aSpanHi : Int) (aBag : List (Int × List Int)) (aDraws : List Int) : ∀ (k : Nat), lp law39_line_E fuel Tryz.f11 [.raw] 0 law39_line.k 5 [] k (law39_line.s5 aKind aI aK aAt aBy aSpanLo aSpanHi aBag aDraws) = law39_line.l5 fuel aKind aI aK aAt aBy aSpanLo aSpanHi aBag aDraws k := by
  intro k
  induction k with
  | zero => rfl
  | succ k ih =>
    have h : lp law39_line_E fuel Tryz.f11 [.raw] 0 law39_line.k 5 [] (k + 1) (law39_line.s5 aKind aI aK aAt aBy aSpanLo aSpanHi aBag aDraws) = law39_line.b5 aKind aI aK aAt aBy aSpanLo aSpanHi aBag aDraws (lp law39_line_E fuel Tryz.f11 [.raw] 0 law39_line.k 5 [] k (law39_line.s5 aKind aI aK aAt aBy aSpanLo aSpanHi aBag aDraws)) (fun x4 => lp law39_line_E fuel Tryz.f11 [.raw] 0 law39_line.k 8 [] fuel (law39_line.s8 aKind aI aK aAt aBy aSpanLo aSpanHi aBag aDraws x4)) := by kernel_rfl
    rw [h]
    have e5 : (lp law39_line_E fuel Tryz.f11 [.raw] 0 law39_line.k 5 [] k (law39_line.s5 aKind aI aK aAt aBy aSpanLo aSpanHi aBag aDraws)) = law39_line.l5 fuel aKind aI aK aAt aBy aSpanLo aSpanHi aBag aDraws k := ih
    rw [e5]
    have e8 : (fun x4 => lp law39_line_E fuel Tryz.f11 [.raw] 0 law39_line.k 8 [] fuel (law39_line.s8 aKind aI aK aAt aBy aSpanLo aSpanHi aBag aDraws x4)) = law39_line.l8 fuel aKind aI aK aAt aBy aSpanLo aSpanHi aBag aDraws fuel := (funext fun x4 => law39_line.l8_eq fuel aKind aI aK aAt aBy aSpanLo aSpanHi aBag aDraws fuel x4)
    rw [e8]
    rfl
theorem law39_line.eq (fuel : Nat) (aKind : Int) (aI : Int) (aK : Int) (aAt : Int) (aBy : Int) (aSpanLo : Int) (aSpanHi : Int) (aBag : List (Int × List Int)) (aDraws : List Int) : (denF law39_line_E loopN fuel Tryz.f11 [.raw] [.agg [.d (.int .i64) aKind, .d (.int .i64) aI, .d (.int .i64) aK, .d (.int .i64) aAt, .d (.int .i64) aBy, .d (.int .i64) aSpanLo, .d (.int .i64) aSpanHi, .d (.sl (.pair (.int .i64) (.sl (.int .u8)))) aBag, .d (.sl (.int .i64)) aDraws]] [] law39_line.k) = law39_line.f fuel aKind aI aK aAt aBy aSpanLo aSpanHi aBag aDraws := by
  have h : (denF law39_line_E loopN fuel Tryz.f11 [.raw] [.agg [.d (.int .i64) aKind, .d (.int .i64) aI, .d (.int .i64) aK, .d (.int .i64) aAt, .d (.int .i64) aBy, .d (.int .i64) aSpanLo, .d (.int .i64) aSpanHi, .d (.sl (.pair (.int .i64) (.sl (.int .u8)))) aBag, .d (.sl (.int .i64)) aDraws]] [] law39_line.k) = law39_line.b aKind aI aK aAt aBy aSpanLo aSpanHi aBag aDraws (lp law39_line_E fuel Tryz.f11 [.raw] 0 law39_line.k 5 [] fuel (law39_line.s5 aKind aI aK aAt aBy aSpanLo aSpanHi aBag aDraws)) := by kernel_rfl
  rw [h]
  have e5 : (lp law39_line_E fuel Tryz.f11 [.raw] 0 law39_line.k 5 [] fuel (law39_line.s5 aKind aI aK aAt aBy aSpanLo aSpanHi aBag aDraws)) = law39_line.l5 fuel aKind aI aK aAt aBy aSpanLo aSpanHi aBag aDraws fuel := law39_line.l5_eq fuel aKind aI aK aAt aBy aSpanLo aSpanHi aBag aDraws fuel
  rw [e5]
  rfl
theorem law39_line.l22_at (fuel nN kK : Nat) (hN : nN = kK + 1) (aKind : Int) (aI : Int) (aK : Int) (aAt : Int) (aBy : Int) (aSpanLo : Int) (aSpanHi : Int) (aBag : List (Int × List Int)) (aDraws : List Int) (A18 : ByteArray → Int → Option ByteArray) (x18 : ByteArray) (x19 : Int) (x20 : Int) : law39_line.l22 fuel aKind aI aK aAt aBy aSpanLo aSpanHi aBag aDraws A18 nN x18 x19 x20 = law39_line.b22 aKind aI aK aAt aBy aSpanLo aSpanHi aBag aDraws A18 (law39_line.l22 fuel aKind aI aK aAt aBy aSpanLo aSpanHi aBag aDraws A18 kK) x18 x19 x20 := by
  subst hN
  rfl
theorem law39_line.l30_at (fuel nN kK : Nat) (hN : nN = kK + 1) (aKind : Int) (aI : Int) (aK : Int) (aAt : Int) (aBy : Int) (aSpanLo : Int) (aSpanHi : Int) (aBag : List (Int × List Int)) (aDraws : List Int) (x30 : ByteArray) : law39_line.l30 fuel aKind aI aK aAt aBy aSpanLo aSpanHi aBag aDraws nN x30 = law39_line.b30 aKind aI aK aAt aBy aSpanLo aSpanHi aBag aDraws (law39_line.l30 fuel aKind aI aK aAt aBy aSpanLo aSpanHi aBag aDraws kK) x30 := by
  subst hN
  rfl
theorem law39_line.l27_at (fuel nN kK : Nat) (hN : nN = kK + 1) (aKind : Int) (aI : Int) (aK : Int) (aAt : Int) (aBy : Int) (aSpanLo : Int) (aSpanHi : Int) (aBag : List (Int × List Int)) (aDraws : List Int) (x26 : ByteArray) (x27 : Int) : law39_line.l27 fuel aKind aI aK aAt aBy aSpanLo aSpanHi aBag aDraws nN x26 x27 = law39_line.b27 aKind aI aK aAt aBy aSpanLo aSpanHi aBag aDraws (law39_line.l27 fuel aKind aI aK aAt aBy aSpanLo aSpanHi aBag aDraws kK) (law39_line.l30 fuel aKind aI aK aAt aBy aSpanLo aSpanHi aBag aDraws fuel) x26 x27 := by
  subst hN
  rfl
theorem law39_line.l25_at (fuel nN kK : Nat) (hN : nN = kK + 1) (aKind : Int) (aI : Int) (aK : Int) (aAt : Int) (aBy : Int) (aSpanLo : Int) (aSpanHi : Int) (aBag : List (Int × List Int)) (aDraws : List Int) (x25 : ByteArray) : law39_line.l25 fuel aKind aI aK aAt aBy aSpanLo aSpanHi aBag aDraws nN x25 = law39_line.b25 aKind aI aK aAt aBy aSpanLo aSpanHi aBag aDraws (law39_line.l25 fuel aKind aI aK aAt aBy aSpanLo aSpanHi aBag aDraws kK) (law39_line.l27 fuel aKind aI aK aAt aBy aSpanLo aSpanHi aBag aDraws fuel) (law39_line.l30 fuel aKind aI aK aAt aBy aSpanLo aSpanHi aBag aDraws fuel) x25 := by
  subst hN
  rfl
theorem law39_line.l18_at (fuel nN kK : Nat) (hN : nN = kK + 1) (aKind : Int) (aI : Int) (aK : Int) (aAt : Int) (aBy : Int) (aSpanLo : Int) (aSpanHi : Int) (aBag : List (Int × List Int)) (aDraws : List Int) (x14 : ByteArray) (x15 : Int) : law39_line.l18 fuel aKind aI aK aAt aBy aSpanLo aSpanHi aBag aDraws nN x14 x15 = law39_line.b18 aKind aI aK aAt aBy aSpanLo aSpanHi aBag aDraws (law39_line.l18 fuel aKind aI aK aAt aBy aSpanLo aSpanHi aBag aDraws kK) (law39_line.l22 fuel aKind aI aK aAt aBy aSpanLo aSpanHi aBag aDraws (law39_line.l18 fuel aKind aI aK aAt aBy aSpanLo aSpanHi aBag aDraws kK) fuel) (law39_line.l25 fuel aKind aI aK aAt aBy aSpanLo aSpanHi aBag aDraws fuel) x14 x15 := by
  subst hN
  rfl
theorem law39_line.l16_at (fuel nN kK : Nat) (hN : nN = kK + 1) (aKind : Int) (aI : Int) (aK : Int) (aAt : Int) (aBy : Int) (aSpanLo : Int) (aSpanHi : Int) (aBag : List (Int × List Int)) (aDraws : List Int) (x13 : ByteArray) : law39_line.l16 fuel aKind aI aK aAt aBy aSpanLo aSpanHi aBag aDraws nN x13 = law39_line.b16 aKind aI aK aAt aBy aSpanLo aSpanHi aBag aDraws (law39_line.l16 fuel aKind aI aK aAt aBy aSpanLo aSpanHi aBag aDraws kK) (law39_line.l18 fuel aKind aI aK aAt aBy aSpanLo aSpanHi aBag aDraws fuel) (law39_line.l25 fuel aKind aI aK aAt aBy aSpanLo aSpanHi aBag aDraws fuel) x13 := by
  subst hN
  rfl
theorem law39_line.l14_at (fuel nN kK : Nat) (hN : nN = kK + 1) (aKind : Int) (aI : Int) (aK : Int) (aAt : Int) (aBy : Int) (aSpanLo : Int) (aSpanHi : Int) (aBag : List (Int × List Int)) (aDraws : List Int) (x10 : ByteArray) : law39_line.l14 fuel aKind aI aK aAt aBy aSpanLo aSpanHi aBag aDraws nN x10 = law39_line.b14 aKind aI aK aAt aBy aSpanLo aSpanHi aBag aDraws (law39_line.l14 fuel aKind aI aK aAt aBy aSpanLo aSpanHi aBag aDraws kK) (law39_line.l16 fuel aKind aI aK aAt aBy aSpanLo aSpanHi aBag aDraws fuel) x10 := by
  subst hN
  rfl
theorem law39_line.l12_at (fuel nN kK : Nat) (hN : nN = kK + 1) (aKind : Int) (aI : Int) (aK : Int) (aAt : Int) (aBy : Int) (aSpanLo : Int) (aSpanHi : Int) (aBag : List (Int × List Int)) (aDraws : List Int) (x8 : ByteArray) : law39_line.l12 fuel aKind aI aK aAt aBy aSpanLo aSpanHi aBag aDraws nN x8 = law39_line.b12 aKind aI aK aAt aBy aSpanLo aSpanHi aBag aDraws (law39_line.l12 fuel aKind aI aK aAt aBy aSpanLo aSpanHi aBag aDraws kK) (law39_line.l14 fuel aKind aI aK aAt aBy aSpanLo aSpanHi aBag aDraws fuel) x8 := by
  subst hN
  rfl
theorem law39_line.l10_at (fuel nN kK : Nat) (hN : nN = kK + 1) (aKind : Int) (aI : Int) (aK : Int) (aAt : Int) (aBy : Int) (aSpanLo : Int) (aSpanHi : Int) (aBag : List (Int × List Int)) (aDraws : List Int) (x6 : ByteArray) : law39_line.l10 fuel aKind aI aK aAt aBy aSpanLo aSpanHi aBag aDraws nN x6 = law39_line.b10 aKind aI aK aAt aBy aSpanLo aSpanHi aBag aDraws (law39_line.l10 fuel aKind aI aK aAt aBy aSpanLo aSpanHi aBag aDraws kK) (law39_line.l12 fuel aKind aI aK aAt aBy aSpanLo aSpanHi aBag aDraws fuel) x6 := by
  subst hN
  rfl
theorem law39_line.l8_at (fuel nN kK : Nat) (hN : nN = kK + 1) (aKind : Int) (aI : Int) (aK : Int) (aAt : Int) (aBy : Int) (aSpanLo : Int) (aSpanHi : Int) (aBag : List (Int × List Int)) (aDraws : List Int) (x4 : ByteArray) : law39_line.l8 fuel aKind aI aK aAt aBy aSpanLo aSpanHi aBag aDraws nN x4 = law39_line.b8 aKind aI aK aAt aBy aSpanLo aSpanHi aBag aDraws (law39_line.l8 fuel aKind aI aK aAt aBy aSpanLo aSpanHi aBag aDraws kK) (law39_line.l10 fuel aKind aI aK aAt aBy aSpanLo aSpanHi aBag aDraws fuel) x4 := by
  subst hN
  rfl
theorem law39_line.l5_at (fuel nN kK : Nat) (hN : nN = kK + 1) (aKind : Int) (aI : Int) (aK : Int) (aAt : Int) (aBy : Int) (aSpanLo : Int) (aSpanHi : Int) (aBag : List (Int × List Int)) (aDraws : List Int) : law39_line.l5 fuel aKind aI aK aAt aBy aSpanLo aSpanHi aBag aDraws nN = law39_line.b5 aKind aI aK aAt aBy aSpanLo aSpanHi aBag aDraws (law39_line.l5 fuel aKind aI aK aAt aBy aSpanLo aSpanHi aBag aDraws kK) (law39_line.l8 fuel aKind aI aK aAt aBy aSpanLo aSpanHi aBag aDraws fuel) := by
  subst hN
  rfl
noncomputable def s_law39_line : Den.Sum := ⟨[.dat (.pair (.int .i64) (.pair (.int .i64) (.pair (.int .i64) (.pair (.int .i64) (.pair (.int .i64) (.pair (.pair (.int .i64) (.int .i64)) (.pair (.sl (.pair (.int .i64) (.sl (.int .u8)))) (.sl (.int .i64))))))))) true], fun args objs κ => match args, objs with
  | [.agg [.d (.int .i64) aKind, .d (.int .i64) aI, .d (.int .i64) aK, .d (.int .i64) aAt, .d (.int .i64) aBy, .d (.int .i64) aSpanLo, .d (.int .i64) aSpanHi, .d (.sl (.pair (.int .i64) (.sl (.int .u8)))) aBag, .d (.sl (.int .i64)) aDraws]], [] => (match veil (law39_line.f BIG aKind aI aK aAt aBy aSpanLo aSpanHi aBag aDraws) with | none => none | some y => κ [.d .str y] [])
  | _, _ => none⟩
theorem s_law39_line_det : SumDet s_law39_line := fun avs objs R κ => by
  show s_law39_line.run avs objs (two κ) = (s_law39_line.run avs objs (two some)).bind κ
  unfold s_law39_line
  simp only [veil_eq]
  split
  · split <;> rfl
  · rfl
theorem s_law39_line_ok : SumOk Tryz.prog 11 s_law39_line := by
  have hE : EnvOk Tryz.prog law39_line_E := env_ok (l := [(17, s_span_Valid), (23, s_law39_num), (24, s_law39_hex)]) th_ok any_ok ⟨⟨s_span_Valid_ok, s_span_Valid_det⟩, ⟨s_law39_num_ok, s_law39_num_det⟩, ⟨s_law39_hex_ok, s_law39_hex_det⟩, trivial⟩ _
  refine sum_ok hE Tryz.func11 rfl (by kernel_rfl) s_law39_line [.raw] law39_line.k ?_
  intro R avs objs κ r h
  unfold s_law39_line at h
  simp only [veil_eq] at h
  split at h
  · rename_i aKind aI aK aAt aBy aSpanLo aSpanHi aBag aDraws
    split at h
    · cases h
    · rename_i y hy
      refine ⟨BIG, _, _, _, (law39_line.eq BIG aKind aI aK aAt aBy aSpanLo aSpanHi aBag aDraws).trans hy, ?_, h⟩
      intro rs ros hk
      unfold law39_line.k at hk
      split at hk
      · first | (cases hk; exact ⟨rfl, rfl⟩) | (have e := Option.some.inj hk; rw [← e]; exact ⟨rfl, rfl⟩)
      · cases hk
  · cases h
noncomputable def law39_few_E : Env := ⟨th, gam [(25, s_law06_Few)], fun i => ⟨[], [], []⟩⟩
noncomputable def law39_few.k (rs : List AV) (os : List Den.Obj) : Option Bool :=
  match rs, os with
  | [.d .bool r0], [] => some r0
  | _, _ => none
noncomputable def law39_few.b (aKind : Int) (aI : Int) (aK : Int) (aAt : Int) (aBy : Int) (aSpanLo : Int) (aSpanHi : Int) (aBag : List (Int × List Int)) (aDraws : List Int) : Option Bool :=
  (match (veil (law06_Few.f BIG aBag)) with | none => none | some y0 => (if y0 then some ((decide (((((List.length aDraws)) : Nat) : Int) ≤ (40 : Int)))) else some (false)))
noncomputable def law39_few.f (fuel : Nat) (aKind : Int) (aI : Int) (aK : Int) (aAt : Int) (aBy : Int) (aSpanLo : Int) (aSpanHi : Int) (aBag : List (Int × List Int)) (aDraws : List Int) : Option Bool := law39_few.b aKind aI aK aAt aBy aSpanLo aSpanHi aBag aDraws
theorem law39_few.eq (fuel : Nat) (aKind : Int) (aI : Int) (aK : Int) (aAt : Int) (aBy : Int) (aSpanLo : Int) (aSpanHi : Int) (aBag : List (Int × List Int)) (aDraws : List Int) : (denF law39_few_E loopN fuel Tryz.f13 [.raw] [.agg [.d (.int .i64) aKind, .d (.int .i64) aI, .d (.int .i64) aK, .d (.int .i64) aAt, .d (.int .i64) aBy, .d (.int .i64) aSpanLo, .d (.int .i64) aSpanHi, .d (.sl (.pair (.int .i64) (.sl (.int .u8)))) aBag, .d (.sl (.int .i64)) aDraws]] [] law39_few.k) = law39_few.f fuel aKind aI aK aAt aBy aSpanLo aSpanHi aBag aDraws := by
  kernel_rfl
noncomputable def s_law39_few : Den.Sum := ⟨[.dat (.pair (.int .i64) (.pair (.int .i64) (.pair (.int .i64) (.pair (.int .i64) (.pair (.int .i64) (.pair (.pair (.int .i64) (.int .i64)) (.pair (.sl (.pair (.int .i64) (.sl (.int .u8)))) (.sl (.int .i64))))))))) true], fun args objs κ => match args, objs with
  | [.agg [.d (.int .i64) aKind, .d (.int .i64) aI, .d (.int .i64) aK, .d (.int .i64) aAt, .d (.int .i64) aBy, .d (.int .i64) aSpanLo, .d (.int .i64) aSpanHi, .d (.sl (.pair (.int .i64) (.sl (.int .u8)))) aBag, .d (.sl (.int .i64)) aDraws]], [] => (match veil (law39_few.f BIG aKind aI aK aAt aBy aSpanLo aSpanHi aBag aDraws) with | none => none | some y => κ [.d .bool y] [])
  | _, _ => none⟩
theorem s_law39_few_det : SumDet s_law39_few := fun avs objs R κ => by
  show s_law39_few.run avs objs (two κ) = (s_law39_few.run avs objs (two some)).bind κ
  unfold s_law39_few
  simp only [veil_eq]
  split
  · split <;> rfl
  · rfl
theorem s_law39_few_ok : SumOk Tryz.prog 13 s_law39_few := by
  have hE : EnvOk Tryz.prog law39_few_E := env_ok (l := [(25, s_law06_Few)]) th_ok any_ok ⟨⟨s_law06_Few_ok, s_law06_Few_det⟩, trivial⟩ _
  refine sum_ok hE Tryz.func13 rfl (by kernel_rfl) s_law39_few [.raw] law39_few.k ?_
  intro R avs objs κ r h
  unfold s_law39_few at h
  simp only [veil_eq] at h
  split at h
  · rename_i aKind aI aK aAt aBy aSpanLo aSpanHi aBag aDraws
    split at h
    · cases h
    · rename_i y hy
      refine ⟨BIG, _, _, _, (law39_few.eq BIG aKind aI aK aAt aBy aSpanLo aSpanHi aBag aDraws).trans hy, ?_, h⟩
      intro rs ros hk
      unfold law39_few.k at hk
      split at hk
      · first | (cases hk; exact ⟨rfl, rfl⟩) | (have e := Option.some.inj hk; rw [← e]; exact ⟨rfl, rfl⟩)
      · cases hk
  · cases h
noncomputable def say_of_E : Env := ⟨th, gam [(20, s_say_rows)], fun i => ⟨[], [], []⟩⟩
noncomputable def say_of.k (rs : List AV) (os : List Den.Obj) : Option (ByteArray × Int × Bool) :=
  match rs, os with
  | [.agg [.d .str r0, .d (.int .i64) r1], .d .bool r2], [] => some (r0, r1, r2)
  | _, _ => none
noncomputable def say_of.b (kind : Int) : Option (ByteArray × Int × Bool) :=
  (if (decide (kind < (1 : Int))) then some ((⟨(([] : List UInt8)).toArray⟩ : ByteArray), 0, false) else (if (decide (kind > (11 : Int))) then some ((⟨(([] : List UInt8)).toArray⟩ : ByteArray), 0, false) else (match (veil (say_rows.f BIG ())) with | none => none | some y0 => (match (idx y0 kind) with | none => none | some y1 => some (y1.1, y1.2, true)))))
noncomputable def say_of.f (fuel : Nat) (kind : Int) : Option (ByteArray × Int × Bool) := say_of.b kind
theorem say_of.eq (fuel : Nat) (kind : Int) : (denF say_of_E loopN fuel Tryz.f26 [.dat (.pair .str (.int .i64)) true, .raw] [.d (.int .i64) kind] [] say_of.k) = say_of.f fuel kind := by
  kernel_rfl
noncomputable def s_say_of : Den.Sum := ⟨[.raw], fun args objs κ => match args, objs with
  | [.d (.int .i64) kind], [] => (match veil (say_of.f BIG kind) with | none => none | some y => κ [.agg [.d .str y.1, .d (.int .i64) y.2.1], .d .bool y.2.2] [])
  | _, _ => none⟩
theorem s_say_of_det : SumDet s_say_of := fun avs objs R κ => by
  show s_say_of.run avs objs (two κ) = (s_say_of.run avs objs (two some)).bind κ
  unfold s_say_of
  simp only [veil_eq]
  split
  · split <;> rfl
  · rfl
theorem s_say_of_ok : SumOk Tryz.prog 26 s_say_of := by
  have hE : EnvOk Tryz.prog say_of_E := env_ok (l := [(20, s_say_rows)]) th_ok any_ok ⟨⟨s_say_rows_ok, s_say_rows_det⟩, trivial⟩ _
  refine sum_ok hE Tryz.func26 rfl (by kernel_rfl) s_say_of [.dat (.pair .str (.int .i64)) true, .raw] say_of.k ?_
  intro R avs objs κ r h
  unfold s_say_of at h
  simp only [veil_eq] at h
  split at h
  · rename_i kind
    split at h
    · cases h
    · rename_i y hy
      refine ⟨BIG, _, _, _, (say_of.eq BIG kind).trans hy, ?_, h⟩
      intro rs ros hk
      unfold say_of.k at hk
      split at hk
      · first | (cases hk; exact ⟨rfl, rfl⟩) | (have e := Option.some.inj hk; rw [← e]; exact ⟨rfl, rfl⟩)
      · cases hk
  · cases h
noncomputable def span_Text_E : Env := ⟨th, gam [(17, s_span_Valid)], fun i => ⟨[], [], []⟩⟩
noncomputable def span_Text.k (rs : List AV) (os : List Den.Obj) : Option ByteArray :=
  match rs, os with
  | [.d .str r0], [] => some r0
  | _, _ => none
noncomputable def span_Text.b (sLo : Int) (sHi : Int) : Option ByteArray :=
  (match (veil (span_Valid.f BIG sLo sHi)) with | none => none | some y0 => (if (!y0) then some ((⟨(([] : List UInt8)).toArray⟩ : ByteArray)) else some ((strOf ((Go.IntKind.wrap .u8 (Go.IntKind.wrap .i64 ((48 : Int) + sLo))) :: ((45 : Int) :: ((Go.IntKind.wrap .u8 (Go.IntKind.wrap .i64 ((48 : Int) + sHi))) :: ([] : List Int))))))))
noncomputable def span_Text.f (fuel : Nat) (sLo : Int) (sHi : Int) : Option ByteArray := span_Text.b sLo sHi
theorem span_Text.eq (fuel : Nat) (sLo : Int) (sHi : Int) : (denF span_Text_E loopN fuel Tryz.f40 [.raw] [.agg [.d (.int .i64) sLo, .d (.int .i64) sHi]] [] span_Text.k) = span_Text.f fuel sLo sHi := by
  kernel_rfl
noncomputable def s_span_Text : Den.Sum := ⟨[.dat (.pair (.int .i64) (.int .i64)) true], fun args objs κ => match args, objs with
  | [.agg [.d (.int .i64) sLo, .d (.int .i64) sHi]], [] => (match veil (span_Text.f BIG sLo sHi) with | none => none | some y => κ [.d .str y] [])
  | _, _ => none⟩
theorem s_span_Text_det : SumDet s_span_Text := fun avs objs R κ => by
  show s_span_Text.run avs objs (two κ) = (s_span_Text.run avs objs (two some)).bind κ
  unfold s_span_Text
  simp only [veil_eq]
  split
  · split <;> rfl
  · rfl
theorem s_span_Text_ok : SumOk Tryz.prog 40 s_span_Text := by
  have hE : EnvOk Tryz.prog span_Text_E := env_ok (l := [(17, s_span_Valid)]) th_ok any_ok ⟨⟨s_span_Valid_ok, s_span_Valid_det⟩, trivial⟩ _
  refine sum_ok hE Tryz.func40 rfl (by kernel_rfl) s_span_Text [.raw] span_Text.k ?_
  intro R avs objs κ r h
  unfold s_span_Text at h
  simp only [veil_eq] at h
  split at h
  · rename_i sLo sHi
    split at h
    · cases h
    · rename_i y hy
      refine ⟨BIG, _, _, _, (span_Text.eq BIG sLo sHi).trans hy, ?_, h⟩
      intro rs ros hk
      unfold span_Text.k at hk
      split at hk
      · first | (cases hk; exact ⟨rfl, rfl⟩) | (have e := Option.some.inj hk; rw [← e]; exact ⟨rfl, rfl⟩)
      · cases hk
  · cases h
noncomputable def bag_Copy_E : Env := ⟨th, gam [(62, s_bag_one)], fun i => if i = 3 then ⟨[3, 6, 7, 8], [(3, 48, (.pair (.int .i64) (.sl (.int .u8))))], []⟩ else ⟨[], [], []⟩⟩
noncomputable def bag_Copy.k (rs : List AV) (os : List Den.Obj) : Option (List (Int × (List Int))) :=
  match rs, os with
  | [.row 0], [.row 48 (.pair (.int .i64) (.sl (.int .u8))) r0 false] => some r0
  | _, _ => none
noncomputable def bag_Copy.s3 (b : List (Int × List Int)) (x0 : Int) (x1 : Int) (x2 : (List (Int × (List Int)))) : St := ⟨[.dead, .dead, .dead, .row 64, .dead, .dead, .d (.sl (.pair (.int .i64) (.sl (.int .u8)))) (b), .d (.int .i64) x0, .d (.int .i64) x1, .dead, .dead, .dead, .dead, .dead, .dead, .dead, .dead, .dead, .dead], ofL [(64, .row 48 (.pair (.int .i64) (.sl (.int .u8))) x2 false)], 0⟩
noncomputable def bag_Copy.b3 (b : List (Int × List Int)) (A3 : Int → Int → (List (Int × (List Int))) → Option (List (Int × (List Int)))) (x0 : Int) (x1 : Int) (x2 : (List (Int × (List Int)))) : Option (List (Int × (List Int))) :=
  (if (decide (x1 < x0)) then (match (idx b x1) with | none => none | some y3 => (match (veil (bag_one.f BIG y3.1 y3.2)) with | none => none | some y4 => (if ((((List.length x2) + (List.length ((y4.1, y4.2) :: ([] : List (Int × (List Int)))))) * (32 : Nat)) ≤ lim) then A3 x0 (Go.IntKind.wrap .i64 (x1 + (1 : Int))) (x2 ++ ((y4.1, y4.2) :: ([] : List (Int × (List Int))))) else none))) else some (x2))
noncomputable def bag_Copy.l3 (fuel : Nat) (b : List (Int × List Int)) : Nat → Int → Int → (List (Int × (List Int))) → Option (List (Int × (List Int)))
  | 0, _, _, _ => none
  | k + 1, x0, x1, x2 => bag_Copy.b3 b (bag_Copy.l3 fuel b k) x0 x1 x2
noncomputable def bag_Copy.b (b : List (Int × List Int)) (E3 : Int → Int → (List (Int × (List Int))) → Option (List (Int × (List Int)))) : Option (List (Int × (List Int))) :=
  E3 ((((List.length b)) : Nat) : Int) (0 : Int) ([] : List (Int × (List Int)))
noncomputable def bag_Copy.f (fuel : Nat) (b : List (Int × List Int)) : Option (List (Int × (List Int))) := bag_Copy.b b (bag_Copy.l3 fuel b fuel)
theorem bag_Copy.l3_eq (fuel : Nat) (b : List (Int × List Int)) : ∀ (k : Nat) (x0 : Int) (x1 : Int) (x2 : (List (Int × (List Int)))), lp bag_Copy_E fuel Tryz.f43 [.own 48 (.pair (.int .i64) (.sl (.int .u8)))] 0 bag_Copy.k 3 [] k (bag_Copy.s3 b x0 x1 x2) = bag_Copy.l3 fuel b k x0 x1 x2 := by
  intro k
  induction k with
  | zero => intro x0 x1 x2; rfl
  | succ k ih =>
    intro x0 x1 x2
    have h : lp bag_Copy_E fuel Tryz.f43 [.own 48 (.pair (.int .i64) (.sl (.int .u8)))] 0 bag_Copy.k 3 [] (k + 1) (bag_Copy.s3 b x0 x1 x2) = bag_Copy.b3 b (fun x0 x1 x2 => lp bag_Copy_E fuel Tryz.f43 [.own 48 (.pair (.int .i64) (.sl (.int .u8)))] 0 bag_Copy.k 3 [] k (bag_Copy.s3 b x0 x1 x2)) x0 x1 x2 := by kernel_rfl
    rw [h]
    have e3 : (fun x0 x1 x2 => lp bag_Copy_E fuel Tryz.f43 [.own 48 (.pair (.int .i64) (.sl (.int .u8)))] 0 bag_Copy.k 3 [] k (bag_Copy.s3 b x0 x1 x2)) = bag_Copy.l3 fuel b k := (funext fun x0 => (funext fun x1 => (funext fun x2 => ih x0 x1 x2)))
    rw [e3]
    rfl
theorem bag_Copy.eq (fuel : Nat) (b : List (Int × List Int)) : (denF bag_Copy_E loopN fuel Tryz.f43 [.own 48 (.pair (.int .i64) (.sl (.int .u8)))] [.d (.sl (.pair (.int .i64) (.sl (.int .u8)))) b] [] bag_Copy.k) = bag_Copy.f fuel b := by
  have h : (denF bag_Copy_E loopN fuel Tryz.f43 [.own 48 (.pair (.int .i64) (.sl (.int .u8)))] [.d (.sl (.pair (.int .i64) (.sl (.int .u8)))) b] [] bag_Copy.k) = bag_Copy.b b (fun x0 x1 x2 => lp bag_Copy_E fuel Tryz.f43 [.own 48 (.pair (.int .i64) (.sl (.int .u8)))] 0 bag_Copy.k 3 [] fuel (bag_Copy.s3 b x0 x1 x2)) := by kernel_rfl
  rw [h]
  have e3 : (fun x0 x1 x2 => lp bag_Copy_E fuel Tryz.f43 [.own 48 (.pair (.int .i64) (.sl (.int .u8)))] 0 bag_Copy.k 3 [] fuel (bag_Copy.s3 b x0 x1 x2)) = bag_Copy.l3 fuel b fuel := (funext fun x0 => (funext fun x1 => (funext fun x2 => bag_Copy.l3_eq fuel b fuel x0 x1 x2)))
  rw [e3]
  rfl
noncomputable def s_bag_Copy : Den.Sum := ⟨[.dat (.sl (.pair (.int .i64) (.sl (.int .u8)))) false], fun args objs κ => match args, objs with
  | [.d (.sl (.pair (.int .i64) (.sl (.int .u8)))) b], [] => (match veil (bag_Copy.f BIG b) with | none => none | some y => κ [.row 0] [.row 48 (.pair (.int .i64) (.sl (.int .u8))) y false])
  | _, _ => none⟩
theorem s_bag_Copy_det : SumDet s_bag_Copy := fun avs objs R κ => by
  show s_bag_Copy.run avs objs (two κ) = (s_bag_Copy.run avs objs (two some)).bind κ
  unfold s_bag_Copy
  simp only [veil_eq]
  split
  · split <;> rfl
  · rfl
theorem s_bag_Copy_ok : SumOk Tryz.prog 43 s_bag_Copy := by
  have hE : EnvOk Tryz.prog bag_Copy_E := env_ok (l := [(62, s_bag_one)]) th_ok any_ok ⟨⟨s_bag_one_ok, s_bag_one_det⟩, trivial⟩ _
  refine sum_ok hE Tryz.func43 rfl (by kernel_rfl) s_bag_Copy [.own 48 (.pair (.int .i64) (.sl (.int .u8)))] bag_Copy.k ?_
  intro R avs objs κ r h
  unfold s_bag_Copy at h
  simp only [veil_eq] at h
  split at h
  · rename_i b
    split at h
    · cases h
    · rename_i y hy
      refine ⟨BIG, _, _, _, (bag_Copy.eq BIG b).trans hy, ?_, h⟩
      intro rs ros hk
      unfold bag_Copy.k at hk
      split at hk
      · first | (cases hk; exact ⟨rfl, rfl⟩) | (have e := Option.some.inj hk; rw [← e]; exact ⟨rfl, rfl⟩)
      · cases hk
  · cases h
noncomputable def say_readBag_E : Env := ⟨th, gam [(63, s_say_readField)], fun i => if i = 2 then ⟨[0, 10, 11, 12], [], [1001]⟩ else ⟨[], [], []⟩⟩
noncomputable def say_readBag.k (rs : List AV) (os : List Den.Obj) : Option (Bool × Int × Int × Int × Int × Int × Int × Int × (List (Int × (List Int))) × (List Int) × (List ByteArray)) :=
  match rs, os with
  | [.row 5, .d .bool r0], [.box [.d (.int .i64) r1, .d (.int .i64) r2, .d (.int .i64) r3, .d (.int .i64) r4, .d (.int .i64) r5, .d (.int .i64) r6, .d (.int .i64) r7, .row 3, .row 4], .gone, .gone, .row 48 (.pair (.int .i64) (.sl (.int .u8))) r8 false, .row 3 (.int .i64) r9 false, .row 9 .str r10 false] => some (r0, r1, r2, r3, r4, r5, r6, r7, r8, r9, r10)
  | _, _ => none
noncomputable def say_readBag.s2 (aKind : Int) (aI : Int) (aK : Int) (aAt : Int) (aBy : Int) (aLo : Int) (aHi : Int) (aBag : List (Int × List Int)) (aDraws : List Int) (words : List ByteArray) (x0 : Int) (x1 : Int) (x2 : (List (Int × (List Int)))) : St := ⟨[.ptr 0 0, .dead, .dead, .dead, .dead, .dead, .dead, .dead, .dead, .dead, .d (.sl .str) (words), .d (.int .i64) x0, .d (.int .i64) x1, .dead, .dead, .dead, .dead, .dead, .dead, .dead, .dead, .dead, .dead, .dead, .dead, .dead, .dead, .dead, .dead, .dead, .dead, .dead, .dead, .dead], ofL [(0, .box [.d (.int .i64) (aKind), .d (.int .i64) (aI), .d (.int .i64) (aK), .d (.int .i64) (aAt), .d (.int .i64) (aBy), .d (.int .i64) (aLo), .d (.int .i64) (aHi), .row 64, .row 2]), (1, .gone), (2, .row 3 (.int .i64) (aDraws) false), (64, .row 48 (.pair (.int .i64) (.sl (.int .u8))) x2 false)], 3⟩
noncomputable def say_readBag.b2 (aKind : Int) (aI : Int) (aK : Int) (aAt : Int) (aBy : Int) (aLo : Int) (aHi : Int) (aBag : List (Int × List Int)) (aDraws : List Int) (words : List ByteArray) (A2 : Int → Int → (List (Int × (List Int))) → Option (Bool × Int × Int × Int × Int × Int × Int × Int × (List (Int × (List Int))) × (List Int) × (List ByteArray))) (x0 : Int) (x1 : Int) (x2 : (List (Int × (List Int)))) : Option (Bool × Int × Int × Int × Int × Int × Int × Int × (List (Int × (List Int))) × (List Int) × (List ByteArray)) :=
  (if (decide (x1 < x0)) then (match (idx words x1) with | none => none | some y3 => (match (veil (say_readField.f BIG y3)) with | none => none | some y4 => (if (!y4.2.2) then some (false, aKind, aI, aK, aAt, aBy, aLo, aHi, x2, aDraws, ([] : List ByteArray)) else (if ((((List.length x2) + (List.length ((y4.1, y4.2.1) :: ([] : List (Int × (List Int)))))) * (32 : Nat)) ≤ lim) then A2 x0 (Go.IntKind.wrap .i64 (x1 + (1 : Int))) (x2 ++ ((y4.1, y4.2.1) :: ([] : List (Int × (List Int))))) else none)))) else some (true, aKind, aI, aK, aAt, aBy, aLo, aHi, x2, aDraws, ([] : List ByteArray)))
noncomputable def say_readBag.l2 (fuel : Nat) (aKind : Int) (aI : Int) (aK : Int) (aAt : Int) (aBy : Int) (aLo : Int) (aHi : Int) (aBag : List (Int × List Int)) (aDraws : List Int) (words : List ByteArray) : Nat → Int → Int → (List (Int × (List Int))) → Option (Bool × Int × Int × Int × Int × Int × Int × Int × (List (Int × (List Int))) × (List Int) × (List ByteArray))
  | 0, _, _, _ => none
  | k + 1, x0, x1, x2 => say_readBag.b2 aKind aI aK aAt aBy aLo aHi aBag aDraws words (say_readBag.l2 fuel aKind aI aK aAt aBy aLo aHi aBag aDraws words k) x0 x1 x2
noncomputable def say_readBag.b (aKind : Int) (aI : Int) (aK : Int) (aAt : Int) (aBy : Int) (aLo : Int) (aHi : Int) (aBag : List (Int × List Int)) (aDraws : List Int) (words : List ByteArray) (E2 : Int → Int → (List (Int × (List Int))) → Option (Bool × Int × Int × Int × Int × Int × Int × Int × (List (Int × (List Int))) × (List Int) × (List ByteArray))) : Option (Bool × Int × Int × Int × Int × Int × Int × Int × (List (Int × (List Int))) × (List Int) × (List ByteArray)) :=
  E2 ((((List.length words)) : Nat) : Int) (0 : Int) aBag
end Go.Proofs.YthangnlmckeipaaGreatDoor
