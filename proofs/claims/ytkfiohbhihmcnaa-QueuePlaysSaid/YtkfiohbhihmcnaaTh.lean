/- The table of types: printed by denth.py. -/
import Derived.Test.YtkfiohbhihmcnaaEv3
import Derived.Test.YtkfiohbhihmcnaaProg
import Derived.KernelRfl
namespace Go.Proofs.Ytkfiohbhihmcnaa
open Go.Den
def td1 : TD := { k := .func, sz := 1, nb := 8, ty := none, zero := [.nilf], eq := false }
theorem td1_ok : TRow Try.prog 1 td1 := tRow_of _ _ _ (by kernel_rfl) (by kernel_rfl)
def td2 : TD := { k := .int .i64, sz := 1, nb := 8, ty := some (.int .i64), zero := [.d (.int .i64) 0], eq := false }
theorem td2_ok : TRow Try.prog 2 td2 := tRow_of _ _ _ (by kernel_rfl) (by kernel_rfl)
def td3 : TD := { k := .int .i64, sz := 1, nb := 8, ty := some (.int .i64), zero := [.d (.int .i64) 0], eq := false }
theorem td3_ok : TRow Try.prog 3 td3 := tRow_of _ _ _ (by kernel_rfl) (by kernel_rfl)
def td4 : TD := { k := .bool, sz := 1, nb := 1, ty := some .bool, zero := [.d .bool false], eq := false }
theorem td4_ok : TRow Try.prog 4 td4 := tRow_of _ _ _ (by kernel_rfl) (by kernel_rfl)
def td5 : TD := { k := .int .u8, sz := 1, nb := 1, ty := some (.int .u8), zero := [.d (.int .u8) 0], eq := false }
theorem td5_ok : TRow Try.prog 5 td5 := tRow_of _ _ _ (by kernel_rfl) (by kernel_rfl)
def td6 : TD := { k := .int .u8, sz := 1, nb := 1, ty := some (.int .u8), zero := [.d (.int .u8) 0], eq := false }
theorem td6_ok : TRow Try.prog 6 td6 := tRow_of _ _ _ (by kernel_rfl) (by kernel_rfl)
def td7 : TD := { k := .struct [(0, 2), (1, 3), (2, 4), (3, 6)], sz := 4, nb := 24, ty := some (.pair (.int .i64) (.pair (.int .i64) (.pair .bool (.int .u8)))), zero := [.d (.int .i64) 0, .d (.int .i64) 0, .d .bool false, .d (.int .u8) 0], eq := true }
theorem td7_ok : TRow Try.prog 7 td7 := tRow_of _ _ _ (by kernel_rfl) (by kernel_rfl)
def td8 : TD := { k := .struct [(0, 2), (1, 3), (2, 4), (3, 6)], sz := 4, nb := 24, ty := some (.pair (.int .i64) (.pair (.int .i64) (.pair .bool (.int .u8)))), zero := [.d (.int .i64) 0, .d (.int .i64) 0, .d .bool false, .d (.int .u8) 0], eq := true }
theorem td8_ok : TRow Try.prog 8 td8 := tRow_of _ _ _ (by kernel_rfl) (by kernel_rfl)
def td9 : TD := { k := .str, sz := 1, nb := 16, ty := some .str, zero := [.d .str ⟨#[]⟩], eq := false }
theorem td9_ok : TRow Try.prog 9 td9 := tRow_of _ _ _ (by kernel_rfl) (by kernel_rfl)
def td10 : TD := { k := .str, sz := 1, nb := 16, ty := some .str, zero := [.d .str ⟨#[]⟩], eq := false }
theorem td10_ok : TRow Try.prog 10 td10 := tRow_of _ _ _ (by kernel_rfl) (by kernel_rfl)
def td11 : TD := { k := .str, sz := 1, nb := 16, ty := some .str, zero := [.d .str ⟨#[]⟩], eq := false }
theorem td11_ok : TRow Try.prog 11 td11 := tRow_of _ _ _ (by kernel_rfl) (by kernel_rfl)
def td12 : TD := { k := .int .u64, sz := 1, nb := 8, ty := some (.int .u64), zero := [.d (.int .u64) 0], eq := false }
theorem td12_ok : TRow Try.prog 12 td12 := tRow_of _ _ _ (by kernel_rfl) (by kernel_rfl)
def td13 : TD := { k := .struct [(0, 9), (1, 12)], sz := 2, nb := 24, ty := some (.pair .str (.int .u64)), zero := [.d .str ⟨#[]⟩, .d (.int .u64) 0], eq := false }
theorem td13_ok : TRow Try.prog 13 td13 := tRow_of _ _ _ (by kernel_rfl) (by kernel_rfl)
def td14 : TD := { k := .struct [(0, 9), (1, 12)], sz := 2, nb := 24, ty := some (.pair .str (.int .u64)), zero := [.d .str ⟨#[]⟩, .d (.int .u64) 0], eq := false }
theorem td14_ok : TRow Try.prog 14 td14 := tRow_of _ _ _ (by kernel_rfl) (by kernel_rfl)
def td15 : TD := { k := .ptr 143, sz := 1, nb := 8, ty := none, zero := [.pnil], eq := false }
theorem td15_ok : TRow Try.prog 15 td15 := tRow_of _ _ _ (by kernel_rfl) (by kernel_rfl)
def td16 : TD := { k := .ptr 146, sz := 1, nb := 8, ty := none, zero := [.pnil], eq := false }
theorem td16_ok : TRow Try.prog 16 td16 := tRow_of _ _ _ (by kernel_rfl) (by kernel_rfl)
def td17 : TD := { k := .ptr 156, sz := 1, nb := 8, ty := none, zero := [.pnil], eq := false }
theorem td17_ok : TRow Try.prog 17 td17 := tRow_of _ _ _ (by kernel_rfl) (by kernel_rfl)
def td18 : TD := { k := .struct [(0, 17)], sz := 1, nb := 8, ty := none, zero := [.pnil], eq := false }
theorem td18_ok : TRow Try.prog 18 td18 := tRow_of _ _ _ (by kernel_rfl) (by kernel_rfl)
def td19 : TD := { k := .struct [(0, 17)], sz := 1, nb := 8, ty := none, zero := [.pnil], eq := false }
theorem td19_ok : TRow Try.prog 19 td19 := tRow_of _ _ _ (by kernel_rfl) (by kernel_rfl)
def td21 : TD := { k := .int .i32, sz := 1, nb := 4, ty := some (.int .i32), zero := [.d (.int .i32) 0], eq := false }
theorem td21_ok : TRow Try.prog 21 td21 := tRow_of _ _ _ (by kernel_rfl) (by kernel_rfl)
def td22 : TD := { k := .sl 30, sz := 1, nb := 24, ty := some (.sl (.pair (.int .i64) (.pair (.int .i64) (.pair (.int .i64) (.pair (.int .i64) (.pair (.int .i64) (.int .i64))))))), zero := [.nilsl], eq := false }
theorem td22_ok : TRow Try.prog 22 td22 := tRow_of _ _ _ (by kernel_rfl) (by kernel_rfl)
def td23 : TD := { k := .func, sz := 1, nb := 8, ty := none, zero := [.nilf], eq := false }
theorem td23_ok : TRow Try.prog 23 td23 := tRow_of _ _ _ (by kernel_rfl) (by kernel_rfl)
def td24 : TD := { k := .ptr 85, sz := 1, nb := 8, ty := none, zero := [.pnil], eq := false }
theorem td24_ok : TRow Try.prog 24 td24 := tRow_of _ _ _ (by kernel_rfl) (by kernel_rfl)
def td25 : TD := { k := .func, sz := 1, nb := 8, ty := none, zero := [.nilf], eq := false }
theorem td25_ok : TRow Try.prog 25 td25 := tRow_of _ _ _ (by kernel_rfl) (by kernel_rfl)
def td26 : TD := { k := .sl 28, sz := 1, nb := 24, ty := some (.sl (.pair (.int .i64) (.pair (.int .i64) (.pair (.int .i64) (.pair (.int .i64) (.int .i64)))))), zero := [.nilsl], eq := false }
theorem td26_ok : TRow Try.prog 26 td26 := tRow_of _ _ _ (by kernel_rfl) (by kernel_rfl)
def td27 : TD := { k := .struct [(0, 3), (1, 3), (2, 3), (3, 3), (4, 3)], sz := 5, nb := 40, ty := some (.pair (.int .i64) (.pair (.int .i64) (.pair (.int .i64) (.pair (.int .i64) (.int .i64))))), zero := [.d (.int .i64) 0, .d (.int .i64) 0, .d (.int .i64) 0, .d (.int .i64) 0, .d (.int .i64) 0], eq := true }
theorem td27_ok : TRow Try.prog 27 td27 := tRow_of _ _ _ (by kernel_rfl) (by kernel_rfl)
def td28 : TD := { k := .struct [(0, 3), (1, 3), (2, 3), (3, 3), (4, 3)], sz := 5, nb := 40, ty := some (.pair (.int .i64) (.pair (.int .i64) (.pair (.int .i64) (.pair (.int .i64) (.int .i64))))), zero := [.d (.int .i64) 0, .d (.int .i64) 0, .d (.int .i64) 0, .d (.int .i64) 0, .d (.int .i64) 0], eq := true }
theorem td28_ok : TRow Try.prog 28 td28 := tRow_of _ _ _ (by kernel_rfl) (by kernel_rfl)
def td29 : TD := { k := .struct [(0, 3), (1, 28)], sz := 6, nb := 48, ty := some (.pair (.int .i64) (.pair (.int .i64) (.pair (.int .i64) (.pair (.int .i64) (.pair (.int .i64) (.int .i64)))))), zero := [.d (.int .i64) 0, .d (.int .i64) 0, .d (.int .i64) 0, .d (.int .i64) 0, .d (.int .i64) 0, .d (.int .i64) 0], eq := true }
theorem td29_ok : TRow Try.prog 29 td29 := tRow_of _ _ _ (by kernel_rfl) (by kernel_rfl)
def td30 : TD := { k := .struct [(0, 3), (1, 28)], sz := 6, nb := 48, ty := some (.pair (.int .i64) (.pair (.int .i64) (.pair (.int .i64) (.pair (.int .i64) (.pair (.int .i64) (.int .i64)))))), zero := [.d (.int .i64) 0, .d (.int .i64) 0, .d (.int .i64) 0, .d (.int .i64) 0, .d (.int .i64) 0, .d (.int .i64) 0], eq := true }
theorem td30_ok : TRow Try.prog 30 td30 := tRow_of _ _ _ (by kernel_rfl) (by kernel_rfl)
def td31 : TD := { k := .func, sz := 1, nb := 8, ty := none, zero := [.nilf], eq := false }
theorem td31_ok : TRow Try.prog 31 td31 := tRow_of _ _ _ (by kernel_rfl) (by kernel_rfl)
def td33 : TD := { k := .func, sz := 1, nb := 8, ty := none, zero := [.nilf], eq := false }
theorem td33_ok : TRow Try.prog 33 td33 := tRow_of _ _ _ (by kernel_rfl) (by kernel_rfl)
def td34 : TD := { k := .func, sz := 1, nb := 8, ty := none, zero := [.nilf], eq := false }
theorem td34_ok : TRow Try.prog 34 td34 := tRow_of _ _ _ (by kernel_rfl) (by kernel_rfl)
def td35 : TD := { k := .func, sz := 1, nb := 8, ty := none, zero := [.nilf], eq := false }
theorem td35_ok : TRow Try.prog 35 td35 := tRow_of _ _ _ (by kernel_rfl) (by kernel_rfl)
def td36 : TD := { k := .func, sz := 1, nb := 8, ty := none, zero := [.nilf], eq := false }
theorem td36_ok : TRow Try.prog 36 td36 := tRow_of _ _ _ (by kernel_rfl) (by kernel_rfl)
def td37 : TD := { k := .func, sz := 1, nb := 8, ty := none, zero := [.nilf], eq := false }
theorem td37_ok : TRow Try.prog 37 td37 := tRow_of _ _ _ (by kernel_rfl) (by kernel_rfl)
def td38 : TD := { k := .sl 43, sz := 1, nb := 24, ty := some (.sl (.pair (.int .i64) (.pair (.int .i64) (.pair (.int .i64) (.pair (.int .i64) (.int .i64)))))), zero := [.nilsl], eq := false }
theorem td38_ok : TRow Try.prog 38 td38 := tRow_of _ _ _ (by kernel_rfl) (by kernel_rfl)
def td39 : TD := { k := .ptr 93, sz := 1, nb := 8, ty := none, zero := [.pnil], eq := false }
theorem td39_ok : TRow Try.prog 39 td39 := tRow_of _ _ _ (by kernel_rfl) (by kernel_rfl)
def td40 : TD := { k := .func, sz := 1, nb := 8, ty := none, zero := [.nilf], eq := false }
theorem td40_ok : TRow Try.prog 40 td40 := tRow_of _ _ _ (by kernel_rfl) (by kernel_rfl)
def td41 : TD := { k := .sl 47, sz := 1, nb := 24, ty := some (.sl (.pair (.int .i64) (.int .i64))), zero := [.nilsl], eq := false }
theorem td41_ok : TRow Try.prog 41 td41 := tRow_of _ _ _ (by kernel_rfl) (by kernel_rfl)
def td42 : TD := { k := .struct [(0, 3), (1, 3), (2, 3), (3, 3), (4, 3)], sz := 5, nb := 40, ty := some (.pair (.int .i64) (.pair (.int .i64) (.pair (.int .i64) (.pair (.int .i64) (.int .i64))))), zero := [.d (.int .i64) 0, .d (.int .i64) 0, .d (.int .i64) 0, .d (.int .i64) 0, .d (.int .i64) 0], eq := true }
theorem td42_ok : TRow Try.prog 42 td42 := tRow_of _ _ _ (by kernel_rfl) (by kernel_rfl)
def td43 : TD := { k := .struct [(0, 3), (1, 3), (2, 3), (3, 3), (4, 3)], sz := 5, nb := 40, ty := some (.pair (.int .i64) (.pair (.int .i64) (.pair (.int .i64) (.pair (.int .i64) (.int .i64))))), zero := [.d (.int .i64) 0, .d (.int .i64) 0, .d (.int .i64) 0, .d (.int .i64) 0, .d (.int .i64) 0], eq := true }
theorem td43_ok : TRow Try.prog 43 td43 := tRow_of _ _ _ (by kernel_rfl) (by kernel_rfl)
def td44 : TD := { k := .func, sz := 1, nb := 8, ty := none, zero := [.nilf], eq := false }
theorem td44_ok : TRow Try.prog 44 td44 := tRow_of _ _ _ (by kernel_rfl) (by kernel_rfl)
def td45 : TD := { k := .func, sz := 1, nb := 8, ty := none, zero := [.nilf], eq := false }
theorem td45_ok : TRow Try.prog 45 td45 := tRow_of _ _ _ (by kernel_rfl) (by kernel_rfl)
def td46 : TD := { k := .struct [(0, 3), (1, 3)], sz := 2, nb := 16, ty := some (.pair (.int .i64) (.int .i64)), zero := [.d (.int .i64) 0, .d (.int .i64) 0], eq := true }
theorem td46_ok : TRow Try.prog 46 td46 := tRow_of _ _ _ (by kernel_rfl) (by kernel_rfl)
def td47 : TD := { k := .struct [(0, 3), (1, 3)], sz := 2, nb := 16, ty := some (.pair (.int .i64) (.int .i64)), zero := [.d (.int .i64) 0, .d (.int .i64) 0], eq := true }
theorem td47_ok : TRow Try.prog 47 td47 := tRow_of _ _ _ (by kernel_rfl) (by kernel_rfl)
def td48 : TD := { k := .sl 3, sz := 1, nb := 24, ty := some (.sl (.int .i64)), zero := [.nilsl], eq := false }
theorem td48_ok : TRow Try.prog 48 td48 := tRow_of _ _ _ (by kernel_rfl) (by kernel_rfl)
def td49 : TD := { k := .func, sz := 1, nb := 8, ty := none, zero := [.nilf], eq := false }
theorem td49_ok : TRow Try.prog 49 td49 := tRow_of _ _ _ (by kernel_rfl) (by kernel_rfl)
def td50 : TD := { k := .func, sz := 1, nb := 8, ty := none, zero := [.nilf], eq := false }
theorem td50_ok : TRow Try.prog 50 td50 := tRow_of _ _ _ (by kernel_rfl) (by kernel_rfl)
def td51 : TD := { k := .sl 4, sz := 1, nb := 24, ty := some (.sl .bool), zero := [.nilsl], eq := false }
theorem td51_ok : TRow Try.prog 51 td51 := tRow_of _ _ _ (by kernel_rfl) (by kernel_rfl)
def td52 : TD := { k := .func, sz := 1, nb := 8, ty := none, zero := [.nilf], eq := false }
theorem td52_ok : TRow Try.prog 52 td52 := tRow_of _ _ _ (by kernel_rfl) (by kernel_rfl)
def td53 : TD := { k := .func, sz := 1, nb := 8, ty := none, zero := [.nilf], eq := false }
theorem td53_ok : TRow Try.prog 53 td53 := tRow_of _ _ _ (by kernel_rfl) (by kernel_rfl)
def td54 : TD := { k := .func, sz := 1, nb := 8, ty := none, zero := [.nilf], eq := false }
theorem td54_ok : TRow Try.prog 54 td54 := tRow_of _ _ _ (by kernel_rfl) (by kernel_rfl)
def td55 : TD := { k := .func, sz := 1, nb := 8, ty := none, zero := [.nilf], eq := false }
theorem td55_ok : TRow Try.prog 55 td55 := tRow_of _ _ _ (by kernel_rfl) (by kernel_rfl)
def td56 : TD := { k := .func, sz := 1, nb := 8, ty := none, zero := [.nilf], eq := false }
theorem td56_ok : TRow Try.prog 56 td56 := tRow_of _ _ _ (by kernel_rfl) (by kernel_rfl)
def td57 : TD := { k := .sl 64, sz := 1, nb := 24, ty := some (.sl (.pair (.int .i64) (.pair (.int .i64) (.pair (.int .i64) (.pair (.int .i64) (.pair (.int .i64) (.sl (.pair (.int .i64) (.pair (.int .i64) (.pair (.sl (.int .u8)) (.sl (.pair (.int .i64) (.pair (.int .i64) (.pair (.int .i64) (.pair (.pair (.int .i64) (.int .i64)) (.pair .bool (.sl (.pair (.int .i64) (.sl (.int .u8)))))))))))))))))))), zero := [.nilsl], eq := false }
theorem td57_ok : TRow Try.prog 57 td57 := tRow_of _ _ _ (by kernel_rfl) (by kernel_rfl)
def td58 : TD := { k := .func, sz := 1, nb := 8, ty := none, zero := [.nilf], eq := false }
theorem td58_ok : TRow Try.prog 58 td58 := tRow_of _ _ _ (by kernel_rfl) (by kernel_rfl)
def td59 : TD := { k := .ptr 104, sz := 1, nb := 8, ty := none, zero := [.pnil], eq := false }
theorem td59_ok : TRow Try.prog 59 td59 := tRow_of _ _ _ (by kernel_rfl) (by kernel_rfl)
def td60 : TD := { k := .func, sz := 1, nb := 8, ty := none, zero := [.nilf], eq := false }
theorem td60_ok : TRow Try.prog 60 td60 := tRow_of _ _ _ (by kernel_rfl) (by kernel_rfl)
def td61 : TD := { k := .sl 71, sz := 1, nb := 24, ty := some (.sl (.pair (.pair (.int .i64) (.pair (.int .i64) (.pair (.sl (.int .u8)) (.sl (.pair (.int .i64) (.pair (.int .i64) (.pair (.int .i64) (.pair (.pair (.int .i64) (.int .i64)) (.pair .bool (.sl (.pair (.int .i64) (.sl (.int .u8))))))))))))) (.pair (.int .i64) (.pair (.int .i64) (.pair (.int .i64) .bool))))), zero := [.nilsl], eq := false }
theorem td61_ok : TRow Try.prog 61 td61 := tRow_of _ _ _ (by kernel_rfl) (by kernel_rfl)
def td62 : TD := { k := .sl 69, sz := 1, nb := 24, ty := some (.sl (.pair (.int .i64) (.pair (.int .i64) (.pair (.sl (.int .u8)) (.sl (.pair (.int .i64) (.pair (.int .i64) (.pair (.int .i64) (.pair (.pair (.int .i64) (.int .i64)) (.pair .bool (.sl (.pair (.int .i64) (.sl (.int .u8)))))))))))))), zero := [.nilsl], eq := false }
theorem td62_ok : TRow Try.prog 62 td62 := tRow_of _ _ _ (by kernel_rfl) (by kernel_rfl)
def td63 : TD := { k := .struct [(0, 3), (1, 3), (2, 3), (3, 3), (4, 3), (5, 62)], sz := 6, nb := 64, ty := some (.pair (.int .i64) (.pair (.int .i64) (.pair (.int .i64) (.pair (.int .i64) (.pair (.int .i64) (.sl (.pair (.int .i64) (.pair (.int .i64) (.pair (.sl (.int .u8)) (.sl (.pair (.int .i64) (.pair (.int .i64) (.pair (.int .i64) (.pair (.pair (.int .i64) (.int .i64)) (.pair .bool (.sl (.pair (.int .i64) (.sl (.int .u8))))))))))))))))))), zero := [.d (.int .i64) 0, .d (.int .i64) 0, .d (.int .i64) 0, .d (.int .i64) 0, .d (.int .i64) 0, .nilsl], eq := true }
theorem td63_ok : TRow Try.prog 63 td63 := tRow_of _ _ _ (by kernel_rfl) (by kernel_rfl)
def td64 : TD := { k := .struct [(0, 3), (1, 3), (2, 3), (3, 3), (4, 3), (5, 62)], sz := 6, nb := 64, ty := some (.pair (.int .i64) (.pair (.int .i64) (.pair (.int .i64) (.pair (.int .i64) (.pair (.int .i64) (.sl (.pair (.int .i64) (.pair (.int .i64) (.pair (.sl (.int .u8)) (.sl (.pair (.int .i64) (.pair (.int .i64) (.pair (.int .i64) (.pair (.pair (.int .i64) (.int .i64)) (.pair .bool (.sl (.pair (.int .i64) (.sl (.int .u8))))))))))))))))))), zero := [.d (.int .i64) 0, .d (.int .i64) 0, .d (.int .i64) 0, .d (.int .i64) 0, .d (.int .i64) 0, .nilsl], eq := true }
theorem td64_ok : TRow Try.prog 64 td64 := tRow_of _ _ _ (by kernel_rfl) (by kernel_rfl)
def td65 : TD := { k := .func, sz := 1, nb := 8, ty := none, zero := [.nilf], eq := false }
theorem td65_ok : TRow Try.prog 65 td65 := tRow_of _ _ _ (by kernel_rfl) (by kernel_rfl)
def td66 : TD := { k := .sl 5, sz := 1, nb := 24, ty := some (.sl (.int .u8)), zero := [.nilsl], eq := false }
theorem td66_ok : TRow Try.prog 66 td66 := tRow_of _ _ _ (by kernel_rfl) (by kernel_rfl)
def td67 : TD := { k := .sl 123, sz := 1, nb := 24, ty := some (.sl (.pair (.int .i64) (.pair (.int .i64) (.pair (.int .i64) (.pair (.pair (.int .i64) (.int .i64)) (.pair .bool (.sl (.pair (.int .i64) (.sl (.int .u8)))))))))), zero := [.nilsl], eq := false }
theorem td67_ok : TRow Try.prog 67 td67 := tRow_of _ _ _ (by kernel_rfl) (by kernel_rfl)
def td68 : TD := { k := .struct [(0, 3), (1, 3), (2, 66), (3, 67)], sz := 4, nb := 64, ty := some (.pair (.int .i64) (.pair (.int .i64) (.pair (.sl (.int .u8)) (.sl (.pair (.int .i64) (.pair (.int .i64) (.pair (.int .i64) (.pair (.pair (.int .i64) (.int .i64)) (.pair .bool (.sl (.pair (.int .i64) (.sl (.int .u8))))))))))))), zero := [.d (.int .i64) 0, .d (.int .i64) 0, .nilsl, .nilsl], eq := true }
theorem td68_ok : TRow Try.prog 68 td68 := tRow_of _ _ _ (by kernel_rfl) (by kernel_rfl)
def td69 : TD := { k := .struct [(0, 3), (1, 3), (2, 66), (3, 67)], sz := 4, nb := 64, ty := some (.pair (.int .i64) (.pair (.int .i64) (.pair (.sl (.int .u8)) (.sl (.pair (.int .i64) (.pair (.int .i64) (.pair (.int .i64) (.pair (.pair (.int .i64) (.int .i64)) (.pair .bool (.sl (.pair (.int .i64) (.sl (.int .u8))))))))))))), zero := [.d (.int .i64) 0, .d (.int .i64) 0, .nilsl, .nilsl], eq := true }
theorem td69_ok : TRow Try.prog 69 td69 := tRow_of _ _ _ (by kernel_rfl) (by kernel_rfl)
def td70 : TD := { k := .struct [(0, 69), (4, 3), (5, 3), (6, 3), (7, 4)], sz := 8, nb := 96, ty := some (.pair (.pair (.int .i64) (.pair (.int .i64) (.pair (.sl (.int .u8)) (.sl (.pair (.int .i64) (.pair (.int .i64) (.pair (.int .i64) (.pair (.pair (.int .i64) (.int .i64)) (.pair .bool (.sl (.pair (.int .i64) (.sl (.int .u8))))))))))))) (.pair (.int .i64) (.pair (.int .i64) (.pair (.int .i64) .bool)))), zero := [.d (.int .i64) 0, .d (.int .i64) 0, .nilsl, .nilsl, .d (.int .i64) 0, .d (.int .i64) 0, .d (.int .i64) 0, .d .bool false], eq := true }
theorem td70_ok : TRow Try.prog 70 td70 := tRow_of _ _ _ (by kernel_rfl) (by kernel_rfl)
def td71 : TD := { k := .struct [(0, 69), (4, 3), (5, 3), (6, 3), (7, 4)], sz := 8, nb := 96, ty := some (.pair (.pair (.int .i64) (.pair (.int .i64) (.pair (.sl (.int .u8)) (.sl (.pair (.int .i64) (.pair (.int .i64) (.pair (.int .i64) (.pair (.pair (.int .i64) (.int .i64)) (.pair .bool (.sl (.pair (.int .i64) (.sl (.int .u8))))))))))))) (.pair (.int .i64) (.pair (.int .i64) (.pair (.int .i64) .bool)))), zero := [.d (.int .i64) 0, .d (.int .i64) 0, .nilsl, .nilsl, .d (.int .i64) 0, .d (.int .i64) 0, .d (.int .i64) 0, .d .bool false], eq := true }
theorem td71_ok : TRow Try.prog 71 td71 := tRow_of _ _ _ (by kernel_rfl) (by kernel_rfl)
def td73 : TD := { k := .func, sz := 1, nb := 8, ty := none, zero := [.nilf], eq := false }
theorem td73_ok : TRow Try.prog 73 td73 := tRow_of _ _ _ (by kernel_rfl) (by kernel_rfl)
def td74 : TD := { k := .func, sz := 1, nb := 8, ty := none, zero := [.nilf], eq := false }
theorem td74_ok : TRow Try.prog 74 td74 := tRow_of _ _ _ (by kernel_rfl) (by kernel_rfl)
def td75 : TD := { k := .func, sz := 1, nb := 8, ty := none, zero := [.nilf], eq := false }
theorem td75_ok : TRow Try.prog 75 td75 := tRow_of _ _ _ (by kernel_rfl) (by kernel_rfl)
def td77 : TD := { k := .func, sz := 1, nb := 8, ty := none, zero := [.nilf], eq := false }
theorem td77_ok : TRow Try.prog 77 td77 := tRow_of _ _ _ (by kernel_rfl) (by kernel_rfl)
def td78 : TD := { k := .int .i64, sz := 1, nb := 8, ty := some (.int .i64), zero := [.d (.int .i64) 0], eq := false }
theorem td78_ok : TRow Try.prog 78 td78 := tRow_of _ _ _ (by kernel_rfl) (by kernel_rfl)
def td79 : TD := { k := .func, sz := 1, nb := 8, ty := none, zero := [.nilf], eq := false }
theorem td79_ok : TRow Try.prog 79 td79 := tRow_of _ _ _ (by kernel_rfl) (by kernel_rfl)
def td80 : TD := { k := .func, sz := 1, nb := 8, ty := none, zero := [.nilf], eq := false }
theorem td80_ok : TRow Try.prog 80 td80 := tRow_of _ _ _ (by kernel_rfl) (by kernel_rfl)
def td81 : TD := { k := .func, sz := 1, nb := 8, ty := none, zero := [.nilf], eq := false }
theorem td81_ok : TRow Try.prog 81 td81 := tRow_of _ _ _ (by kernel_rfl) (by kernel_rfl)
def td82 : TD := { k := .func, sz := 1, nb := 8, ty := none, zero := [.nilf], eq := false }
theorem td82_ok : TRow Try.prog 82 td82 := tRow_of _ _ _ (by kernel_rfl) (by kernel_rfl)
def td83 : TD := { k := .sl 88, sz := 1, nb := 24, ty := some (.sl (.pair (.int .i64) (.pair (.int .i64) (.pair (.int .i64) (.pair (.int .i64) (.int .i64)))))), zero := [.nilsl], eq := false }
theorem td83_ok : TRow Try.prog 83 td83 := tRow_of _ _ _ (by kernel_rfl) (by kernel_rfl)
def td84 : TD := { k := .struct [(0, 83)], sz := 1, nb := 24, ty := some (.sl (.pair (.int .i64) (.pair (.int .i64) (.pair (.int .i64) (.pair (.int .i64) (.int .i64)))))), zero := [.nilsl], eq := true }
theorem td84_ok : TRow Try.prog 84 td84 := tRow_of _ _ _ (by kernel_rfl) (by kernel_rfl)
def td85 : TD := { k := .struct [(0, 83)], sz := 1, nb := 24, ty := some (.sl (.pair (.int .i64) (.pair (.int .i64) (.pair (.int .i64) (.pair (.int .i64) (.int .i64)))))), zero := [.nilsl], eq := true }
theorem td85_ok : TRow Try.prog 85 td85 := tRow_of _ _ _ (by kernel_rfl) (by kernel_rfl)
def td86 : TD := { k := .func, sz := 1, nb := 8, ty := none, zero := [.nilf], eq := false }
theorem td86_ok : TRow Try.prog 86 td86 := tRow_of _ _ _ (by kernel_rfl) (by kernel_rfl)
def td87 : TD := { k := .struct [(0, 28)], sz := 5, nb := 40, ty := some (.pair (.int .i64) (.pair (.int .i64) (.pair (.int .i64) (.pair (.int .i64) (.int .i64))))), zero := [.d (.int .i64) 0, .d (.int .i64) 0, .d (.int .i64) 0, .d (.int .i64) 0, .d (.int .i64) 0], eq := true }
theorem td87_ok : TRow Try.prog 87 td87 := tRow_of _ _ _ (by kernel_rfl) (by kernel_rfl)
def td88 : TD := { k := .struct [(0, 28)], sz := 5, nb := 40, ty := some (.pair (.int .i64) (.pair (.int .i64) (.pair (.int .i64) (.pair (.int .i64) (.int .i64))))), zero := [.d (.int .i64) 0, .d (.int .i64) 0, .d (.int .i64) 0, .d (.int .i64) 0, .d (.int .i64) 0], eq := true }
theorem td88_ok : TRow Try.prog 88 td88 := tRow_of _ _ _ (by kernel_rfl) (by kernel_rfl)
def td89 : TD := { k := .func, sz := 1, nb := 8, ty := none, zero := [.nilf], eq := false }
theorem td89_ok : TRow Try.prog 89 td89 := tRow_of _ _ _ (by kernel_rfl) (by kernel_rfl)
def td90 : TD := { k := .func, sz := 1, nb := 8, ty := none, zero := [.nilf], eq := false }
theorem td90_ok : TRow Try.prog 90 td90 := tRow_of _ _ _ (by kernel_rfl) (by kernel_rfl)
def td91 : TD := { k := .func, sz := 1, nb := 8, ty := none, zero := [.nilf], eq := false }
theorem td91_ok : TRow Try.prog 91 td91 := tRow_of _ _ _ (by kernel_rfl) (by kernel_rfl)
def td92 : TD := { k := .struct [(0, 41)], sz := 1, nb := 24, ty := some (.sl (.pair (.int .i64) (.int .i64))), zero := [.nilsl], eq := true }
theorem td92_ok : TRow Try.prog 92 td92 := tRow_of _ _ _ (by kernel_rfl) (by kernel_rfl)
def td93 : TD := { k := .struct [(0, 41)], sz := 1, nb := 24, ty := some (.sl (.pair (.int .i64) (.int .i64))), zero := [.nilsl], eq := true }
theorem td93_ok : TRow Try.prog 93 td93 := tRow_of _ _ _ (by kernel_rfl) (by kernel_rfl)
def td94 : TD := { k := .func, sz := 1, nb := 8, ty := none, zero := [.nilf], eq := false }
theorem td94_ok : TRow Try.prog 94 td94 := tRow_of _ _ _ (by kernel_rfl) (by kernel_rfl)
def td95 : TD := { k := .func, sz := 1, nb := 8, ty := none, zero := [.nilf], eq := false }
theorem td95_ok : TRow Try.prog 95 td95 := tRow_of _ _ _ (by kernel_rfl) (by kernel_rfl)
def td96 : TD := { k := .func, sz := 1, nb := 8, ty := none, zero := [.nilf], eq := false }
theorem td96_ok : TRow Try.prog 96 td96 := tRow_of _ _ _ (by kernel_rfl) (by kernel_rfl)
def td97 : TD := { k := .func, sz := 1, nb := 8, ty := none, zero := [.nilf], eq := false }
theorem td97_ok : TRow Try.prog 97 td97 := tRow_of _ _ _ (by kernel_rfl) (by kernel_rfl)
def td98 : TD := { k := .func, sz := 1, nb := 8, ty := none, zero := [.nilf], eq := false }
theorem td98_ok : TRow Try.prog 98 td98 := tRow_of _ _ _ (by kernel_rfl) (by kernel_rfl)
def td99 : TD := { k := .func, sz := 1, nb := 8, ty := none, zero := [.nilf], eq := false }
theorem td99_ok : TRow Try.prog 99 td99 := tRow_of _ _ _ (by kernel_rfl) (by kernel_rfl)
def td100 : TD := { k := .func, sz := 1, nb := 8, ty := none, zero := [.nilf], eq := false }
theorem td100_ok : TRow Try.prog 100 td100 := tRow_of _ _ _ (by kernel_rfl) (by kernel_rfl)
def td101 : TD := { k := .func, sz := 1, nb := 8, ty := none, zero := [.nilf], eq := false }
theorem td101_ok : TRow Try.prog 101 td101 := tRow_of _ _ _ (by kernel_rfl) (by kernel_rfl)
def td102 : TD := { k := .func, sz := 1, nb := 8, ty := none, zero := [.nilf], eq := false }
theorem td102_ok : TRow Try.prog 102 td102 := tRow_of _ _ _ (by kernel_rfl) (by kernel_rfl)
def td103 : TD := { k := .struct [(0, 61), (1, 3)], sz := 2, nb := 32, ty := some (.pair (.sl (.pair (.pair (.int .i64) (.pair (.int .i64) (.pair (.sl (.int .u8)) (.sl (.pair (.int .i64) (.pair (.int .i64) (.pair (.int .i64) (.pair (.pair (.int .i64) (.int .i64)) (.pair .bool (.sl (.pair (.int .i64) (.sl (.int .u8))))))))))))) (.pair (.int .i64) (.pair (.int .i64) (.pair (.int .i64) .bool))))) (.int .i64)), zero := [.nilsl, .d (.int .i64) 0], eq := true }
theorem td103_ok : TRow Try.prog 103 td103 := tRow_of _ _ _ (by kernel_rfl) (by kernel_rfl)
def td104 : TD := { k := .struct [(0, 61), (1, 3)], sz := 2, nb := 32, ty := some (.pair (.sl (.pair (.pair (.int .i64) (.pair (.int .i64) (.pair (.sl (.int .u8)) (.sl (.pair (.int .i64) (.pair (.int .i64) (.pair (.int .i64) (.pair (.pair (.int .i64) (.int .i64)) (.pair .bool (.sl (.pair (.int .i64) (.sl (.int .u8))))))))))))) (.pair (.int .i64) (.pair (.int .i64) (.pair (.int .i64) .bool))))) (.int .i64)), zero := [.nilsl, .d (.int .i64) 0], eq := true }
theorem td104_ok : TRow Try.prog 104 td104 := tRow_of _ _ _ (by kernel_rfl) (by kernel_rfl)
def td105 : TD := { k := .func, sz := 1, nb := 8, ty := none, zero := [.nilf], eq := false }
theorem td105_ok : TRow Try.prog 105 td105 := tRow_of _ _ _ (by kernel_rfl) (by kernel_rfl)
def td106 : TD := { k := .func, sz := 1, nb := 8, ty := none, zero := [.nilf], eq := false }
theorem td106_ok : TRow Try.prog 106 td106 := tRow_of _ _ _ (by kernel_rfl) (by kernel_rfl)
def td107 : TD := { k := .func, sz := 1, nb := 8, ty := none, zero := [.nilf], eq := false }
theorem td107_ok : TRow Try.prog 107 td107 := tRow_of _ _ _ (by kernel_rfl) (by kernel_rfl)
def td108 : TD := { k := .func, sz := 1, nb := 8, ty := none, zero := [.nilf], eq := false }
theorem td108_ok : TRow Try.prog 108 td108 := tRow_of _ _ _ (by kernel_rfl) (by kernel_rfl)
def td109 : TD := { k := .ptr 71, sz := 1, nb := 8, ty := none, zero := [.pnil], eq := false }
theorem td109_ok : TRow Try.prog 109 td109 := tRow_of _ _ _ (by kernel_rfl) (by kernel_rfl)
def td111 : TD := { k := .func, sz := 1, nb := 8, ty := none, zero := [.nilf], eq := false }
theorem td111_ok : TRow Try.prog 111 td111 := tRow_of _ _ _ (by kernel_rfl) (by kernel_rfl)
def td112 : TD := { k := .func, sz := 1, nb := 8, ty := none, zero := [.nilf], eq := false }
theorem td112_ok : TRow Try.prog 112 td112 := tRow_of _ _ _ (by kernel_rfl) (by kernel_rfl)
def td113 : TD := { k := .func, sz := 1, nb := 8, ty := none, zero := [.nilf], eq := false }
theorem td113_ok : TRow Try.prog 113 td113 := tRow_of _ _ _ (by kernel_rfl) (by kernel_rfl)
def td114 : TD := { k := .func, sz := 1, nb := 8, ty := none, zero := [.nilf], eq := false }
theorem td114_ok : TRow Try.prog 114 td114 := tRow_of _ _ _ (by kernel_rfl) (by kernel_rfl)
def td115 : TD := { k := .func, sz := 1, nb := 8, ty := none, zero := [.nilf], eq := false }
theorem td115_ok : TRow Try.prog 115 td115 := tRow_of _ _ _ (by kernel_rfl) (by kernel_rfl)
def td116 : TD := { k := .func, sz := 1, nb := 8, ty := none, zero := [.nilf], eq := false }
theorem td116_ok : TRow Try.prog 116 td116 := tRow_of _ _ _ (by kernel_rfl) (by kernel_rfl)
def td117 : TD := { k := .func, sz := 1, nb := 8, ty := none, zero := [.nilf], eq := false }
theorem td117_ok : TRow Try.prog 117 td117 := tRow_of _ _ _ (by kernel_rfl) (by kernel_rfl)
def td118 : TD := { k := .func, sz := 1, nb := 8, ty := none, zero := [.nilf], eq := false }
theorem td118_ok : TRow Try.prog 118 td118 := tRow_of _ _ _ (by kernel_rfl) (by kernel_rfl)
def td119 : TD := { k := .struct [(0, 3), (1, 3)], sz := 2, nb := 16, ty := some (.pair (.int .i64) (.int .i64)), zero := [.d (.int .i64) 0, .d (.int .i64) 0], eq := true }
theorem td119_ok : TRow Try.prog 119 td119 := tRow_of _ _ _ (by kernel_rfl) (by kernel_rfl)
def td120 : TD := { k := .struct [(0, 3), (1, 3)], sz := 2, nb := 16, ty := some (.pair (.int .i64) (.int .i64)), zero := [.d (.int .i64) 0, .d (.int .i64) 0], eq := true }
theorem td120_ok : TRow Try.prog 120 td120 := tRow_of _ _ _ (by kernel_rfl) (by kernel_rfl)
def td121 : TD := { k := .sl 130, sz := 1, nb := 24, ty := some (.sl (.pair (.int .i64) (.sl (.int .u8)))), zero := [.nilsl], eq := false }
theorem td121_ok : TRow Try.prog 121 td121 := tRow_of _ _ _ (by kernel_rfl) (by kernel_rfl)
def td122 : TD := { k := .struct [(0, 3), (1, 3), (2, 3), (3, 120), (5, 4), (6, 121)], sz := 7, nb := 72, ty := some (.pair (.int .i64) (.pair (.int .i64) (.pair (.int .i64) (.pair (.pair (.int .i64) (.int .i64)) (.pair .bool (.sl (.pair (.int .i64) (.sl (.int .u8))))))))), zero := [.d (.int .i64) 0, .d (.int .i64) 0, .d (.int .i64) 0, .d (.int .i64) 0, .d (.int .i64) 0, .d .bool false, .nilsl], eq := true }
theorem td122_ok : TRow Try.prog 122 td122 := tRow_of _ _ _ (by kernel_rfl) (by kernel_rfl)
def td123 : TD := { k := .struct [(0, 3), (1, 3), (2, 3), (3, 120), (5, 4), (6, 121)], sz := 7, nb := 72, ty := some (.pair (.int .i64) (.pair (.int .i64) (.pair (.int .i64) (.pair (.pair (.int .i64) (.int .i64)) (.pair .bool (.sl (.pair (.int .i64) (.sl (.int .u8))))))))), zero := [.d (.int .i64) 0, .d (.int .i64) 0, .d (.int .i64) 0, .d (.int .i64) 0, .d (.int .i64) 0, .d .bool false, .nilsl], eq := true }
theorem td123_ok : TRow Try.prog 123 td123 := tRow_of _ _ _ (by kernel_rfl) (by kernel_rfl)
def td124 : TD := { k := .func, sz := 1, nb := 8, ty := none, zero := [.nilf], eq := false }
theorem td124_ok : TRow Try.prog 124 td124 := tRow_of _ _ _ (by kernel_rfl) (by kernel_rfl)
def td125 : TD := { k := .func, sz := 1, nb := 8, ty := none, zero := [.nilf], eq := false }
theorem td125_ok : TRow Try.prog 125 td125 := tRow_of _ _ _ (by kernel_rfl) (by kernel_rfl)
def td126 : TD := { k := .func, sz := 1, nb := 8, ty := none, zero := [.nilf], eq := false }
theorem td126_ok : TRow Try.prog 126 td126 := tRow_of _ _ _ (by kernel_rfl) (by kernel_rfl)
def td127 : TD := { k := .func, sz := 1, nb := 8, ty := none, zero := [.nilf], eq := false }
theorem td127_ok : TRow Try.prog 127 td127 := tRow_of _ _ _ (by kernel_rfl) (by kernel_rfl)
def td128 : TD := { k := .func, sz := 1, nb := 8, ty := none, zero := [.nilf], eq := false }
theorem td128_ok : TRow Try.prog 128 td128 := tRow_of _ _ _ (by kernel_rfl) (by kernel_rfl)
def td129 : TD := { k := .struct [(0, 3), (1, 66)], sz := 2, nb := 32, ty := some (.pair (.int .i64) (.sl (.int .u8))), zero := [.d (.int .i64) 0, .nilsl], eq := true }
theorem td129_ok : TRow Try.prog 129 td129 := tRow_of _ _ _ (by kernel_rfl) (by kernel_rfl)
def td130 : TD := { k := .struct [(0, 3), (1, 66)], sz := 2, nb := 32, ty := some (.pair (.int .i64) (.sl (.int .u8))), zero := [.d (.int .i64) 0, .nilsl], eq := true }
theorem td130_ok : TRow Try.prog 130 td130 := tRow_of _ _ _ (by kernel_rfl) (by kernel_rfl)
def td131 : TD := { k := .func, sz := 1, nb := 8, ty := none, zero := [.nilf], eq := false }
theorem td131_ok : TRow Try.prog 131 td131 := tRow_of _ _ _ (by kernel_rfl) (by kernel_rfl)
def td132 : TD := { k := .func, sz := 1, nb := 8, ty := none, zero := [.nilf], eq := false }
theorem td132_ok : TRow Try.prog 132 td132 := tRow_of _ _ _ (by kernel_rfl) (by kernel_rfl)
def td133 : TD := { k := .int .u64, sz := 1, nb := 8, ty := some (.int .u64), zero := [.d (.int .u64) 0], eq := false }
theorem td133_ok : TRow Try.prog 133 td133 := tRow_of _ _ _ (by kernel_rfl) (by kernel_rfl)
def td134 : TD := { k := .func, sz := 1, nb := 8, ty := none, zero := [.nilf], eq := false }
theorem td134_ok : TRow Try.prog 134 td134 := tRow_of _ _ _ (by kernel_rfl) (by kernel_rfl)
def td135 : TD := { k := .func, sz := 1, nb := 8, ty := none, zero := [.nilf], eq := false }
theorem td135_ok : TRow Try.prog 135 td135 := tRow_of _ _ _ (by kernel_rfl) (by kernel_rfl)
def td136 : TD := { k := .func, sz := 1, nb := 8, ty := none, zero := [.nilf], eq := false }
theorem td136_ok : TRow Try.prog 136 td136 := tRow_of _ _ _ (by kernel_rfl) (by kernel_rfl)
def td137 : TD := { k := .func, sz := 1, nb := 8, ty := none, zero := [.nilf], eq := false }
theorem td137_ok : TRow Try.prog 137 td137 := tRow_of _ _ _ (by kernel_rfl) (by kernel_rfl)
def td138 : TD := { k := .func, sz := 1, nb := 8, ty := none, zero := [.nilf], eq := false }
theorem td138_ok : TRow Try.prog 138 td138 := tRow_of _ _ _ (by kernel_rfl) (by kernel_rfl)
def td139 : TD := { k := .func, sz := 1, nb := 8, ty := none, zero := [.nilf], eq := false }
theorem td139_ok : TRow Try.prog 139 td139 := tRow_of _ _ _ (by kernel_rfl) (by kernel_rfl)
def td140 : TD := { k := .func, sz := 1, nb := 8, ty := none, zero := [.nilf], eq := false }
theorem td140_ok : TRow Try.prog 140 td140 := tRow_of _ _ _ (by kernel_rfl) (by kernel_rfl)
def td141 : TD := { k := .func, sz := 1, nb := 8, ty := none, zero := [.nilf], eq := false }
theorem td141_ok : TRow Try.prog 141 td141 := tRow_of _ _ _ (by kernel_rfl) (by kernel_rfl)
def td142 : TD := { k := .struct [(0, 17), (1, 17), (2, 17), (3, 9)], sz := 4, nb := 40, ty := none, zero := [.pnil, .pnil, .pnil, .d .str ⟨#[]⟩], eq := false }
theorem td142_ok : TRow Try.prog 142 td142 := tRow_of _ _ _ (by kernel_rfl) (by kernel_rfl)
def td143 : TD := { k := .struct [(0, 17), (1, 17), (2, 17), (3, 9)], sz := 4, nb := 40, ty := none, zero := [.pnil, .pnil, .pnil, .d .str ⟨#[]⟩], eq := false }
theorem td143_ok : TRow Try.prog 143 td143 := tRow_of _ _ _ (by kernel_rfl) (by kernel_rfl)
def td144 : TD := { k := .arr 0 16, sz := 0, nb := 0, ty := none, zero := [], eq := false }
theorem td144_ok : TRow Try.prog 144 td144 := tRow_of _ _ _ (by kernel_rfl) (by kernel_rfl)
def td145 : TD := { k := .struct [(0, 144)], sz := 0, nb := 0, ty := none, zero := [], eq := false }
theorem td145_ok : TRow Try.prog 145 td145 := tRow_of _ _ _ (by kernel_rfl) (by kernel_rfl)
def td146 : TD := { k := .struct [(0, 144)], sz := 0, nb := 0, ty := none, zero := [], eq := false }
theorem td146_ok : TRow Try.prog 146 td146 := tRow_of _ _ _ (by kernel_rfl) (by kernel_rfl)
def td147 : TD := { k := .func, sz := 1, nb := 8, ty := none, zero := [.nilf], eq := false }
theorem td147_ok : TRow Try.prog 147 td147 := tRow_of _ _ _ (by kernel_rfl) (by kernel_rfl)
def td148 : TD := { k := .int .u32, sz := 1, nb := 4, ty := some (.int .u32), zero := [.d (.int .u32) 0], eq := false }
theorem td148_ok : TRow Try.prog 148 td148 := tRow_of _ _ _ (by kernel_rfl) (by kernel_rfl)
def td149 : TD := { k := .int .u8, sz := 1, nb := 1, ty := some (.int .u8), zero := [.d (.int .u8) 0], eq := false }
theorem td149_ok : TRow Try.prog 149 td149 := tRow_of _ _ _ (by kernel_rfl) (by kernel_rfl)
def td150 : TD := { k := .int .u8, sz := 1, nb := 1, ty := some (.int .u8), zero := [.d (.int .u8) 0], eq := false }
theorem td150_ok : TRow Try.prog 150 td150 := tRow_of _ _ _ (by kernel_rfl) (by kernel_rfl)
def td151 : TD := { k := .func, sz := 1, nb := 8, ty := none, zero := [.nilf], eq := false }
theorem td151_ok : TRow Try.prog 151 td151 := tRow_of _ _ _ (by kernel_rfl) (by kernel_rfl)
def td152 : TD := { k := .ptr 5, sz := 1, nb := 8, ty := none, zero := [.pnil], eq := false }
theorem td152_ok : TRow Try.prog 152 td152 := tRow_of _ _ _ (by kernel_rfl) (by kernel_rfl)
def td153 : TD := { k := .int .i32, sz := 1, nb := 4, ty := some (.int .i32), zero := [.d (.int .i32) 0], eq := false }
theorem td153_ok : TRow Try.prog 153 td153 := tRow_of _ _ _ (by kernel_rfl) (by kernel_rfl)
def td154 : TD := { k := .int .i32, sz := 1, nb := 4, ty := some (.int .i32), zero := [.d (.int .i32) 0], eq := false }
theorem td154_ok : TRow Try.prog 154 td154 := tRow_of _ _ _ (by kernel_rfl) (by kernel_rfl)
def td155 : TD := { k := .struct [(0, 12), (1, 12), (2, 148), (3, 149), (4, 5), (5, 5), (6, 150), (7, 151), (8, 152), (9, 153), (10, 154)], sz := 11, nb := 48, ty := none, zero := [.d (.int .u64) 0, .d (.int .u64) 0, .d (.int .u32) 0, .d (.int .u8) 0, .d (.int .u8) 0, .d (.int .u8) 0, .d (.int .u8) 0, .nilf, .pnil, .d (.int .i32) 0, .d (.int .i32) 0], eq := false }
theorem td155_ok : TRow Try.prog 155 td155 := tRow_of _ _ _ (by kernel_rfl) (by kernel_rfl)
def td156 : TD := { k := .struct [(0, 12), (1, 12), (2, 148), (3, 149), (4, 5), (5, 5), (6, 150), (7, 151), (8, 152), (9, 153), (10, 154)], sz := 11, nb := 48, ty := none, zero := [.d (.int .u64) 0, .d (.int .u64) 0, .d (.int .u32) 0, .d (.int .u8) 0, .d (.int .u8) 0, .d (.int .u8) 0, .d (.int .u8) 0, .nilf, .pnil, .d (.int .i32) 0, .d (.int .i32) 0], eq := false }
theorem td156_ok : TRow Try.prog 156 td156 := tRow_of _ _ _ (by kernel_rfl) (by kernel_rfl)
def tds : List TD := [tdNone, td1, td2, td3, td4, td5, td6, td7, td8, td9, td10, td11, td12, td13, td14, td15, td16, td17, td18, td19, tdNone, td21, td22, td23, td24, td25, td26, td27, td28, td29, td30, td31, tdNone, td33, td34, td35, td36, td37, td38, td39, td40, td41, td42, td43, td44, td45, td46, td47, td48, td49, td50, td51, td52, td53, td54, td55, td56, td57, td58, td59, td60, td61, td62, td63, td64, td65, td66, td67, td68, td69, td70, td71, tdNone, td73, td74, td75, tdNone, td77, td78, td79, td80, td81, td82, td83, td84, td85, td86, td87, td88, td89, td90, td91, td92, td93, td94, td95, td96, td97, td98, td99, td100, td101, td102, td103, td104, td105, td106, td107, td108, td109, tdNone, td111, td112, td113, td114, td115, td116, td117, td118, td119, td120, td121, td122, td123, td124, td125, td126, td127, td128, td129, td130, td131, td132, td133, td134, td135, td136, td137, td138, td139, td140, td141, td142, td143, td144, td145, td146, td147, td148, td149, td150, td151, td152, td153, td154, td155, td156, tdNone]
def th (t : Nat) : TD := tds.getD t tdNone
theorem th_ok : TOk Try.prog th := tOk_of ⟨.inl rfl, .inr td1_ok, .inr td2_ok, .inr td3_ok, .inr td4_ok, .inr td5_ok, .inr td6_ok, .inr td7_ok, .inr td8_ok, .inr td9_ok, .inr td10_ok, .inr td11_ok, .inr td12_ok, .inr td13_ok, .inr td14_ok, .inr td15_ok, .inr td16_ok, .inr td17_ok, .inr td18_ok, .inr td19_ok, .inl rfl, .inr td21_ok, .inr td22_ok, .inr td23_ok, .inr td24_ok, .inr td25_ok, .inr td26_ok, .inr td27_ok, .inr td28_ok, .inr td29_ok, .inr td30_ok, .inr td31_ok, .inl rfl, .inr td33_ok, .inr td34_ok, .inr td35_ok, .inr td36_ok, .inr td37_ok, .inr td38_ok, .inr td39_ok, .inr td40_ok, .inr td41_ok, .inr td42_ok, .inr td43_ok, .inr td44_ok, .inr td45_ok, .inr td46_ok, .inr td47_ok, .inr td48_ok, .inr td49_ok, .inr td50_ok, .inr td51_ok, .inr td52_ok, .inr td53_ok, .inr td54_ok, .inr td55_ok, .inr td56_ok, .inr td57_ok, .inr td58_ok, .inr td59_ok, .inr td60_ok, .inr td61_ok, .inr td62_ok, .inr td63_ok, .inr td64_ok, .inr td65_ok, .inr td66_ok, .inr td67_ok, .inr td68_ok, .inr td69_ok, .inr td70_ok, .inr td71_ok, .inl rfl, .inr td73_ok, .inr td74_ok, .inr td75_ok, .inl rfl, .inr td77_ok, .inr td78_ok, .inr td79_ok, .inr td80_ok, .inr td81_ok, .inr td82_ok, .inr td83_ok, .inr td84_ok, .inr td85_ok, .inr td86_ok, .inr td87_ok, .inr td88_ok, .inr td89_ok, .inr td90_ok, .inr td91_ok, .inr td92_ok, .inr td93_ok, .inr td94_ok, .inr td95_ok, .inr td96_ok, .inr td97_ok, .inr td98_ok, .inr td99_ok, .inr td100_ok, .inr td101_ok, .inr td102_ok, .inr td103_ok, .inr td104_ok, .inr td105_ok, .inr td106_ok, .inr td107_ok, .inr td108_ok, .inr td109_ok, .inl rfl, .inr td111_ok, .inr td112_ok, .inr td113_ok, .inr td114_ok, .inr td115_ok, .inr td116_ok, .inr td117_ok, .inr td118_ok, .inr td119_ok, .inr td120_ok, .inr td121_ok, .inr td122_ok, .inr td123_ok, .inr td124_ok, .inr td125_ok, .inr td126_ok, .inr td127_ok, .inr td128_ok, .inr td129_ok, .inr td130_ok, .inr td131_ok, .inr td132_ok, .inr td133_ok, .inr td134_ok, .inr td135_ok, .inr td136_ok, .inr td137_ok, .inr td138_ok, .inr td139_ok, .inr td140_ok, .inr td141_ok, .inr td142_ok, .inr td143_ok, .inr td144_ok, .inr td145_ok, .inr td146_ok, .inr td147_ok, .inr td148_ok, .inr td149_ok, .inr td150_ok, .inr td151_ok, .inr td152_ok, .inr td153_ok, .inr td154_ok, .inr td155_ok, .inr td156_ok, .inl rfl, trivial⟩
end Go.Proofs.Ytkfiohbhihmcnaa
