/- The table of types: printed by denth.py. -/
import Derived.Test.YtgaakgeemnkeeaaGreatDoorEw3
import Derived.Test.YtgaakgeemnkeeaaGreatDoorProg
import Derived.KernelRfl
namespace Go.Proofs.YtgaakgeemnkeeaaGreatDoor
open Go.Den
def td1 : TD := { k := .func, sz := 1, nb := 8, ty := none, zero := [.nilf], eq := false }
theorem td1_ok : TRow Tryz.prog 1 td1 := tRow_of _ _ _ (by kernel_rfl) (by kernel_rfl)
def td2 : TD := { k := .int .i64, sz := 1, nb := 8, ty := some (.int .i64), zero := [.d (.int .i64) 0], eq := false }
theorem td2_ok : TRow Tryz.prog 2 td2 := tRow_of _ _ _ (by kernel_rfl) (by kernel_rfl)
def td3 : TD := { k := .int .i64, sz := 1, nb := 8, ty := some (.int .i64), zero := [.d (.int .i64) 0], eq := false }
theorem td3_ok : TRow Tryz.prog 3 td3 := tRow_of _ _ _ (by kernel_rfl) (by kernel_rfl)
def td4 : TD := { k := .bool, sz := 1, nb := 1, ty := some .bool, zero := [.d .bool false], eq := false }
theorem td4_ok : TRow Tryz.prog 4 td4 := tRow_of _ _ _ (by kernel_rfl) (by kernel_rfl)
def td5 : TD := { k := .int .u8, sz := 1, nb := 1, ty := some (.int .u8), zero := [.d (.int .u8) 0], eq := false }
theorem td5_ok : TRow Tryz.prog 5 td5 := tRow_of _ _ _ (by kernel_rfl) (by kernel_rfl)
def td6 : TD := { k := .int .u8, sz := 1, nb := 1, ty := some (.int .u8), zero := [.d (.int .u8) 0], eq := false }
theorem td6_ok : TRow Tryz.prog 6 td6 := tRow_of _ _ _ (by kernel_rfl) (by kernel_rfl)
def td7 : TD := { k := .struct [(0, 2), (1, 3), (2, 4), (3, 6)], sz := 4, nb := 24, ty := some (.pair (.int .i64) (.pair (.int .i64) (.pair .bool (.int .u8)))), zero := [.d (.int .i64) 0, .d (.int .i64) 0, .d .bool false, .d (.int .u8) 0], eq := true }
theorem td7_ok : TRow Tryz.prog 7 td7 := tRow_of _ _ _ (by kernel_rfl) (by kernel_rfl)
def td8 : TD := { k := .struct [(0, 2), (1, 3), (2, 4), (3, 6)], sz := 4, nb := 24, ty := some (.pair (.int .i64) (.pair (.int .i64) (.pair .bool (.int .u8)))), zero := [.d (.int .i64) 0, .d (.int .i64) 0, .d .bool false, .d (.int .u8) 0], eq := true }
theorem td8_ok : TRow Tryz.prog 8 td8 := tRow_of _ _ _ (by kernel_rfl) (by kernel_rfl)
def td9 : TD := { k := .str, sz := 1, nb := 16, ty := some .str, zero := [.d .str ⟨#[]⟩], eq := false }
theorem td9_ok : TRow Tryz.prog 9 td9 := tRow_of _ _ _ (by kernel_rfl) (by kernel_rfl)
def td10 : TD := { k := .str, sz := 1, nb := 16, ty := some .str, zero := [.d .str ⟨#[]⟩], eq := false }
theorem td10_ok : TRow Tryz.prog 10 td10 := tRow_of _ _ _ (by kernel_rfl) (by kernel_rfl)
def td11 : TD := { k := .str, sz := 1, nb := 16, ty := some .str, zero := [.d .str ⟨#[]⟩], eq := false }
theorem td11_ok : TRow Tryz.prog 11 td11 := tRow_of _ _ _ (by kernel_rfl) (by kernel_rfl)
def td12 : TD := { k := .int .u64, sz := 1, nb := 8, ty := some (.int .u64), zero := [.d (.int .u64) 0], eq := false }
theorem td12_ok : TRow Tryz.prog 12 td12 := tRow_of _ _ _ (by kernel_rfl) (by kernel_rfl)
def td13 : TD := { k := .struct [(0, 9), (1, 12)], sz := 2, nb := 24, ty := some (.pair .str (.int .u64)), zero := [.d .str ⟨#[]⟩, .d (.int .u64) 0], eq := false }
theorem td13_ok : TRow Tryz.prog 13 td13 := tRow_of _ _ _ (by kernel_rfl) (by kernel_rfl)
def td14 : TD := { k := .struct [(0, 9), (1, 12)], sz := 2, nb := 24, ty := some (.pair .str (.int .u64)), zero := [.d .str ⟨#[]⟩, .d (.int .u64) 0], eq := false }
theorem td14_ok : TRow Tryz.prog 14 td14 := tRow_of _ _ _ (by kernel_rfl) (by kernel_rfl)
def td15 : TD := { k := .ptr 188, sz := 1, nb := 8, ty := none, zero := [.pnil], eq := false }
theorem td15_ok : TRow Tryz.prog 15 td15 := tRow_of _ _ _ (by kernel_rfl) (by kernel_rfl)
def td16 : TD := { k := .ptr 191, sz := 1, nb := 8, ty := none, zero := [.pnil], eq := false }
theorem td16_ok : TRow Tryz.prog 16 td16 := tRow_of _ _ _ (by kernel_rfl) (by kernel_rfl)
def td17 : TD := { k := .ptr 199, sz := 1, nb := 8, ty := none, zero := [.pnil], eq := false }
theorem td17_ok : TRow Tryz.prog 17 td17 := tRow_of _ _ _ (by kernel_rfl) (by kernel_rfl)
def td18 : TD := { k := .struct [(0, 17)], sz := 1, nb := 8, ty := none, zero := [.pnil], eq := false }
theorem td18_ok : TRow Tryz.prog 18 td18 := tRow_of _ _ _ (by kernel_rfl) (by kernel_rfl)
def td19 : TD := { k := .struct [(0, 17)], sz := 1, nb := 8, ty := none, zero := [.pnil], eq := false }
theorem td19_ok : TRow Tryz.prog 19 td19 := tRow_of _ _ _ (by kernel_rfl) (by kernel_rfl)
def td21 : TD := { k := .int .i32, sz := 1, nb := 4, ty := some (.int .i32), zero := [.d (.int .i32) 0], eq := false }
theorem td21_ok : TRow Tryz.prog 21 td21 := tRow_of _ _ _ (by kernel_rfl) (by kernel_rfl)
def td22 : TD := { k := .sl 29, sz := 1, nb := 24, ty := some (.sl (.pair (.pair (.int .i64) (.pair (.int .i64) (.pair (.sl (.int .u8)) (.sl (.pair (.int .i64) (.pair (.int .i64) (.pair (.int .i64) (.pair (.pair (.int .i64) (.int .i64)) (.pair .bool (.sl (.pair (.int .i64) (.sl (.int .u8))))))))))))) (.pair (.int .i64) (.pair (.int .i64) (.pair (.int .i64) .bool))))), zero := [.nilsl], eq := false }
theorem td22_ok : TRow Tryz.prog 22 td22 := tRow_of _ _ _ (by kernel_rfl) (by kernel_rfl)
def td23 : TD := { k := .func, sz := 1, nb := 8, ty := none, zero := [.nilf], eq := false }
theorem td23_ok : TRow Tryz.prog 23 td23 := tRow_of _ _ _ (by kernel_rfl) (by kernel_rfl)
def td24 : TD := { k := .sl 5, sz := 1, nb := 24, ty := some (.sl (.int .u8)), zero := [.nilsl], eq := false }
theorem td24_ok : TRow Tryz.prog 24 td24 := tRow_of _ _ _ (by kernel_rfl) (by kernel_rfl)
def td25 : TD := { k := .sl 115, sz := 1, nb := 24, ty := some (.sl (.pair (.int .i64) (.pair (.int .i64) (.pair (.int .i64) (.pair (.pair (.int .i64) (.int .i64)) (.pair .bool (.sl (.pair (.int .i64) (.sl (.int .u8)))))))))), zero := [.nilsl], eq := false }
theorem td25_ok : TRow Tryz.prog 25 td25 := tRow_of _ _ _ (by kernel_rfl) (by kernel_rfl)
def td26 : TD := { k := .struct [(0, 3), (1, 3), (2, 24), (3, 25)], sz := 4, nb := 64, ty := some (.pair (.int .i64) (.pair (.int .i64) (.pair (.sl (.int .u8)) (.sl (.pair (.int .i64) (.pair (.int .i64) (.pair (.int .i64) (.pair (.pair (.int .i64) (.int .i64)) (.pair .bool (.sl (.pair (.int .i64) (.sl (.int .u8))))))))))))), zero := [.d (.int .i64) 0, .d (.int .i64) 0, .nilsl, .nilsl], eq := true }
theorem td26_ok : TRow Tryz.prog 26 td26 := tRow_of _ _ _ (by kernel_rfl) (by kernel_rfl)
def td27 : TD := { k := .struct [(0, 3), (1, 3), (2, 24), (3, 25)], sz := 4, nb := 64, ty := some (.pair (.int .i64) (.pair (.int .i64) (.pair (.sl (.int .u8)) (.sl (.pair (.int .i64) (.pair (.int .i64) (.pair (.int .i64) (.pair (.pair (.int .i64) (.int .i64)) (.pair .bool (.sl (.pair (.int .i64) (.sl (.int .u8))))))))))))), zero := [.d (.int .i64) 0, .d (.int .i64) 0, .nilsl, .nilsl], eq := true }
theorem td27_ok : TRow Tryz.prog 27 td27 := tRow_of _ _ _ (by kernel_rfl) (by kernel_rfl)
def td28 : TD := { k := .struct [(0, 27), (4, 3), (5, 3), (6, 3), (7, 4)], sz := 8, nb := 96, ty := some (.pair (.pair (.int .i64) (.pair (.int .i64) (.pair (.sl (.int .u8)) (.sl (.pair (.int .i64) (.pair (.int .i64) (.pair (.int .i64) (.pair (.pair (.int .i64) (.int .i64)) (.pair .bool (.sl (.pair (.int .i64) (.sl (.int .u8))))))))))))) (.pair (.int .i64) (.pair (.int .i64) (.pair (.int .i64) .bool)))), zero := [.d (.int .i64) 0, .d (.int .i64) 0, .nilsl, .nilsl, .d (.int .i64) 0, .d (.int .i64) 0, .d (.int .i64) 0, .d .bool false], eq := true }
theorem td28_ok : TRow Tryz.prog 28 td28 := tRow_of _ _ _ (by kernel_rfl) (by kernel_rfl)
def td29 : TD := { k := .struct [(0, 27), (4, 3), (5, 3), (6, 3), (7, 4)], sz := 8, nb := 96, ty := some (.pair (.pair (.int .i64) (.pair (.int .i64) (.pair (.sl (.int .u8)) (.sl (.pair (.int .i64) (.pair (.int .i64) (.pair (.int .i64) (.pair (.pair (.int .i64) (.int .i64)) (.pair .bool (.sl (.pair (.int .i64) (.sl (.int .u8))))))))))))) (.pair (.int .i64) (.pair (.int .i64) (.pair (.int .i64) .bool)))), zero := [.d (.int .i64) 0, .d (.int .i64) 0, .nilsl, .nilsl, .d (.int .i64) 0, .d (.int .i64) 0, .d (.int .i64) 0, .d .bool false], eq := true }
theorem td29_ok : TRow Tryz.prog 29 td29 := tRow_of _ _ _ (by kernel_rfl) (by kernel_rfl)
def td30 : TD := { k := .struct [(0, 3), (1, 3)], sz := 2, nb := 16, ty := some (.pair (.int .i64) (.int .i64)), zero := [.d (.int .i64) 0, .d (.int .i64) 0], eq := true }
theorem td30_ok : TRow Tryz.prog 30 td30 := tRow_of _ _ _ (by kernel_rfl) (by kernel_rfl)
def td31 : TD := { k := .struct [(0, 3), (1, 3)], sz := 2, nb := 16, ty := some (.pair (.int .i64) (.int .i64)), zero := [.d (.int .i64) 0, .d (.int .i64) 0], eq := true }
theorem td31_ok : TRow Tryz.prog 31 td31 := tRow_of _ _ _ (by kernel_rfl) (by kernel_rfl)
def td32 : TD := { k := .func, sz := 1, nb := 8, ty := none, zero := [.nilf], eq := false }
theorem td32_ok : TRow Tryz.prog 32 td32 := tRow_of _ _ _ (by kernel_rfl) (by kernel_rfl)
def td33 : TD := { k := .func, sz := 1, nb := 8, ty := none, zero := [.nilf], eq := false }
theorem td33_ok : TRow Tryz.prog 33 td33 := tRow_of _ _ _ (by kernel_rfl) (by kernel_rfl)
def td34 : TD := { k := .sl 37, sz := 1, nb := 24, ty := some (.sl (.pair (.pair (.int .i64) (.int .i64)) (.pair (.int .i64) (.int .i64)))), zero := [.nilsl], eq := false }
theorem td34_ok : TRow Tryz.prog 34 td34 := tRow_of _ _ _ (by kernel_rfl) (by kernel_rfl)
def td35 : TD := { k := .func, sz := 1, nb := 8, ty := none, zero := [.nilf], eq := false }
theorem td35_ok : TRow Tryz.prog 35 td35 := tRow_of _ _ _ (by kernel_rfl) (by kernel_rfl)
def td36 : TD := { k := .struct [(0, 31), (2, 3), (3, 3)], sz := 4, nb := 32, ty := some (.pair (.pair (.int .i64) (.int .i64)) (.pair (.int .i64) (.int .i64))), zero := [.d (.int .i64) 0, .d (.int .i64) 0, .d (.int .i64) 0, .d (.int .i64) 0], eq := true }
theorem td36_ok : TRow Tryz.prog 36 td36 := tRow_of _ _ _ (by kernel_rfl) (by kernel_rfl)
def td37 : TD := { k := .struct [(0, 31), (2, 3), (3, 3)], sz := 4, nb := 32, ty := some (.pair (.pair (.int .i64) (.int .i64)) (.pair (.int .i64) (.int .i64))), zero := [.d (.int .i64) 0, .d (.int .i64) 0, .d (.int .i64) 0, .d (.int .i64) 0], eq := true }
theorem td37_ok : TRow Tryz.prog 37 td37 := tRow_of _ _ _ (by kernel_rfl) (by kernel_rfl)
def td38 : TD := { k := .func, sz := 1, nb := 8, ty := none, zero := [.nilf], eq := false }
theorem td38_ok : TRow Tryz.prog 38 td38 := tRow_of _ _ _ (by kernel_rfl) (by kernel_rfl)
def td39 : TD := { k := .func, sz := 1, nb := 8, ty := none, zero := [.nilf], eq := false }
theorem td39_ok : TRow Tryz.prog 39 td39 := tRow_of _ _ _ (by kernel_rfl) (by kernel_rfl)
def td40 : TD := { k := .struct [(0, 3), (1, 3)], sz := 2, nb := 16, ty := some (.pair (.int .i64) (.int .i64)), zero := [.d (.int .i64) 0, .d (.int .i64) 0], eq := true }
theorem td40_ok : TRow Tryz.prog 40 td40 := tRow_of _ _ _ (by kernel_rfl) (by kernel_rfl)
def td41 : TD := { k := .struct [(0, 3), (1, 3)], sz := 2, nb := 16, ty := some (.pair (.int .i64) (.int .i64)), zero := [.d (.int .i64) 0, .d (.int .i64) 0], eq := true }
theorem td41_ok : TRow Tryz.prog 41 td41 := tRow_of _ _ _ (by kernel_rfl) (by kernel_rfl)
def td42 : TD := { k := .int .i64, sz := 1, nb := 8, ty := some (.int .i64), zero := [.d (.int .i64) 0], eq := false }
theorem td42_ok : TRow Tryz.prog 42 td42 := tRow_of _ _ _ (by kernel_rfl) (by kernel_rfl)
def td44 : TD := { k := .func, sz := 1, nb := 8, ty := none, zero := [.nilf], eq := false }
theorem td44_ok : TRow Tryz.prog 44 td44 := tRow_of _ _ _ (by kernel_rfl) (by kernel_rfl)
def td45 : TD := { k := .struct [(0, 3), (1, 3), (2, 3), (3, 41), (5, 3), (6, 3), (7, 3), (8, 3), (9, 3), (10, 25)], sz := 11, nb := 104, ty := some (.pair (.int .i64) (.pair (.int .i64) (.pair (.int .i64) (.pair (.pair (.int .i64) (.int .i64)) (.pair (.int .i64) (.pair (.int .i64) (.pair (.int .i64) (.pair (.int .i64) (.pair (.int .i64) (.sl (.pair (.int .i64) (.pair (.int .i64) (.pair (.int .i64) (.pair (.pair (.int .i64) (.int .i64)) (.pair .bool (.sl (.pair (.int .i64) (.sl (.int .u8))))))))))))))))))), zero := [.d (.int .i64) 0, .d (.int .i64) 0, .d (.int .i64) 0, .d (.int .i64) 0, .d (.int .i64) 0, .d (.int .i64) 0, .d (.int .i64) 0, .d (.int .i64) 0, .d (.int .i64) 0, .d (.int .i64) 0, .nilsl], eq := true }
theorem td45_ok : TRow Tryz.prog 45 td45 := tRow_of _ _ _ (by kernel_rfl) (by kernel_rfl)
def td46 : TD := { k := .struct [(0, 3), (1, 3), (2, 3), (3, 41), (5, 3), (6, 3), (7, 3), (8, 3), (9, 3), (10, 25)], sz := 11, nb := 104, ty := some (.pair (.int .i64) (.pair (.int .i64) (.pair (.int .i64) (.pair (.pair (.int .i64) (.int .i64)) (.pair (.int .i64) (.pair (.int .i64) (.pair (.int .i64) (.pair (.int .i64) (.pair (.int .i64) (.sl (.pair (.int .i64) (.pair (.int .i64) (.pair (.int .i64) (.pair (.pair (.int .i64) (.int .i64)) (.pair .bool (.sl (.pair (.int .i64) (.sl (.int .u8))))))))))))))))))), zero := [.d (.int .i64) 0, .d (.int .i64) 0, .d (.int .i64) 0, .d (.int .i64) 0, .d (.int .i64) 0, .d (.int .i64) 0, .d (.int .i64) 0, .d (.int .i64) 0, .d (.int .i64) 0, .d (.int .i64) 0, .nilsl], eq := true }
theorem td46_ok : TRow Tryz.prog 46 td46 := tRow_of _ _ _ (by kernel_rfl) (by kernel_rfl)
def td47 : TD := { k := .struct [(0, 46), (11, 3), (12, 24)], sz := 13, nb := 136, ty := some (.pair (.pair (.int .i64) (.pair (.int .i64) (.pair (.int .i64) (.pair (.pair (.int .i64) (.int .i64)) (.pair (.int .i64) (.pair (.int .i64) (.pair (.int .i64) (.pair (.int .i64) (.pair (.int .i64) (.sl (.pair (.int .i64) (.pair (.int .i64) (.pair (.int .i64) (.pair (.pair (.int .i64) (.int .i64)) (.pair .bool (.sl (.pair (.int .i64) (.sl (.int .u8))))))))))))))))))) (.pair (.int .i64) (.sl (.int .u8)))), zero := [.d (.int .i64) 0, .d (.int .i64) 0, .d (.int .i64) 0, .d (.int .i64) 0, .d (.int .i64) 0, .d (.int .i64) 0, .d (.int .i64) 0, .d (.int .i64) 0, .d (.int .i64) 0, .d (.int .i64) 0, .nilsl, .d (.int .i64) 0, .nilsl], eq := true }
theorem td47_ok : TRow Tryz.prog 47 td47 := tRow_of _ _ _ (by kernel_rfl) (by kernel_rfl)
def td48 : TD := { k := .struct [(0, 46), (11, 3), (12, 24)], sz := 13, nb := 136, ty := some (.pair (.pair (.int .i64) (.pair (.int .i64) (.pair (.int .i64) (.pair (.pair (.int .i64) (.int .i64)) (.pair (.int .i64) (.pair (.int .i64) (.pair (.int .i64) (.pair (.int .i64) (.pair (.int .i64) (.sl (.pair (.int .i64) (.pair (.int .i64) (.pair (.int .i64) (.pair (.pair (.int .i64) (.int .i64)) (.pair .bool (.sl (.pair (.int .i64) (.sl (.int .u8))))))))))))))))))) (.pair (.int .i64) (.sl (.int .u8)))), zero := [.d (.int .i64) 0, .d (.int .i64) 0, .d (.int .i64) 0, .d (.int .i64) 0, .d (.int .i64) 0, .d (.int .i64) 0, .d (.int .i64) 0, .d (.int .i64) 0, .d (.int .i64) 0, .d (.int .i64) 0, .nilsl, .d (.int .i64) 0, .nilsl], eq := true }
theorem td48_ok : TRow Tryz.prog 48 td48 := tRow_of _ _ _ (by kernel_rfl) (by kernel_rfl)
def td50 : TD := { k := .func, sz := 1, nb := 8, ty := none, zero := [.nilf], eq := false }
theorem td50_ok : TRow Tryz.prog 50 td50 := tRow_of _ _ _ (by kernel_rfl) (by kernel_rfl)
def td52 : TD := { k := .func, sz := 1, nb := 8, ty := none, zero := [.nilf], eq := false }
theorem td52_ok : TRow Tryz.prog 52 td52 := tRow_of _ _ _ (by kernel_rfl) (by kernel_rfl)
def td53 : TD := { k := .func, sz := 1, nb := 8, ty := none, zero := [.nilf], eq := false }
theorem td53_ok : TRow Tryz.prog 53 td53 := tRow_of _ _ _ (by kernel_rfl) (by kernel_rfl)
def td54 : TD := { k := .func, sz := 1, nb := 8, ty := none, zero := [.nilf], eq := false }
theorem td54_ok : TRow Tryz.prog 54 td54 := tRow_of _ _ _ (by kernel_rfl) (by kernel_rfl)
def td55 : TD := { k := .func, sz := 1, nb := 8, ty := none, zero := [.nilf], eq := false }
theorem td55_ok : TRow Tryz.prog 55 td55 := tRow_of _ _ _ (by kernel_rfl) (by kernel_rfl)
def td57 : TD := { k := .func, sz := 1, nb := 8, ty := none, zero := [.nilf], eq := false }
theorem td57_ok : TRow Tryz.prog 57 td57 := tRow_of _ _ _ (by kernel_rfl) (by kernel_rfl)
def td59 : TD := { k := .func, sz := 1, nb := 8, ty := none, zero := [.nilf], eq := false }
theorem td59_ok : TRow Tryz.prog 59 td59 := tRow_of _ _ _ (by kernel_rfl) (by kernel_rfl)
def td60 : TD := { k := .func, sz := 1, nb := 8, ty := none, zero := [.nilf], eq := false }
theorem td60_ok : TRow Tryz.prog 60 td60 := tRow_of _ _ _ (by kernel_rfl) (by kernel_rfl)
def td61 : TD := { k := .func, sz := 1, nb := 8, ty := none, zero := [.nilf], eq := false }
theorem td61_ok : TRow Tryz.prog 61 td61 := tRow_of _ _ _ (by kernel_rfl) (by kernel_rfl)
def td62 : TD := { k := .func, sz := 1, nb := 8, ty := none, zero := [.nilf], eq := false }
theorem td62_ok : TRow Tryz.prog 62 td62 := tRow_of _ _ _ (by kernel_rfl) (by kernel_rfl)
def td63 : TD := { k := .int .u64, sz := 1, nb := 8, ty := some (.int .u64), zero := [.d (.int .u64) 0], eq := false }
theorem td63_ok : TRow Tryz.prog 63 td63 := tRow_of _ _ _ (by kernel_rfl) (by kernel_rfl)
def td64 : TD := { k := .func, sz := 1, nb := 8, ty := none, zero := [.nilf], eq := false }
theorem td64_ok : TRow Tryz.prog 64 td64 := tRow_of _ _ _ (by kernel_rfl) (by kernel_rfl)
def td65 : TD := { k := .func, sz := 1, nb := 8, ty := none, zero := [.nilf], eq := false }
theorem td65_ok : TRow Tryz.prog 65 td65 := tRow_of _ _ _ (by kernel_rfl) (by kernel_rfl)
def td66 : TD := { k := .struct [(0, 64), (1, 65)], sz := 2, nb := 16, ty := none, zero := [.nilf, .nilf], eq := true }
theorem td66_ok : TRow Tryz.prog 66 td66 := tRow_of _ _ _ (by kernel_rfl) (by kernel_rfl)
def td67 : TD := { k := .struct [(0, 64), (1, 65)], sz := 2, nb := 16, ty := none, zero := [.nilf, .nilf], eq := true }
theorem td67_ok : TRow Tryz.prog 67 td67 := tRow_of _ _ _ (by kernel_rfl) (by kernel_rfl)
def td69 : TD := { k := .func, sz := 1, nb := 8, ty := none, zero := [.nilf], eq := false }
theorem td69_ok : TRow Tryz.prog 69 td69 := tRow_of _ _ _ (by kernel_rfl) (by kernel_rfl)
def td70 : TD := { k := .int .u32, sz := 1, nb := 4, ty := some (.int .u32), zero := [.d (.int .u32) 0], eq := false }
theorem td70_ok : TRow Tryz.prog 70 td70 := tRow_of _ _ _ (by kernel_rfl) (by kernel_rfl)
def td71 : TD := { k := .func, sz := 1, nb := 8, ty := none, zero := [.nilf], eq := false }
theorem td71_ok : TRow Tryz.prog 71 td71 := tRow_of _ _ _ (by kernel_rfl) (by kernel_rfl)
def td72 : TD := { k := .ptr 95, sz := 1, nb := 8, ty := none, zero := [.pnil], eq := false }
theorem td72_ok : TRow Tryz.prog 72 td72 := tRow_of _ _ _ (by kernel_rfl) (by kernel_rfl)
def td73 : TD := { k := .func, sz := 1, nb := 8, ty := none, zero := [.nilf], eq := false }
theorem td73_ok : TRow Tryz.prog 73 td73 := tRow_of _ _ _ (by kernel_rfl) (by kernel_rfl)
def td74 : TD := { k := .func, sz := 1, nb := 8, ty := none, zero := [.nilf], eq := false }
theorem td74_ok : TRow Tryz.prog 74 td74 := tRow_of _ _ _ (by kernel_rfl) (by kernel_rfl)
def td75 : TD := { k := .func, sz := 1, nb := 8, ty := none, zero := [.nilf], eq := false }
theorem td75_ok : TRow Tryz.prog 75 td75 := tRow_of _ _ _ (by kernel_rfl) (by kernel_rfl)
def td76 : TD := { k := .func, sz := 1, nb := 8, ty := none, zero := [.nilf], eq := false }
theorem td76_ok : TRow Tryz.prog 76 td76 := tRow_of _ _ _ (by kernel_rfl) (by kernel_rfl)
def td77 : TD := { k := .func, sz := 1, nb := 8, ty := none, zero := [.nilf], eq := false }
theorem td77_ok : TRow Tryz.prog 77 td77 := tRow_of _ _ _ (by kernel_rfl) (by kernel_rfl)
def td78 : TD := { k := .func, sz := 1, nb := 8, ty := none, zero := [.nilf], eq := false }
theorem td78_ok : TRow Tryz.prog 78 td78 := tRow_of _ _ _ (by kernel_rfl) (by kernel_rfl)
def td79 : TD := { k := .func, sz := 1, nb := 8, ty := none, zero := [.nilf], eq := false }
theorem td79_ok : TRow Tryz.prog 79 td79 := tRow_of _ _ _ (by kernel_rfl) (by kernel_rfl)
def td80 : TD := { k := .func, sz := 1, nb := 8, ty := none, zero := [.nilf], eq := false }
theorem td80_ok : TRow Tryz.prog 80 td80 := tRow_of _ _ _ (by kernel_rfl) (by kernel_rfl)
def td81 : TD := { k := .int .i64, sz := 1, nb := 8, ty := some (.int .i64), zero := [.d (.int .i64) 0], eq := false }
theorem td81_ok : TRow Tryz.prog 81 td81 := tRow_of _ _ _ (by kernel_rfl) (by kernel_rfl)
def td83 : TD := { k := .func, sz := 1, nb := 8, ty := none, zero := [.nilf], eq := false }
theorem td83_ok : TRow Tryz.prog 83 td83 := tRow_of _ _ _ (by kernel_rfl) (by kernel_rfl)
def td84 : TD := { k := .func, sz := 1, nb := 8, ty := none, zero := [.nilf], eq := false }
theorem td84_ok : TRow Tryz.prog 84 td84 := tRow_of _ _ _ (by kernel_rfl) (by kernel_rfl)
def td85 : TD := { k := .func, sz := 1, nb := 8, ty := none, zero := [.nilf], eq := false }
theorem td85_ok : TRow Tryz.prog 85 td85 := tRow_of _ _ _ (by kernel_rfl) (by kernel_rfl)
def td87 : TD := { k := .func, sz := 1, nb := 8, ty := none, zero := [.nilf], eq := false }
theorem td87_ok : TRow Tryz.prog 87 td87 := tRow_of _ _ _ (by kernel_rfl) (by kernel_rfl)
def td88 : TD := { k := .func, sz := 1, nb := 8, ty := none, zero := [.nilf], eq := false }
theorem td88_ok : TRow Tryz.prog 88 td88 := tRow_of _ _ _ (by kernel_rfl) (by kernel_rfl)
def td89 : TD := { k := .func, sz := 1, nb := 8, ty := none, zero := [.nilf], eq := false }
theorem td89_ok : TRow Tryz.prog 89 td89 := tRow_of _ _ _ (by kernel_rfl) (by kernel_rfl)
def td90 : TD := { k := .int .u64, sz := 1, nb := 8, ty := some (.int .u64), zero := [.d (.int .u64) 0], eq := false }
theorem td90_ok : TRow Tryz.prog 90 td90 := tRow_of _ _ _ (by kernel_rfl) (by kernel_rfl)
def td91 : TD := { k := .func, sz := 1, nb := 8, ty := none, zero := [.nilf], eq := false }
theorem td91_ok : TRow Tryz.prog 91 td91 := tRow_of _ _ _ (by kernel_rfl) (by kernel_rfl)
def td92 : TD := { k := .sl 24, sz := 1, nb := 24, ty := some (.sl (.sl (.int .u8))), zero := [.nilsl], eq := false }
theorem td92_ok : TRow Tryz.prog 92 td92 := tRow_of _ _ _ (by kernel_rfl) (by kernel_rfl)
def td93 : TD := { k := .func, sz := 1, nb := 8, ty := none, zero := [.nilf], eq := false }
theorem td93_ok : TRow Tryz.prog 93 td93 := tRow_of _ _ _ (by kernel_rfl) (by kernel_rfl)
def td94 : TD := { k := .struct [(0, 24), (1, 3), (2, 4)], sz := 3, nb := 40, ty := some (.pair (.sl (.int .u8)) (.pair (.int .i64) .bool)), zero := [.nilsl, .d (.int .i64) 0, .d .bool false], eq := true }
theorem td94_ok : TRow Tryz.prog 94 td94 := tRow_of _ _ _ (by kernel_rfl) (by kernel_rfl)
def td95 : TD := { k := .struct [(0, 24), (1, 3), (2, 4)], sz := 3, nb := 40, ty := some (.pair (.sl (.int .u8)) (.pair (.int .i64) .bool)), zero := [.nilsl, .d (.int .i64) 0, .d .bool false], eq := true }
theorem td95_ok : TRow Tryz.prog 95 td95 := tRow_of _ _ _ (by kernel_rfl) (by kernel_rfl)
def td97 : TD := { k := .func, sz := 1, nb := 8, ty := none, zero := [.nilf], eq := false }
theorem td97_ok : TRow Tryz.prog 97 td97 := tRow_of _ _ _ (by kernel_rfl) (by kernel_rfl)
def td98 : TD := { k := .ptr 100, sz := 1, nb := 8, ty := none, zero := [.pnil], eq := false }
theorem td98_ok : TRow Tryz.prog 98 td98 := tRow_of _ _ _ (by kernel_rfl) (by kernel_rfl)
def td99 : TD := { k := .struct [(0, 72), (1, 4)], sz := 2, nb := 16, ty := none, zero := [.pnil, .d .bool false], eq := true }
theorem td99_ok : TRow Tryz.prog 99 td99 := tRow_of _ _ _ (by kernel_rfl) (by kernel_rfl)
def td100 : TD := { k := .struct [(0, 72), (1, 4)], sz := 2, nb := 16, ty := none, zero := [.pnil, .d .bool false], eq := true }
theorem td100_ok : TRow Tryz.prog 100 td100 := tRow_of _ _ _ (by kernel_rfl) (by kernel_rfl)
def td101 : TD := { k := .func, sz := 1, nb := 8, ty := none, zero := [.nilf], eq := false }
theorem td101_ok : TRow Tryz.prog 101 td101 := tRow_of _ _ _ (by kernel_rfl) (by kernel_rfl)
def td102 : TD := { k := .int .u64, sz := 1, nb := 8, ty := some (.int .u64), zero := [.d (.int .u64) 0], eq := false }
theorem td102_ok : TRow Tryz.prog 102 td102 := tRow_of _ _ _ (by kernel_rfl) (by kernel_rfl)
def td103 : TD := { k := .func, sz := 1, nb := 8, ty := none, zero := [.nilf], eq := false }
theorem td103_ok : TRow Tryz.prog 103 td103 := tRow_of _ _ _ (by kernel_rfl) (by kernel_rfl)
def td104 : TD := { k := .func, sz := 1, nb := 8, ty := none, zero := [.nilf], eq := false }
theorem td104_ok : TRow Tryz.prog 104 td104 := tRow_of _ _ _ (by kernel_rfl) (by kernel_rfl)
def td105 : TD := { k := .func, sz := 1, nb := 8, ty := none, zero := [.nilf], eq := false }
theorem td105_ok : TRow Tryz.prog 105 td105 := tRow_of _ _ _ (by kernel_rfl) (by kernel_rfl)
def td106 : TD := { k := .ptr 3, sz := 1, nb := 8, ty := none, zero := [.pnil], eq := false }
theorem td106_ok : TRow Tryz.prog 106 td106 := tRow_of _ _ _ (by kernel_rfl) (by kernel_rfl)
def td107 : TD := { k := .func, sz := 1, nb := 8, ty := none, zero := [.nilf], eq := false }
theorem td107_ok : TRow Tryz.prog 107 td107 := tRow_of _ _ _ (by kernel_rfl) (by kernel_rfl)
def td108 : TD := { k := .func, sz := 1, nb := 8, ty := none, zero := [.nilf], eq := false }
theorem td108_ok : TRow Tryz.prog 108 td108 := tRow_of _ _ _ (by kernel_rfl) (by kernel_rfl)
def td109 : TD := { k := .ptr 151, sz := 1, nb := 8, ty := none, zero := [.pnil], eq := false }
theorem td109_ok : TRow Tryz.prog 109 td109 := tRow_of _ _ _ (by kernel_rfl) (by kernel_rfl)
def td110 : TD := { k := .func, sz := 1, nb := 8, ty := none, zero := [.nilf], eq := false }
theorem td110_ok : TRow Tryz.prog 110 td110 := tRow_of _ _ _ (by kernel_rfl) (by kernel_rfl)
def td111 : TD := { k := .func, sz := 1, nb := 8, ty := none, zero := [.nilf], eq := false }
theorem td111_ok : TRow Tryz.prog 111 td111 := tRow_of _ _ _ (by kernel_rfl) (by kernel_rfl)
def td112 : TD := { k := .func, sz := 1, nb := 8, ty := none, zero := [.nilf], eq := false }
theorem td112_ok : TRow Tryz.prog 112 td112 := tRow_of _ _ _ (by kernel_rfl) (by kernel_rfl)
def td113 : TD := { k := .sl 122, sz := 1, nb := 24, ty := some (.sl (.pair (.int .i64) (.sl (.int .u8)))), zero := [.nilsl], eq := false }
theorem td113_ok : TRow Tryz.prog 113 td113 := tRow_of _ _ _ (by kernel_rfl) (by kernel_rfl)
def td114 : TD := { k := .struct [(0, 3), (1, 3), (2, 3), (3, 41), (5, 4), (6, 113)], sz := 7, nb := 72, ty := some (.pair (.int .i64) (.pair (.int .i64) (.pair (.int .i64) (.pair (.pair (.int .i64) (.int .i64)) (.pair .bool (.sl (.pair (.int .i64) (.sl (.int .u8))))))))), zero := [.d (.int .i64) 0, .d (.int .i64) 0, .d (.int .i64) 0, .d (.int .i64) 0, .d (.int .i64) 0, .d .bool false, .nilsl], eq := true }
theorem td114_ok : TRow Tryz.prog 114 td114 := tRow_of _ _ _ (by kernel_rfl) (by kernel_rfl)
def td115 : TD := { k := .struct [(0, 3), (1, 3), (2, 3), (3, 41), (5, 4), (6, 113)], sz := 7, nb := 72, ty := some (.pair (.int .i64) (.pair (.int .i64) (.pair (.int .i64) (.pair (.pair (.int .i64) (.int .i64)) (.pair .bool (.sl (.pair (.int .i64) (.sl (.int .u8))))))))), zero := [.d (.int .i64) 0, .d (.int .i64) 0, .d (.int .i64) 0, .d (.int .i64) 0, .d (.int .i64) 0, .d .bool false, .nilsl], eq := true }
theorem td115_ok : TRow Tryz.prog 115 td115 := tRow_of _ _ _ (by kernel_rfl) (by kernel_rfl)
def td116 : TD := { k := .func, sz := 1, nb := 8, ty := none, zero := [.nilf], eq := false }
theorem td116_ok : TRow Tryz.prog 116 td116 := tRow_of _ _ _ (by kernel_rfl) (by kernel_rfl)
def td117 : TD := { k := .func, sz := 1, nb := 8, ty := none, zero := [.nilf], eq := false }
theorem td117_ok : TRow Tryz.prog 117 td117 := tRow_of _ _ _ (by kernel_rfl) (by kernel_rfl)
def td119 : TD := { k := .func, sz := 1, nb := 8, ty := none, zero := [.nilf], eq := false }
theorem td119_ok : TRow Tryz.prog 119 td119 := tRow_of _ _ _ (by kernel_rfl) (by kernel_rfl)
def td120 : TD := { k := .func, sz := 1, nb := 8, ty := none, zero := [.nilf], eq := false }
theorem td120_ok : TRow Tryz.prog 120 td120 := tRow_of _ _ _ (by kernel_rfl) (by kernel_rfl)
def td121 : TD := { k := .struct [(0, 3), (1, 24)], sz := 2, nb := 32, ty := some (.pair (.int .i64) (.sl (.int .u8))), zero := [.d (.int .i64) 0, .nilsl], eq := true }
theorem td121_ok : TRow Tryz.prog 121 td121 := tRow_of _ _ _ (by kernel_rfl) (by kernel_rfl)
def td122 : TD := { k := .struct [(0, 3), (1, 24)], sz := 2, nb := 32, ty := some (.pair (.int .i64) (.sl (.int .u8))), zero := [.d (.int .i64) 0, .nilsl], eq := true }
theorem td122_ok : TRow Tryz.prog 122 td122 := tRow_of _ _ _ (by kernel_rfl) (by kernel_rfl)
def td123 : TD := { k := .func, sz := 1, nb := 8, ty := none, zero := [.nilf], eq := false }
theorem td123_ok : TRow Tryz.prog 123 td123 := tRow_of _ _ _ (by kernel_rfl) (by kernel_rfl)
def td124 : TD := { k := .func, sz := 1, nb := 8, ty := none, zero := [.nilf], eq := false }
theorem td124_ok : TRow Tryz.prog 124 td124 := tRow_of _ _ _ (by kernel_rfl) (by kernel_rfl)
def td125 : TD := { k := .int .i64, sz := 1, nb := 8, ty := some (.int .i64), zero := [.d (.int .i64) 0], eq := false }
theorem td125_ok : TRow Tryz.prog 125 td125 := tRow_of _ _ _ (by kernel_rfl) (by kernel_rfl)
def td126 : TD := { k := .func, sz := 1, nb := 8, ty := none, zero := [.nilf], eq := false }
theorem td126_ok : TRow Tryz.prog 126 td126 := tRow_of _ _ _ (by kernel_rfl) (by kernel_rfl)
def td127 : TD := { k := .func, sz := 1, nb := 8, ty := none, zero := [.nilf], eq := false }
theorem td127_ok : TRow Tryz.prog 127 td127 := tRow_of _ _ _ (by kernel_rfl) (by kernel_rfl)
def td129 : TD := { k := .func, sz := 1, nb := 8, ty := none, zero := [.nilf], eq := false }
theorem td129_ok : TRow Tryz.prog 129 td129 := tRow_of _ _ _ (by kernel_rfl) (by kernel_rfl)
def td130 : TD := { k := .ptr 132, sz := 1, nb := 8, ty := none, zero := [.pnil], eq := false }
theorem td130_ok : TRow Tryz.prog 130 td130 := tRow_of _ _ _ (by kernel_rfl) (by kernel_rfl)
def td131 : TD := { k := .struct [(0, 113), (1, 4)], sz := 2, nb := 32, ty := some (.pair (.sl (.pair (.int .i64) (.sl (.int .u8)))) .bool), zero := [.nilsl, .d .bool false], eq := true }
theorem td131_ok : TRow Tryz.prog 131 td131 := tRow_of _ _ _ (by kernel_rfl) (by kernel_rfl)
def td132 : TD := { k := .struct [(0, 113), (1, 4)], sz := 2, nb := 32, ty := some (.pair (.sl (.pair (.int .i64) (.sl (.int .u8)))) .bool), zero := [.nilsl, .d .bool false], eq := true }
theorem td132_ok : TRow Tryz.prog 132 td132 := tRow_of _ _ _ (by kernel_rfl) (by kernel_rfl)
def td133 : TD := { k := .func, sz := 1, nb := 8, ty := none, zero := [.nilf], eq := false }
theorem td133_ok : TRow Tryz.prog 133 td133 := tRow_of _ _ _ (by kernel_rfl) (by kernel_rfl)
def td134 : TD := { k := .func, sz := 1, nb := 8, ty := none, zero := [.nilf], eq := false }
theorem td134_ok : TRow Tryz.prog 134 td134 := tRow_of _ _ _ (by kernel_rfl) (by kernel_rfl)
def td135 : TD := { k := .func, sz := 1, nb := 8, ty := none, zero := [.nilf], eq := false }
theorem td135_ok : TRow Tryz.prog 135 td135 := tRow_of _ _ _ (by kernel_rfl) (by kernel_rfl)
def td137 : TD := { k := .func, sz := 1, nb := 8, ty := none, zero := [.nilf], eq := false }
theorem td137_ok : TRow Tryz.prog 137 td137 := tRow_of _ _ _ (by kernel_rfl) (by kernel_rfl)
def td138 : TD := { k := .func, sz := 1, nb := 8, ty := none, zero := [.nilf], eq := false }
theorem td138_ok : TRow Tryz.prog 138 td138 := tRow_of _ _ _ (by kernel_rfl) (by kernel_rfl)
def td139 : TD := { k := .func, sz := 1, nb := 8, ty := none, zero := [.nilf], eq := false }
theorem td139_ok : TRow Tryz.prog 139 td139 := tRow_of _ _ _ (by kernel_rfl) (by kernel_rfl)
def td140 : TD := { k := .func, sz := 1, nb := 8, ty := none, zero := [.nilf], eq := false }
theorem td140_ok : TRow Tryz.prog 140 td140 := tRow_of _ _ _ (by kernel_rfl) (by kernel_rfl)
def td141 : TD := { k := .arr 16 70, sz := 16, nb := 64, ty := none, zero := [.d (.int .u32) 0, .d (.int .u32) 0, .d (.int .u32) 0, .d (.int .u32) 0, .d (.int .u32) 0, .d (.int .u32) 0, .d (.int .u32) 0, .d (.int .u32) 0, .d (.int .u32) 0, .d (.int .u32) 0, .d (.int .u32) 0, .d (.int .u32) 0, .d (.int .u32) 0, .d (.int .u32) 0, .d (.int .u32) 0, .d (.int .u32) 0], eq := false }
theorem td141_ok : TRow Tryz.prog 141 td141 := tRow_of _ _ _ (by kernel_rfl) (by kernel_rfl)
def td142 : TD := { k := .func, sz := 1, nb := 8, ty := none, zero := [.nilf], eq := false }
theorem td142_ok : TRow Tryz.prog 142 td142 := tRow_of _ _ _ (by kernel_rfl) (by kernel_rfl)
def td143 : TD := { k := .ptr 102, sz := 1, nb := 8, ty := none, zero := [.pnil], eq := false }
theorem td143_ok : TRow Tryz.prog 143 td143 := tRow_of _ _ _ (by kernel_rfl) (by kernel_rfl)
def td145 : TD := { k := .func, sz := 1, nb := 8, ty := none, zero := [.nilf], eq := false }
theorem td145_ok : TRow Tryz.prog 145 td145 := tRow_of _ _ _ (by kernel_rfl) (by kernel_rfl)
def td146 : TD := { k := .struct [(0, 9), (1, 5)], sz := 2, nb := 24, ty := some (.pair .str (.int .u8)), zero := [.d .str ⟨#[]⟩, .d (.int .u8) 0], eq := true }
theorem td146_ok : TRow Tryz.prog 146 td146 := tRow_of _ _ _ (by kernel_rfl) (by kernel_rfl)
def td147 : TD := { k := .struct [(0, 9), (1, 5)], sz := 2, nb := 24, ty := some (.pair .str (.int .u8)), zero := [.d .str ⟨#[]⟩, .d (.int .u8) 0], eq := true }
theorem td147_ok : TRow Tryz.prog 147 td147 := tRow_of _ _ _ (by kernel_rfl) (by kernel_rfl)
def td148 : TD := { k := .func, sz := 1, nb := 8, ty := none, zero := [.nilf], eq := false }
theorem td148_ok : TRow Tryz.prog 148 td148 := tRow_of _ _ _ (by kernel_rfl) (by kernel_rfl)
def td149 : TD := { k := .func, sz := 1, nb := 8, ty := none, zero := [.nilf], eq := false }
theorem td149_ok : TRow Tryz.prog 149 td149 := tRow_of _ _ _ (by kernel_rfl) (by kernel_rfl)
def td150 : TD := { k := .struct [(0, 24), (1, 4)], sz := 2, nb := 32, ty := some (.pair (.sl (.int .u8)) .bool), zero := [.nilsl, .d .bool false], eq := true }
theorem td150_ok : TRow Tryz.prog 150 td150 := tRow_of _ _ _ (by kernel_rfl) (by kernel_rfl)
def td151 : TD := { k := .struct [(0, 24), (1, 4)], sz := 2, nb := 32, ty := some (.pair (.sl (.int .u8)) .bool), zero := [.nilsl, .d .bool false], eq := true }
theorem td151_ok : TRow Tryz.prog 151 td151 := tRow_of _ _ _ (by kernel_rfl) (by kernel_rfl)
def td152 : TD := { k := .func, sz := 1, nb := 8, ty := none, zero := [.nilf], eq := false }
theorem td152_ok : TRow Tryz.prog 152 td152 := tRow_of _ _ _ (by kernel_rfl) (by kernel_rfl)
def td153 : TD := { k := .sl 41, sz := 1, nb := 24, ty := some (.sl (.pair (.int .i64) (.int .i64))), zero := [.nilsl], eq := false }
theorem td153_ok : TRow Tryz.prog 153 td153 := tRow_of _ _ _ (by kernel_rfl) (by kernel_rfl)
def td154 : TD := { k := .func, sz := 1, nb := 8, ty := none, zero := [.nilf], eq := false }
theorem td154_ok : TRow Tryz.prog 154 td154 := tRow_of _ _ _ (by kernel_rfl) (by kernel_rfl)
def td155 : TD := { k := .func, sz := 1, nb := 8, ty := none, zero := [.nilf], eq := false }
theorem td155_ok : TRow Tryz.prog 155 td155 := tRow_of _ _ _ (by kernel_rfl) (by kernel_rfl)
def td156 : TD := { k := .func, sz := 1, nb := 8, ty := none, zero := [.nilf], eq := false }
theorem td156_ok : TRow Tryz.prog 156 td156 := tRow_of _ _ _ (by kernel_rfl) (by kernel_rfl)
def td157 : TD := { k := .func, sz := 1, nb := 8, ty := none, zero := [.nilf], eq := false }
theorem td157_ok : TRow Tryz.prog 157 td157 := tRow_of _ _ _ (by kernel_rfl) (by kernel_rfl)
def td158 : TD := { k := .func, sz := 1, nb := 8, ty := none, zero := [.nilf], eq := false }
theorem td158_ok : TRow Tryz.prog 158 td158 := tRow_of _ _ _ (by kernel_rfl) (by kernel_rfl)
def td159 : TD := { k := .func, sz := 1, nb := 8, ty := none, zero := [.nilf], eq := false }
theorem td159_ok : TRow Tryz.prog 159 td159 := tRow_of _ _ _ (by kernel_rfl) (by kernel_rfl)
def td160 : TD := { k := .struct [(0, 109)], sz := 1, nb := 8, ty := none, zero := [.pnil], eq := true }
theorem td160_ok : TRow Tryz.prog 160 td160 := tRow_of _ _ _ (by kernel_rfl) (by kernel_rfl)
def td161 : TD := { k := .struct [(0, 109)], sz := 1, nb := 8, ty := none, zero := [.pnil], eq := true }
theorem td161_ok : TRow Tryz.prog 161 td161 := tRow_of _ _ _ (by kernel_rfl) (by kernel_rfl)
def td162 : TD := { k := .func, sz := 1, nb := 8, ty := none, zero := [.nilf], eq := false }
theorem td162_ok : TRow Tryz.prog 162 td162 := tRow_of _ _ _ (by kernel_rfl) (by kernel_rfl)
def td163 : TD := { k := .func, sz := 1, nb := 8, ty := none, zero := [.nilf], eq := false }
theorem td163_ok : TRow Tryz.prog 163 td163 := tRow_of _ _ _ (by kernel_rfl) (by kernel_rfl)
def td164 : TD := { k := .func, sz := 1, nb := 8, ty := none, zero := [.nilf], eq := false }
theorem td164_ok : TRow Tryz.prog 164 td164 := tRow_of _ _ _ (by kernel_rfl) (by kernel_rfl)
def td165 : TD := { k := .func, sz := 1, nb := 8, ty := none, zero := [.nilf], eq := false }
theorem td165_ok : TRow Tryz.prog 165 td165 := tRow_of _ _ _ (by kernel_rfl) (by kernel_rfl)
def td166 : TD := { k := .func, sz := 1, nb := 8, ty := none, zero := [.nilf], eq := false }
theorem td166_ok : TRow Tryz.prog 166 td166 := tRow_of _ _ _ (by kernel_rfl) (by kernel_rfl)
def td167 : TD := { k := .func, sz := 1, nb := 8, ty := none, zero := [.nilf], eq := false }
theorem td167_ok : TRow Tryz.prog 167 td167 := tRow_of _ _ _ (by kernel_rfl) (by kernel_rfl)
def td168 : TD := { k := .func, sz := 1, nb := 8, ty := none, zero := [.nilf], eq := false }
theorem td168_ok : TRow Tryz.prog 168 td168 := tRow_of _ _ _ (by kernel_rfl) (by kernel_rfl)
def td169 : TD := { k := .arr 10 147, sz := 20, nb := 240, ty := none, zero := [.d .str ⟨#[]⟩, .d (.int .u8) 0, .d .str ⟨#[]⟩, .d (.int .u8) 0, .d .str ⟨#[]⟩, .d (.int .u8) 0, .d .str ⟨#[]⟩, .d (.int .u8) 0, .d .str ⟨#[]⟩, .d (.int .u8) 0, .d .str ⟨#[]⟩, .d (.int .u8) 0, .d .str ⟨#[]⟩, .d (.int .u8) 0, .d .str ⟨#[]⟩, .d (.int .u8) 0, .d .str ⟨#[]⟩, .d (.int .u8) 0, .d .str ⟨#[]⟩, .d (.int .u8) 0], eq := false }
theorem td169_ok : TRow Tryz.prog 169 td169 := tRow_of _ _ _ (by kernel_rfl) (by kernel_rfl)
def td170 : TD := { k := .func, sz := 1, nb := 8, ty := none, zero := [.nilf], eq := false }
theorem td170_ok : TRow Tryz.prog 170 td170 := tRow_of _ _ _ (by kernel_rfl) (by kernel_rfl)
def td171 : TD := { k := .func, sz := 1, nb := 8, ty := none, zero := [.nilf], eq := false }
theorem td171_ok : TRow Tryz.prog 171 td171 := tRow_of _ _ _ (by kernel_rfl) (by kernel_rfl)
def td172 : TD := { k := .sl 3, sz := 1, nb := 24, ty := some (.sl (.int .i64)), zero := [.nilsl], eq := false }
theorem td172_ok : TRow Tryz.prog 172 td172 := tRow_of _ _ _ (by kernel_rfl) (by kernel_rfl)
def td173 : TD := { k := .func, sz := 1, nb := 8, ty := none, zero := [.nilf], eq := false }
theorem td173_ok : TRow Tryz.prog 173 td173 := tRow_of _ _ _ (by kernel_rfl) (by kernel_rfl)
def td174 : TD := { k := .func, sz := 1, nb := 8, ty := none, zero := [.nilf], eq := false }
theorem td174_ok : TRow Tryz.prog 174 td174 := tRow_of _ _ _ (by kernel_rfl) (by kernel_rfl)
def td175 : TD := { k := .func, sz := 1, nb := 8, ty := none, zero := [.nilf], eq := false }
theorem td175_ok : TRow Tryz.prog 175 td175 := tRow_of _ _ _ (by kernel_rfl) (by kernel_rfl)
def td177 : TD := { k := .func, sz := 1, nb := 8, ty := none, zero := [.nilf], eq := false }
theorem td177_ok : TRow Tryz.prog 177 td177 := tRow_of _ _ _ (by kernel_rfl) (by kernel_rfl)
def td178 : TD := { k := .func, sz := 1, nb := 8, ty := none, zero := [.nilf], eq := false }
theorem td178_ok : TRow Tryz.prog 178 td178 := tRow_of _ _ _ (by kernel_rfl) (by kernel_rfl)
def td179 : TD := { k := .func, sz := 1, nb := 8, ty := none, zero := [.nilf], eq := false }
theorem td179_ok : TRow Tryz.prog 179 td179 := tRow_of _ _ _ (by kernel_rfl) (by kernel_rfl)
def td180 : TD := { k := .func, sz := 1, nb := 8, ty := none, zero := [.nilf], eq := false }
theorem td180_ok : TRow Tryz.prog 180 td180 := tRow_of _ _ _ (by kernel_rfl) (by kernel_rfl)
def td181 : TD := { k := .func, sz := 1, nb := 8, ty := none, zero := [.nilf], eq := false }
theorem td181_ok : TRow Tryz.prog 181 td181 := tRow_of _ _ _ (by kernel_rfl) (by kernel_rfl)
def td182 : TD := { k := .func, sz := 1, nb := 8, ty := none, zero := [.nilf], eq := false }
theorem td182_ok : TRow Tryz.prog 182 td182 := tRow_of _ _ _ (by kernel_rfl) (by kernel_rfl)
def td183 : TD := { k := .func, sz := 1, nb := 8, ty := none, zero := [.nilf], eq := false }
theorem td183_ok : TRow Tryz.prog 183 td183 := tRow_of _ _ _ (by kernel_rfl) (by kernel_rfl)
def td184 : TD := { k := .func, sz := 1, nb := 8, ty := none, zero := [.nilf], eq := false }
theorem td184_ok : TRow Tryz.prog 184 td184 := tRow_of _ _ _ (by kernel_rfl) (by kernel_rfl)
def td185 : TD := { k := .func, sz := 1, nb := 8, ty := none, zero := [.nilf], eq := false }
theorem td185_ok : TRow Tryz.prog 185 td185 := tRow_of _ _ _ (by kernel_rfl) (by kernel_rfl)
def td186 : TD := { k := .func, sz := 1, nb := 8, ty := none, zero := [.nilf], eq := false }
theorem td186_ok : TRow Tryz.prog 186 td186 := tRow_of _ _ _ (by kernel_rfl) (by kernel_rfl)
def td187 : TD := { k := .struct [(0, 17), (1, 17), (2, 17), (3, 9)], sz := 4, nb := 40, ty := none, zero := [.pnil, .pnil, .pnil, .d .str ⟨#[]⟩], eq := false }
theorem td187_ok : TRow Tryz.prog 187 td187 := tRow_of _ _ _ (by kernel_rfl) (by kernel_rfl)
def td188 : TD := { k := .struct [(0, 17), (1, 17), (2, 17), (3, 9)], sz := 4, nb := 40, ty := none, zero := [.pnil, .pnil, .pnil, .d .str ⟨#[]⟩], eq := false }
theorem td188_ok : TRow Tryz.prog 188 td188 := tRow_of _ _ _ (by kernel_rfl) (by kernel_rfl)
def td189 : TD := { k := .arr 0 16, sz := 0, nb := 0, ty := none, zero := [], eq := false }
theorem td189_ok : TRow Tryz.prog 189 td189 := tRow_of _ _ _ (by kernel_rfl) (by kernel_rfl)
def td190 : TD := { k := .struct [(0, 189)], sz := 0, nb := 0, ty := none, zero := [], eq := false }
theorem td190_ok : TRow Tryz.prog 190 td190 := tRow_of _ _ _ (by kernel_rfl) (by kernel_rfl)
def td191 : TD := { k := .struct [(0, 189)], sz := 0, nb := 0, ty := none, zero := [], eq := false }
theorem td191_ok : TRow Tryz.prog 191 td191 := tRow_of _ _ _ (by kernel_rfl) (by kernel_rfl)
def td192 : TD := { k := .int .u8, sz := 1, nb := 1, ty := some (.int .u8), zero := [.d (.int .u8) 0], eq := false }
theorem td192_ok : TRow Tryz.prog 192 td192 := tRow_of _ _ _ (by kernel_rfl) (by kernel_rfl)
def td193 : TD := { k := .int .u8, sz := 1, nb := 1, ty := some (.int .u8), zero := [.d (.int .u8) 0], eq := false }
theorem td193_ok : TRow Tryz.prog 193 td193 := tRow_of _ _ _ (by kernel_rfl) (by kernel_rfl)
def td194 : TD := { k := .func, sz := 1, nb := 8, ty := none, zero := [.nilf], eq := false }
theorem td194_ok : TRow Tryz.prog 194 td194 := tRow_of _ _ _ (by kernel_rfl) (by kernel_rfl)
def td195 : TD := { k := .ptr 5, sz := 1, nb := 8, ty := none, zero := [.pnil], eq := false }
theorem td195_ok : TRow Tryz.prog 195 td195 := tRow_of _ _ _ (by kernel_rfl) (by kernel_rfl)
def td196 : TD := { k := .int .i32, sz := 1, nb := 4, ty := some (.int .i32), zero := [.d (.int .i32) 0], eq := false }
theorem td196_ok : TRow Tryz.prog 196 td196 := tRow_of _ _ _ (by kernel_rfl) (by kernel_rfl)
def td197 : TD := { k := .int .i32, sz := 1, nb := 4, ty := some (.int .i32), zero := [.d (.int .i32) 0], eq := false }
theorem td197_ok : TRow Tryz.prog 197 td197 := tRow_of _ _ _ (by kernel_rfl) (by kernel_rfl)
def td198 : TD := { k := .struct [(0, 12), (1, 12), (2, 70), (3, 192), (4, 5), (5, 5), (6, 193), (7, 194), (8, 195), (9, 196), (10, 197)], sz := 11, nb := 48, ty := none, zero := [.d (.int .u64) 0, .d (.int .u64) 0, .d (.int .u32) 0, .d (.int .u8) 0, .d (.int .u8) 0, .d (.int .u8) 0, .d (.int .u8) 0, .nilf, .pnil, .d (.int .i32) 0, .d (.int .i32) 0], eq := false }
theorem td198_ok : TRow Tryz.prog 198 td198 := tRow_of _ _ _ (by kernel_rfl) (by kernel_rfl)
def td199 : TD := { k := .struct [(0, 12), (1, 12), (2, 70), (3, 192), (4, 5), (5, 5), (6, 193), (7, 194), (8, 195), (9, 196), (10, 197)], sz := 11, nb := 48, ty := none, zero := [.d (.int .u64) 0, .d (.int .u64) 0, .d (.int .u32) 0, .d (.int .u8) 0, .d (.int .u8) 0, .d (.int .u8) 0, .d (.int .u8) 0, .nilf, .pnil, .d (.int .i32) 0, .d (.int .i32) 0], eq := false }
theorem td199_ok : TRow Tryz.prog 199 td199 := tRow_of _ _ _ (by kernel_rfl) (by kernel_rfl)
def tds : List TD := [tdNone, td1, td2, td3, td4, td5, td6, td7, td8, td9, td10, td11, td12, td13, td14, td15, td16, td17, td18, td19, tdNone, td21, td22, td23, td24, td25, td26, td27, td28, td29, td30, td31, td32, td33, td34, td35, td36, td37, td38, td39, td40, td41, td42, tdNone, td44, td45, td46, td47, td48, tdNone, td50, tdNone, td52, td53, td54, td55, tdNone, td57, tdNone, td59, td60, td61, td62, td63, td64, td65, td66, td67, tdNone, td69, td70, td71, td72, td73, td74, td75, td76, td77, td78, td79, td80, td81, tdNone, td83, td84, td85, tdNone, td87, td88, td89, td90, td91, td92, td93, td94, td95, tdNone, td97, td98, td99, td100, td101, td102, td103, td104, td105, td106, td107, td108, td109, td110, td111, td112, td113, td114, td115, td116, td117, tdNone, td119, td120, td121, td122, td123, td124, td125, td126, td127, tdNone, td129, td130, td131, td132, td133, td134, td135, tdNone, td137, td138, td139, td140, td141, td142, td143, tdNone, td145, td146, td147, td148, td149, td150, td151, td152, td153, td154, td155, td156, td157, td158, td159, td160, td161, td162, td163, td164, td165, td166, td167, td168, td169, td170, td171, td172, td173, td174, td175, tdNone, td177, td178, td179, td180, td181, td182, td183, td184, td185, td186, td187, td188, td189, td190, td191, td192, td193, td194, td195, td196, td197, td198, td199, tdNone]
def th (t : Nat) : TD := tds.getD t tdNone
theorem th_ok : TOk Tryz.prog th := tOk_of ⟨.inl rfl, .inr td1_ok, .inr td2_ok, .inr td3_ok, .inr td4_ok, .inr td5_ok, .inr td6_ok, .inr td7_ok, .inr td8_ok, .inr td9_ok, .inr td10_ok, .inr td11_ok, .inr td12_ok, .inr td13_ok, .inr td14_ok, .inr td15_ok, .inr td16_ok, .inr td17_ok, .inr td18_ok, .inr td19_ok, .inl rfl, .inr td21_ok, .inr td22_ok, .inr td23_ok, .inr td24_ok, .inr td25_ok, .inr td26_ok, .inr td27_ok, .inr td28_ok, .inr td29_ok, .inr td30_ok, .inr td31_ok, .inr td32_ok, .inr td33_ok, .inr td34_ok, .inr td35_ok, .inr td36_ok, .inr td37_ok, .inr td38_ok, .inr td39_ok, .inr td40_ok, .inr td41_ok, .inr td42_ok, .inl rfl, .inr td44_ok, .inr td45_ok, .inr td46_ok, .inr td47_ok, .inr td48_ok, .inl rfl, .inr td50_ok, .inl rfl, .inr td52_ok, .inr td53_ok, .inr td54_ok, .inr td55_ok, .inl rfl, .inr td57_ok, .inl rfl, .inr td59_ok, .inr td60_ok, .inr td61_ok, .inr td62_ok, .inr td63_ok, .inr td64_ok, .inr td65_ok, .inr td66_ok, .inr td67_ok, .inl rfl, .inr td69_ok, .inr td70_ok, .inr td71_ok, .inr td72_ok, .inr td73_ok, .inr td74_ok, .inr td75_ok, .inr td76_ok, .inr td77_ok, .inr td78_ok, .inr td79_ok, .inr td80_ok, .inr td81_ok, .inl rfl, .inr td83_ok, .inr td84_ok, .inr td85_ok, .inl rfl, .inr td87_ok, .inr td88_ok, .inr td89_ok, .inr td90_ok, .inr td91_ok, .inr td92_ok, .inr td93_ok, .inr td94_ok, .inr td95_ok, .inl rfl, .inr td97_ok, .inr td98_ok, .inr td99_ok, .inr td100_ok, .inr td101_ok, .inr td102_ok, .inr td103_ok, .inr td104_ok, .inr td105_ok, .inr td106_ok, .inr td107_ok, .inr td108_ok, .inr td109_ok, .inr td110_ok, .inr td111_ok, .inr td112_ok, .inr td113_ok, .inr td114_ok, .inr td115_ok, .inr td116_ok, .inr td117_ok, .inl rfl, .inr td119_ok, .inr td120_ok, .inr td121_ok, .inr td122_ok, .inr td123_ok, .inr td124_ok, .inr td125_ok, .inr td126_ok, .inr td127_ok, .inl rfl, .inr td129_ok, .inr td130_ok, .inr td131_ok, .inr td132_ok, .inr td133_ok, .inr td134_ok, .inr td135_ok, .inl rfl, .inr td137_ok, .inr td138_ok, .inr td139_ok, .inr td140_ok, .inr td141_ok, .inr td142_ok, .inr td143_ok, .inl rfl, .inr td145_ok, .inr td146_ok, .inr td147_ok, .inr td148_ok, .inr td149_ok, .inr td150_ok, .inr td151_ok, .inr td152_ok, .inr td153_ok, .inr td154_ok, .inr td155_ok, .inr td156_ok, .inr td157_ok, .inr td158_ok, .inr td159_ok, .inr td160_ok, .inr td161_ok, .inr td162_ok, .inr td163_ok, .inr td164_ok, .inr td165_ok, .inr td166_ok, .inr td167_ok, .inr td168_ok, .inr td169_ok, .inr td170_ok, .inr td171_ok, .inr td172_ok, .inr td173_ok, .inr td174_ok, .inr td175_ok, .inl rfl, .inr td177_ok, .inr td178_ok, .inr td179_ok, .inr td180_ok, .inr td181_ok, .inr td182_ok, .inr td183_ok, .inr td184_ok, .inr td185_ok, .inr td186_ok, .inr td187_ok, .inr td188_ok, .inr td189_ok, .inr td190_ok, .inr td191_ok, .inr td192_ok, .inr td193_ok, .inr td194_ok, .inr td195_ok, .inr td196_ok, .inr td197_ok, .inr td198_ok, .inr td199_ok, .inl rfl, trivial⟩
end Go.Proofs.YtgaakgeemnkeeaaGreatDoor
