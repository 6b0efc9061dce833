/- The table of types: printed by denth.py. -/
import Derived.Test.YtpgcdengljfojaaSound22
import Derived.Test.YtpgcdengljfojaaProg
import Derived.KernelRfl
namespace Go.Proofs.Ytpgcdengljfojaa
open Go.Den
def td1 : TD := { k := .func, sz := 1, nb := 8, ty := none, zero := [.nilf], eq := false }
theorem td1_ok : TRow Try.prog 1 td1 := tRow_of _ _ _ (by kernel_rfl) (by kernel_rfl)
def td2 : TD := { k := .int .i64, sz := 1, nb := 8, ty := some (.int .i64), zero := [.d (.int .i64) 0], eq := false }
theorem td2_ok : TRow Try.prog 2 td2 := tRow_of _ _ _ (by kernel_rfl) (by kernel_rfl)
def td3 : TD := { k := .int .i64, sz := 1, nb := 8, ty := some (.int .i64), zero := [.d (.int .i64) 0], eq := false }
theorem td3_ok : TRow Try.prog 3 td3 := tRow_of _ _ _ (by kernel_rfl) (by kernel_rfl)
def td4 : TD := { k := .bool, sz := 1, nb := 1, ty := some .bool, zero := [.d .bool false], eq := false }
theorem td4_ok : TRow Try.prog 4 td4 := tRow_of _ _ _ (by kernel_rfl) (by kernel_rfl)
def td5 : TD := { k := .int .u8, sz := 1, nb := 1, ty := some (.int .u8), zero := [.d (.int .u8) 0], eq := false }
theorem td5_ok : TRow Try.prog 5 td5 := tRow_of _ _ _ (by kernel_rfl) (by kernel_rfl)
def td6 : TD := { k := .int .u8, sz := 1, nb := 1, ty := some (.int .u8), zero := [.d (.int .u8) 0], eq := false }
theorem td6_ok : TRow Try.prog 6 td6 := tRow_of _ _ _ (by kernel_rfl) (by kernel_rfl)
def td7 : TD := { k := .struct [(0, 2), (1, 3), (2, 4), (3, 6)], sz := 4, nb := 24, ty := some (.pair (.int .i64) (.pair (.int .i64) (.pair .bool (.int .u8)))), zero := [.d (.int .i64) 0, .d (.int .i64) 0, .d .bool false, .d (.int .u8) 0], eq := true }
theorem td7_ok : TRow Try.prog 7 td7 := tRow_of _ _ _ (by kernel_rfl) (by kernel_rfl)
def td8 : TD := { k := .struct [(0, 2), (1, 3), (2, 4), (3, 6)], sz := 4, nb := 24, ty := some (.pair (.int .i64) (.pair (.int .i64) (.pair .bool (.int .u8)))), zero := [.d (.int .i64) 0, .d (.int .i64) 0, .d .bool false, .d (.int .u8) 0], eq := true }
theorem td8_ok : TRow Try.prog 8 td8 := tRow_of _ _ _ (by kernel_rfl) (by kernel_rfl)
def td9 : TD := { k := .str, sz := 1, nb := 16, ty := some .str, zero := [.d .str ⟨#[]⟩], eq := false }
theorem td9_ok : TRow Try.prog 9 td9 := tRow_of _ _ _ (by kernel_rfl) (by kernel_rfl)
def td10 : TD := { k := .str, sz := 1, nb := 16, ty := some .str, zero := [.d .str ⟨#[]⟩], eq := false }
theorem td10_ok : TRow Try.prog 10 td10 := tRow_of _ _ _ (by kernel_rfl) (by kernel_rfl)
def td11 : TD := { k := .str, sz := 1, nb := 16, ty := some .str, zero := [.d .str ⟨#[]⟩], eq := false }
theorem td11_ok : TRow Try.prog 11 td11 := tRow_of _ _ _ (by kernel_rfl) (by kernel_rfl)
def td12 : TD := { k := .int .u64, sz := 1, nb := 8, ty := some (.int .u64), zero := [.d (.int .u64) 0], eq := false }
theorem td12_ok : TRow Try.prog 12 td12 := tRow_of _ _ _ (by kernel_rfl) (by kernel_rfl)
def td13 : TD := { k := .struct [(0, 9), (1, 12)], sz := 2, nb := 24, ty := some (.pair .str (.int .u64)), zero := [.d .str ⟨#[]⟩, .d (.int .u64) 0], eq := false }
theorem td13_ok : TRow Try.prog 13 td13 := tRow_of _ _ _ (by kernel_rfl) (by kernel_rfl)
def td14 : TD := { k := .struct [(0, 9), (1, 12)], sz := 2, nb := 24, ty := some (.pair .str (.int .u64)), zero := [.d .str ⟨#[]⟩, .d (.int .u64) 0], eq := false }
theorem td14_ok : TRow Try.prog 14 td14 := tRow_of _ _ _ (by kernel_rfl) (by kernel_rfl)
def td15 : TD := { k := .ptr 88, sz := 1, nb := 8, ty := none, zero := [.pnil], eq := false }
theorem td15_ok : TRow Try.prog 15 td15 := tRow_of _ _ _ (by kernel_rfl) (by kernel_rfl)
def td16 : TD := { k := .ptr 91, sz := 1, nb := 8, ty := none, zero := [.pnil], eq := false }
theorem td16_ok : TRow Try.prog 16 td16 := tRow_of _ _ _ (by kernel_rfl) (by kernel_rfl)
def td17 : TD := { k := .ptr 101, sz := 1, nb := 8, ty := none, zero := [.pnil], eq := false }
theorem td17_ok : TRow Try.prog 17 td17 := tRow_of _ _ _ (by kernel_rfl) (by kernel_rfl)
def td18 : TD := { k := .struct [(0, 17)], sz := 1, nb := 8, ty := none, zero := [.pnil], eq := false }
theorem td18_ok : TRow Try.prog 18 td18 := tRow_of _ _ _ (by kernel_rfl) (by kernel_rfl)
def td19 : TD := { k := .struct [(0, 17)], sz := 1, nb := 8, ty := none, zero := [.pnil], eq := false }
theorem td19_ok : TRow Try.prog 19 td19 := tRow_of _ _ _ (by kernel_rfl) (by kernel_rfl)
def td21 : TD := { k := .int .i32, sz := 1, nb := 4, ty := some (.int .i32), zero := [.d (.int .i32) 0], eq := false }
theorem td21_ok : TRow Try.prog 21 td21 := tRow_of _ _ _ (by kernel_rfl) (by kernel_rfl)
def td22 : TD := { k := .func, sz := 1, nb := 8, ty := none, zero := [.nilf], eq := false }
theorem td22_ok : TRow Try.prog 22 td22 := tRow_of _ _ _ (by kernel_rfl) (by kernel_rfl)
def td23 : TD := { k := .ptr 70, sz := 1, nb := 8, ty := none, zero := [.pnil], eq := false }
theorem td23_ok : TRow Try.prog 23 td23 := tRow_of _ _ _ (by kernel_rfl) (by kernel_rfl)
def td24 : TD := { k := .func, sz := 1, nb := 8, ty := none, zero := [.nilf], eq := false }
theorem td24_ok : TRow Try.prog 24 td24 := tRow_of _ _ _ (by kernel_rfl) (by kernel_rfl)
def td25 : TD := { k := .func, sz := 1, nb := 8, ty := none, zero := [.nilf], eq := false }
theorem td25_ok : TRow Try.prog 25 td25 := tRow_of _ _ _ (by kernel_rfl) (by kernel_rfl)
def td26 : TD := { k := .struct [(0, 3), (1, 3), (2, 3)], sz := 3, nb := 24, ty := some (.pair (.int .i64) (.pair (.int .i64) (.int .i64))), zero := [.d (.int .i64) 0, .d (.int .i64) 0, .d (.int .i64) 0], eq := true }
theorem td26_ok : TRow Try.prog 26 td26 := tRow_of _ _ _ (by kernel_rfl) (by kernel_rfl)
def td27 : TD := { k := .struct [(0, 3), (1, 3), (2, 3)], sz := 3, nb := 24, ty := some (.pair (.int .i64) (.pair (.int .i64) (.int .i64))), zero := [.d (.int .i64) 0, .d (.int .i64) 0, .d (.int .i64) 0], eq := true }
theorem td27_ok : TRow Try.prog 27 td27 := tRow_of _ _ _ (by kernel_rfl) (by kernel_rfl)
def td28 : TD := { k := .func, sz := 1, nb := 8, ty := none, zero := [.nilf], eq := false }
theorem td28_ok : TRow Try.prog 28 td28 := tRow_of _ _ _ (by kernel_rfl) (by kernel_rfl)
def td29 : TD := { k := .int .i64, sz := 1, nb := 8, ty := some (.int .i64), zero := [.d (.int .i64) 0], eq := false }
theorem td29_ok : TRow Try.prog 29 td29 := tRow_of _ _ _ (by kernel_rfl) (by kernel_rfl)
def td30 : TD := { k := .func, sz := 1, nb := 8, ty := none, zero := [.nilf], eq := false }
theorem td30_ok : TRow Try.prog 30 td30 := tRow_of _ _ _ (by kernel_rfl) (by kernel_rfl)
def td31 : TD := { k := .func, sz := 1, nb := 8, ty := none, zero := [.nilf], eq := false }
theorem td31_ok : TRow Try.prog 31 td31 := tRow_of _ _ _ (by kernel_rfl) (by kernel_rfl)
def td32 : TD := { k := .struct [(0, 3), (1, 3)], sz := 2, nb := 16, ty := some (.pair (.int .i64) (.int .i64)), zero := [.d (.int .i64) 0, .d (.int .i64) 0], eq := true }
theorem td32_ok : TRow Try.prog 32 td32 := tRow_of _ _ _ (by kernel_rfl) (by kernel_rfl)
def td33 : TD := { k := .struct [(0, 3), (1, 3)], sz := 2, nb := 16, ty := some (.pair (.int .i64) (.int .i64)), zero := [.d (.int .i64) 0, .d (.int .i64) 0], eq := true }
theorem td33_ok : TRow Try.prog 33 td33 := tRow_of _ _ _ (by kernel_rfl) (by kernel_rfl)
def td35 : TD := { k := .func, sz := 1, nb := 8, ty := none, zero := [.nilf], eq := false }
theorem td35_ok : TRow Try.prog 35 td35 := tRow_of _ _ _ (by kernel_rfl) (by kernel_rfl)
def td36 : TD := { k := .sl 33, sz := 1, nb := 24, ty := some (.sl (.pair (.int .i64) (.int .i64))), zero := [.nilsl], eq := false }
theorem td36_ok : TRow Try.prog 36 td36 := tRow_of _ _ _ (by kernel_rfl) (by kernel_rfl)
def td37 : TD := { k := .func, sz := 1, nb := 8, ty := none, zero := [.nilf], eq := false }
theorem td37_ok : TRow Try.prog 37 td37 := tRow_of _ _ _ (by kernel_rfl) (by kernel_rfl)
def td38 : TD := { k := .func, sz := 1, nb := 8, ty := none, zero := [.nilf], eq := false }
theorem td38_ok : TRow Try.prog 38 td38 := tRow_of _ _ _ (by kernel_rfl) (by kernel_rfl)
def td39 : TD := { k := .func, sz := 1, nb := 8, ty := none, zero := [.nilf], eq := false }
theorem td39_ok : TRow Try.prog 39 td39 := tRow_of _ _ _ (by kernel_rfl) (by kernel_rfl)
def td40 : TD := { k := .func, sz := 1, nb := 8, ty := none, zero := [.nilf], eq := false }
theorem td40_ok : TRow Try.prog 40 td40 := tRow_of _ _ _ (by kernel_rfl) (by kernel_rfl)
def td41 : TD := { k := .func, sz := 1, nb := 8, ty := none, zero := [.nilf], eq := false }
theorem td41_ok : TRow Try.prog 41 td41 := tRow_of _ _ _ (by kernel_rfl) (by kernel_rfl)
def td42 : TD := { k := .func, sz := 1, nb := 8, ty := none, zero := [.nilf], eq := false }
theorem td42_ok : TRow Try.prog 42 td42 := tRow_of _ _ _ (by kernel_rfl) (by kernel_rfl)
def td43 : TD := { k := .int .i64, sz := 1, nb := 8, ty := some (.int .i64), zero := [.d (.int .i64) 0], eq := false }
theorem td43_ok : TRow Try.prog 43 td43 := tRow_of _ _ _ (by kernel_rfl) (by kernel_rfl)
def td45 : TD := { k := .func, sz := 1, nb := 8, ty := none, zero := [.nilf], eq := false }
theorem td45_ok : TRow Try.prog 45 td45 := tRow_of _ _ _ (by kernel_rfl) (by kernel_rfl)
def td46 : TD := { k := .func, sz := 1, nb := 8, ty := none, zero := [.nilf], eq := false }
theorem td46_ok : TRow Try.prog 46 td46 := tRow_of _ _ _ (by kernel_rfl) (by kernel_rfl)
def td47 : TD := { k := .func, sz := 1, nb := 8, ty := none, zero := [.nilf], eq := false }
theorem td47_ok : TRow Try.prog 47 td47 := tRow_of _ _ _ (by kernel_rfl) (by kernel_rfl)
def td48 : TD := { k := .func, sz := 1, nb := 8, ty := none, zero := [.nilf], eq := false }
theorem td48_ok : TRow Try.prog 48 td48 := tRow_of _ _ _ (by kernel_rfl) (by kernel_rfl)
def td49 : TD := { k := .func, sz := 1, nb := 8, ty := none, zero := [.nilf], eq := false }
theorem td49_ok : TRow Try.prog 49 td49 := tRow_of _ _ _ (by kernel_rfl) (by kernel_rfl)
def td50 : TD := { k := .func, sz := 1, nb := 8, ty := none, zero := [.nilf], eq := false }
theorem td50_ok : TRow Try.prog 50 td50 := tRow_of _ _ _ (by kernel_rfl) (by kernel_rfl)
def td51 : TD := { k := .func, sz := 1, nb := 8, ty := none, zero := [.nilf], eq := false }
theorem td51_ok : TRow Try.prog 51 td51 := tRow_of _ _ _ (by kernel_rfl) (by kernel_rfl)
def td52 : TD := { k := .func, sz := 1, nb := 8, ty := none, zero := [.nilf], eq := false }
theorem td52_ok : TRow Try.prog 52 td52 := tRow_of _ _ _ (by kernel_rfl) (by kernel_rfl)
def td53 : TD := { k := .sl 60, sz := 1, nb := 24, ty := some (.sl (.pair (.int .i64) (.pair (.int .i64) (.pair (.int .i64) (.pair (.int .i64) (.pair (.int .i64) (.int .i64))))))), zero := [.nilsl], eq := false }
theorem td53_ok : TRow Try.prog 53 td53 := tRow_of _ _ _ (by kernel_rfl) (by kernel_rfl)
def td54 : TD := { k := .ptr 77, sz := 1, nb := 8, ty := none, zero := [.pnil], eq := false }
theorem td54_ok : TRow Try.prog 54 td54 := tRow_of _ _ _ (by kernel_rfl) (by kernel_rfl)
def td55 : TD := { k := .func, sz := 1, nb := 8, ty := none, zero := [.nilf], eq := false }
theorem td55_ok : TRow Try.prog 55 td55 := tRow_of _ _ _ (by kernel_rfl) (by kernel_rfl)
def td56 : TD := { k := .sl 58, sz := 1, nb := 24, ty := some (.sl (.pair (.int .i64) (.pair (.int .i64) (.pair (.int .i64) (.pair (.int .i64) (.int .i64)))))), zero := [.nilsl], eq := false }
theorem td56_ok : TRow Try.prog 56 td56 := tRow_of _ _ _ (by kernel_rfl) (by kernel_rfl)
def td57 : TD := { k := .struct [(0, 3), (1, 3), (2, 3), (3, 3), (4, 3)], sz := 5, nb := 40, ty := some (.pair (.int .i64) (.pair (.int .i64) (.pair (.int .i64) (.pair (.int .i64) (.int .i64))))), zero := [.d (.int .i64) 0, .d (.int .i64) 0, .d (.int .i64) 0, .d (.int .i64) 0, .d (.int .i64) 0], eq := true }
theorem td57_ok : TRow Try.prog 57 td57 := tRow_of _ _ _ (by kernel_rfl) (by kernel_rfl)
def td58 : TD := { k := .struct [(0, 3), (1, 3), (2, 3), (3, 3), (4, 3)], sz := 5, nb := 40, ty := some (.pair (.int .i64) (.pair (.int .i64) (.pair (.int .i64) (.pair (.int .i64) (.int .i64))))), zero := [.d (.int .i64) 0, .d (.int .i64) 0, .d (.int .i64) 0, .d (.int .i64) 0, .d (.int .i64) 0], eq := true }
theorem td58_ok : TRow Try.prog 58 td58 := tRow_of _ _ _ (by kernel_rfl) (by kernel_rfl)
def td59 : TD := { k := .struct [(0, 3), (1, 58)], sz := 6, nb := 48, ty := some (.pair (.int .i64) (.pair (.int .i64) (.pair (.int .i64) (.pair (.int .i64) (.pair (.int .i64) (.int .i64)))))), zero := [.d (.int .i64) 0, .d (.int .i64) 0, .d (.int .i64) 0, .d (.int .i64) 0, .d (.int .i64) 0, .d (.int .i64) 0], eq := true }
theorem td59_ok : TRow Try.prog 59 td59 := tRow_of _ _ _ (by kernel_rfl) (by kernel_rfl)
def td60 : TD := { k := .struct [(0, 3), (1, 58)], sz := 6, nb := 48, ty := some (.pair (.int .i64) (.pair (.int .i64) (.pair (.int .i64) (.pair (.int .i64) (.pair (.int .i64) (.int .i64)))))), zero := [.d (.int .i64) 0, .d (.int .i64) 0, .d (.int .i64) 0, .d (.int .i64) 0, .d (.int .i64) 0, .d (.int .i64) 0], eq := true }
theorem td60_ok : TRow Try.prog 60 td60 := tRow_of _ _ _ (by kernel_rfl) (by kernel_rfl)
def td61 : TD := { k := .func, sz := 1, nb := 8, ty := none, zero := [.nilf], eq := false }
theorem td61_ok : TRow Try.prog 61 td61 := tRow_of _ _ _ (by kernel_rfl) (by kernel_rfl)
def td63 : TD := { k := .func, sz := 1, nb := 8, ty := none, zero := [.nilf], eq := false }
theorem td63_ok : TRow Try.prog 63 td63 := tRow_of _ _ _ (by kernel_rfl) (by kernel_rfl)
def td64 : TD := { k := .func, sz := 1, nb := 8, ty := none, zero := [.nilf], eq := false }
theorem td64_ok : TRow Try.prog 64 td64 := tRow_of _ _ _ (by kernel_rfl) (by kernel_rfl)
def td65 : TD := { k := .func, sz := 1, nb := 8, ty := none, zero := [.nilf], eq := false }
theorem td65_ok : TRow Try.prog 65 td65 := tRow_of _ _ _ (by kernel_rfl) (by kernel_rfl)
def td66 : TD := { k := .func, sz := 1, nb := 8, ty := none, zero := [.nilf], eq := false }
theorem td66_ok : TRow Try.prog 66 td66 := tRow_of _ _ _ (by kernel_rfl) (by kernel_rfl)
def td67 : TD := { k := .func, sz := 1, nb := 8, ty := none, zero := [.nilf], eq := false }
theorem td67_ok : TRow Try.prog 67 td67 := tRow_of _ _ _ (by kernel_rfl) (by kernel_rfl)
def td68 : TD := { k := .sl 3, sz := 1, nb := 24, ty := some (.sl (.int .i64)), zero := [.nilsl], eq := false }
theorem td68_ok : TRow Try.prog 68 td68 := tRow_of _ _ _ (by kernel_rfl) (by kernel_rfl)
def td69 : TD := { k := .struct [(0, 4), (1, 27), (4, 3), (5, 4), (6, 4), (7, 68)], sz := 8, nb := 72, ty := some (.pair .bool (.pair (.pair (.int .i64) (.pair (.int .i64) (.int .i64))) (.pair (.int .i64) (.pair .bool (.pair .bool (.sl (.int .i64))))))), zero := [.d .bool false, .d (.int .i64) 0, .d (.int .i64) 0, .d (.int .i64) 0, .d (.int .i64) 0, .d .bool false, .d .bool false, .nilsl], eq := true }
theorem td69_ok : TRow Try.prog 69 td69 := tRow_of _ _ _ (by kernel_rfl) (by kernel_rfl)
def td70 : TD := { k := .struct [(0, 4), (1, 27), (4, 3), (5, 4), (6, 4), (7, 68)], sz := 8, nb := 72, ty := some (.pair .bool (.pair (.pair (.int .i64) (.pair (.int .i64) (.int .i64))) (.pair (.int .i64) (.pair .bool (.pair .bool (.sl (.int .i64))))))), zero := [.d .bool false, .d (.int .i64) 0, .d (.int .i64) 0, .d (.int .i64) 0, .d (.int .i64) 0, .d .bool false, .d .bool false, .nilsl], eq := true }
theorem td70_ok : TRow Try.prog 70 td70 := tRow_of _ _ _ (by kernel_rfl) (by kernel_rfl)
def td71 : TD := { k := .func, sz := 1, nb := 8, ty := none, zero := [.nilf], eq := false }
theorem td71_ok : TRow Try.prog 71 td71 := tRow_of _ _ _ (by kernel_rfl) (by kernel_rfl)
def td72 : TD := { k := .func, sz := 1, nb := 8, ty := none, zero := [.nilf], eq := false }
theorem td72_ok : TRow Try.prog 72 td72 := tRow_of _ _ _ (by kernel_rfl) (by kernel_rfl)
def td73 : TD := { k := .sl 5, sz := 1, nb := 24, ty := some (.sl (.int .u8)), zero := [.nilsl], eq := false }
theorem td73_ok : TRow Try.prog 73 td73 := tRow_of _ _ _ (by kernel_rfl) (by kernel_rfl)
def td74 : TD := { k := .int .u64, sz := 1, nb := 8, ty := some (.int .u64), zero := [.d (.int .u64) 0], eq := false }
theorem td74_ok : TRow Try.prog 74 td74 := tRow_of _ _ _ (by kernel_rfl) (by kernel_rfl)
def td75 : TD := { k := .sl 80, sz := 1, nb := 24, ty := some (.sl (.pair (.int .i64) (.pair (.int .i64) (.pair (.int .i64) (.pair (.int .i64) (.int .i64)))))), zero := [.nilsl], eq := false }
theorem td75_ok : TRow Try.prog 75 td75 := tRow_of _ _ _ (by kernel_rfl) (by kernel_rfl)
def td76 : TD := { k := .struct [(0, 75)], sz := 1, nb := 24, ty := some (.sl (.pair (.int .i64) (.pair (.int .i64) (.pair (.int .i64) (.pair (.int .i64) (.int .i64)))))), zero := [.nilsl], eq := true }
theorem td76_ok : TRow Try.prog 76 td76 := tRow_of _ _ _ (by kernel_rfl) (by kernel_rfl)
def td77 : TD := { k := .struct [(0, 75)], sz := 1, nb := 24, ty := some (.sl (.pair (.int .i64) (.pair (.int .i64) (.pair (.int .i64) (.pair (.int .i64) (.int .i64)))))), zero := [.nilsl], eq := true }
theorem td77_ok : TRow Try.prog 77 td77 := tRow_of _ _ _ (by kernel_rfl) (by kernel_rfl)
def td78 : TD := { k := .func, sz := 1, nb := 8, ty := none, zero := [.nilf], eq := false }
theorem td78_ok : TRow Try.prog 78 td78 := tRow_of _ _ _ (by kernel_rfl) (by kernel_rfl)
def td79 : TD := { k := .struct [(0, 58)], sz := 5, nb := 40, ty := some (.pair (.int .i64) (.pair (.int .i64) (.pair (.int .i64) (.pair (.int .i64) (.int .i64))))), zero := [.d (.int .i64) 0, .d (.int .i64) 0, .d (.int .i64) 0, .d (.int .i64) 0, .d (.int .i64) 0], eq := true }
theorem td79_ok : TRow Try.prog 79 td79 := tRow_of _ _ _ (by kernel_rfl) (by kernel_rfl)
def td80 : TD := { k := .struct [(0, 58)], sz := 5, nb := 40, ty := some (.pair (.int .i64) (.pair (.int .i64) (.pair (.int .i64) (.pair (.int .i64) (.int .i64))))), zero := [.d (.int .i64) 0, .d (.int .i64) 0, .d (.int .i64) 0, .d (.int .i64) 0, .d (.int .i64) 0], eq := true }
theorem td80_ok : TRow Try.prog 80 td80 := tRow_of _ _ _ (by kernel_rfl) (by kernel_rfl)
def td81 : TD := { k := .func, sz := 1, nb := 8, ty := none, zero := [.nilf], eq := false }
theorem td81_ok : TRow Try.prog 81 td81 := tRow_of _ _ _ (by kernel_rfl) (by kernel_rfl)
def td82 : TD := { k := .func, sz := 1, nb := 8, ty := none, zero := [.nilf], eq := false }
theorem td82_ok : TRow Try.prog 82 td82 := tRow_of _ _ _ (by kernel_rfl) (by kernel_rfl)
def td83 : TD := { k := .func, sz := 1, nb := 8, ty := none, zero := [.nilf], eq := false }
theorem td83_ok : TRow Try.prog 83 td83 := tRow_of _ _ _ (by kernel_rfl) (by kernel_rfl)
def td84 : TD := { k := .func, sz := 1, nb := 8, ty := none, zero := [.nilf], eq := false }
theorem td84_ok : TRow Try.prog 84 td84 := tRow_of _ _ _ (by kernel_rfl) (by kernel_rfl)
def td85 : TD := { k := .func, sz := 1, nb := 8, ty := none, zero := [.nilf], eq := false }
theorem td85_ok : TRow Try.prog 85 td85 := tRow_of _ _ _ (by kernel_rfl) (by kernel_rfl)
def td86 : TD := { k := .func, sz := 1, nb := 8, ty := none, zero := [.nilf], eq := false }
theorem td86_ok : TRow Try.prog 86 td86 := tRow_of _ _ _ (by kernel_rfl) (by kernel_rfl)
def td87 : TD := { k := .struct [(0, 17), (1, 17), (2, 17), (3, 9)], sz := 4, nb := 40, ty := none, zero := [.pnil, .pnil, .pnil, .d .str ⟨#[]⟩], eq := false }
theorem td87_ok : TRow Try.prog 87 td87 := tRow_of _ _ _ (by kernel_rfl) (by kernel_rfl)
def td88 : TD := { k := .struct [(0, 17), (1, 17), (2, 17), (3, 9)], sz := 4, nb := 40, ty := none, zero := [.pnil, .pnil, .pnil, .d .str ⟨#[]⟩], eq := false }
theorem td88_ok : TRow Try.prog 88 td88 := tRow_of _ _ _ (by kernel_rfl) (by kernel_rfl)
def td89 : TD := { k := .arr 0 16, sz := 0, nb := 0, ty := none, zero := [], eq := false }
theorem td89_ok : TRow Try.prog 89 td89 := tRow_of _ _ _ (by kernel_rfl) (by kernel_rfl)
def td90 : TD := { k := .struct [(0, 89)], sz := 0, nb := 0, ty := none, zero := [], eq := false }
theorem td90_ok : TRow Try.prog 90 td90 := tRow_of _ _ _ (by kernel_rfl) (by kernel_rfl)
def td91 : TD := { k := .struct [(0, 89)], sz := 0, nb := 0, ty := none, zero := [], eq := false }
theorem td91_ok : TRow Try.prog 91 td91 := tRow_of _ _ _ (by kernel_rfl) (by kernel_rfl)
def td92 : TD := { k := .func, sz := 1, nb := 8, ty := none, zero := [.nilf], eq := false }
theorem td92_ok : TRow Try.prog 92 td92 := tRow_of _ _ _ (by kernel_rfl) (by kernel_rfl)
def td93 : TD := { k := .int .u32, sz := 1, nb := 4, ty := some (.int .u32), zero := [.d (.int .u32) 0], eq := false }
theorem td93_ok : TRow Try.prog 93 td93 := tRow_of _ _ _ (by kernel_rfl) (by kernel_rfl)
def td94 : TD := { k := .int .u8, sz := 1, nb := 1, ty := some (.int .u8), zero := [.d (.int .u8) 0], eq := false }
theorem td94_ok : TRow Try.prog 94 td94 := tRow_of _ _ _ (by kernel_rfl) (by kernel_rfl)
def td95 : TD := { k := .int .u8, sz := 1, nb := 1, ty := some (.int .u8), zero := [.d (.int .u8) 0], eq := false }
theorem td95_ok : TRow Try.prog 95 td95 := tRow_of _ _ _ (by kernel_rfl) (by kernel_rfl)
def td96 : TD := { k := .func, sz := 1, nb := 8, ty := none, zero := [.nilf], eq := false }
theorem td96_ok : TRow Try.prog 96 td96 := tRow_of _ _ _ (by kernel_rfl) (by kernel_rfl)
def td97 : TD := { k := .ptr 5, sz := 1, nb := 8, ty := none, zero := [.pnil], eq := false }
theorem td97_ok : TRow Try.prog 97 td97 := tRow_of _ _ _ (by kernel_rfl) (by kernel_rfl)
def td98 : TD := { k := .int .i32, sz := 1, nb := 4, ty := some (.int .i32), zero := [.d (.int .i32) 0], eq := false }
theorem td98_ok : TRow Try.prog 98 td98 := tRow_of _ _ _ (by kernel_rfl) (by kernel_rfl)
def td99 : TD := { k := .int .i32, sz := 1, nb := 4, ty := some (.int .i32), zero := [.d (.int .i32) 0], eq := false }
theorem td99_ok : TRow Try.prog 99 td99 := tRow_of _ _ _ (by kernel_rfl) (by kernel_rfl)
def td100 : TD := { k := .struct [(0, 12), (1, 12), (2, 93), (3, 94), (4, 5), (5, 5), (6, 95), (7, 96), (8, 97), (9, 98), (10, 99)], sz := 11, nb := 48, ty := none, zero := [.d (.int .u64) 0, .d (.int .u64) 0, .d (.int .u32) 0, .d (.int .u8) 0, .d (.int .u8) 0, .d (.int .u8) 0, .d (.int .u8) 0, .nilf, .pnil, .d (.int .i32) 0, .d (.int .i32) 0], eq := false }
theorem td100_ok : TRow Try.prog 100 td100 := tRow_of _ _ _ (by kernel_rfl) (by kernel_rfl)
def td101 : TD := { k := .struct [(0, 12), (1, 12), (2, 93), (3, 94), (4, 5), (5, 5), (6, 95), (7, 96), (8, 97), (9, 98), (10, 99)], sz := 11, nb := 48, ty := none, zero := [.d (.int .u64) 0, .d (.int .u64) 0, .d (.int .u32) 0, .d (.int .u8) 0, .d (.int .u8) 0, .d (.int .u8) 0, .d (.int .u8) 0, .nilf, .pnil, .d (.int .i32) 0, .d (.int .i32) 0], eq := false }
theorem td101_ok : TRow Try.prog 101 td101 := tRow_of _ _ _ (by kernel_rfl) (by kernel_rfl)
def tds : List TD := [tdNone, td1, td2, td3, td4, td5, td6, td7, td8, td9, td10, td11, td12, td13, td14, td15, td16, td17, td18, td19, tdNone, td21, td22, td23, td24, td25, td26, td27, td28, td29, td30, td31, td32, td33, tdNone, td35, td36, td37, td38, td39, td40, td41, td42, td43, tdNone, td45, td46, td47, td48, td49, td50, td51, td52, td53, td54, td55, td56, td57, td58, td59, td60, td61, tdNone, td63, td64, td65, td66, td67, td68, td69, td70, td71, td72, td73, td74, td75, td76, td77, td78, td79, td80, td81, td82, td83, td84, td85, td86, td87, td88, td89, td90, td91, td92, td93, td94, td95, td96, td97, td98, td99, td100, td101, tdNone]
def th (t : Nat) : TD := tds.getD t tdNone
theorem th_ok : TOk Try.prog th := tOk_of ⟨.inl rfl, .inr td1_ok, .inr td2_ok, .inr td3_ok, .inr td4_ok, .inr td5_ok, .inr td6_ok, .inr td7_ok, .inr td8_ok, .inr td9_ok, .inr td10_ok, .inr td11_ok, .inr td12_ok, .inr td13_ok, .inr td14_ok, .inr td15_ok, .inr td16_ok, .inr td17_ok, .inr td18_ok, .inr td19_ok, .inl rfl, .inr td21_ok, .inr td22_ok, .inr td23_ok, .inr td24_ok, .inr td25_ok, .inr td26_ok, .inr td27_ok, .inr td28_ok, .inr td29_ok, .inr td30_ok, .inr td31_ok, .inr td32_ok, .inr td33_ok, .inl rfl, .inr td35_ok, .inr td36_ok, .inr td37_ok, .inr td38_ok, .inr td39_ok, .inr td40_ok, .inr td41_ok, .inr td42_ok, .inr td43_ok, .inl rfl, .inr td45_ok, .inr td46_ok, .inr td47_ok, .inr td48_ok, .inr td49_ok, .inr td50_ok, .inr td51_ok, .inr td52_ok, .inr td53_ok, .inr td54_ok, .inr td55_ok, .inr td56_ok, .inr td57_ok, .inr td58_ok, .inr td59_ok, .inr td60_ok, .inr td61_ok, .inl rfl, .inr td63_ok, .inr td64_ok, .inr td65_ok, .inr td66_ok, .inr td67_ok, .inr td68_ok, .inr td69_ok, .inr td70_ok, .inr td71_ok, .inr td72_ok, .inr td73_ok, .inr td74_ok, .inr td75_ok, .inr td76_ok, .inr td77_ok, .inr td78_ok, .inr td79_ok, .inr td80_ok, .inr td81_ok, .inr td82_ok, .inr td83_ok, .inr td84_ok, .inr td85_ok, .inr td86_ok, .inr td87_ok, .inr td88_ok, .inr td89_ok, .inr td90_ok, .inr td91_ok, .inr td92_ok, .inr td93_ok, .inr td94_ok, .inr td95_ok, .inr td96_ok, .inr td97_ok, .inr td98_ok, .inr td99_ok, .inr td100_ok, .inr td101_ok, .inl rfl, trivial⟩
end Go.Proofs.Ytpgcdengljfojaa
