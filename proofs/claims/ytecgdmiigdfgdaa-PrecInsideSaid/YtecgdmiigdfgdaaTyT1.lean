/- Contracts of functions that the laws reach, and plain laws. Conditions: those that each contract states. -/
import Derived.Test.YtecgdmiigdfgdaaChecked
import Derived.Test.YtecgdmiigdfgdaaAm25
set_option linter.unusedSimpArgs false
set_option linter.unusedVariables false
set_option maxHeartbeats 1000000
namespace Go.Am.Ty
open Go.Proofs
open Enc (enc dec)

def tt : List (Nat × TI) := [(2, ⟨.int .i64, 1, 8, .d (.int .i64 0), .int .i64 0, []⟩), (3, ⟨.int .i64, 1, 8, .d (.int .i64 0), .int .i64 0, []⟩), (4, ⟨.bool, 1, 1, .d (.bool false), .bool false, []⟩), (5, ⟨.int .u8, 1, 1, .d (.int .u8 0), .int .u8 0, []⟩), (9, ⟨.str, 1, 16, .d (.str []), .str [], []⟩), (21, ⟨.int .i32, 1, 4, .d (.int .i32 0), .int .i32 0, []⟩), (22, ⟨.slice 28, 1, 24, .nils 3, .list 3 [], []⟩), (23, ⟨.slice 28, 1, 24, .nils 3, .list 3 [], []⟩), (24, ⟨.func, 1, 8, .d .nilf, .nilf, []⟩), (25, ⟨.func, 1, 8, .d .nilf, .nilf, []⟩), (26, ⟨.func, 1, 8, .d .nilf, .nilf, []⟩), (27, ⟨.struct [(0, 1), (1, 1), (2, 1)], 3, 32, .d (.agg [.int .i64 0, .str [], .int .i64 0]), .agg [.int .i64 0, .str [], .int .i64 0], [.int .i64, .str, .int .i64]⟩), (28, ⟨.struct [(0, 1), (1, 1), (2, 1)], 3, 32, .d (.agg [.int .i64 0, .str [], .int .i64 0]), .agg [.int .i64 0, .str [], .int .i64 0], [.int .i64, .str, .int .i64]⟩), (29, ⟨.func, 1, 8, .d .nilf, .nilf, []⟩), (30, ⟨.int .i64, 1, 8, .d (.int .i64 0), .int .i64 0, []⟩), (32, ⟨.func, 1, 8, .d .nilf, .nilf, []⟩), (33, ⟨.func, 1, 8, .d .nilf, .nilf, []⟩), (34, ⟨.array 2 23, 2, 48, .agg [.nils 3, .nils 3], .agg [.list 3 [], .list 3 []], []⟩), (35, ⟨.func, 1, 8, .d .nilf, .nilf, []⟩), (36, ⟨.func, 1, 8, .d .nilf, .nilf, []⟩), (38, ⟨.func, 1, 8, .d .nilf, .nilf, []⟩), (39, ⟨.func, 1, 8, .d .nilf, .nilf, []⟩), (40, ⟨.slice 52, 1, 24, .nils 7, .list 7 [], []⟩), (41, ⟨.slice 52, 1, 24, .nils 7, .list 7 [], []⟩), (42, ⟨.func, 1, 8, .d .nilf, .nilf, []⟩), (43, ⟨.func, 1, 8, .d .nilf, .nilf, []⟩), (44, ⟨.func, 1, 8, .d .nilf, .nilf, []⟩), (45, ⟨.func, 1, 8, .d .nilf, .nilf, []⟩), (46, ⟨.func, 1, 8, .d .nilf, .nilf, []⟩), (48, ⟨.func, 1, 8, .d .nilf, .nilf, []⟩), (49, ⟨.func, 1, 8, .d .nilf, .nilf, []⟩), (50, ⟨.array 3 23, 3, 72, .agg [.nils 3, .nils 3, .nils 3], .agg [.list 3 [], .list 3 [], .list 3 []], []⟩), (51, ⟨.struct [(0, 1), (1, 1), (2, 1), (3, 1), (4, 1), (5, 1), (6, 1)], 7, 104, .agg [.d (.int .i64 0), .d (.str []), .d (.str []), .d (.int .i64 0), .d (.int .i64 0), .nils 3, .nils 3], .agg [.int .i64 0, .str [], .str [], .int .i64 0, .int .i64 0, .list 3 [], .list 3 []], []⟩), (52, ⟨.struct [(0, 1), (1, 1), (2, 1), (3, 1), (4, 1), (5, 1), (6, 1)], 7, 104, .agg [.d (.int .i64 0), .d (.str []), .d (.str []), .d (.int .i64 0), .d (.int .i64 0), .nils 3, .nils 3], .agg [.int .i64 0, .str [], .str [], .int .i64 0, .int .i64 0, .list 3 [], .list 3 []], []⟩), (53, ⟨.func, 1, 8, .d .nilf, .nilf, []⟩), (54, ⟨.func, 1, 8, .d .nilf, .nilf, []⟩), (55, ⟨.slice 23, 1, 24, .nils 1, .list 1 [], []⟩), (56, ⟨.func, 1, 8, .d .nilf, .nilf, []⟩), (57, ⟨.func, 1, 8, .d .nilf, .nilf, []⟩), (58, ⟨.struct [(0, 1), (1, 1), (2, 1)], 3, 56, .agg [.nils 3, .nils 3, .d .nilf], .agg [.list 3 [], .list 3 [], .nilf], []⟩), (59, ⟨.struct [(0, 1), (1, 1), (2, 1)], 3, 56, .agg [.nils 3, .nils 3, .d .nilf], .agg [.list 3 [], .list 3 [], .nilf], []⟩), (61, ⟨.func, 1, 8, .d .nilf, .nilf, []⟩), (62, ⟨.func, 1, 8, .d .nilf, .nilf, []⟩), (63, ⟨.func, 1, 8, .d .nilf, .nilf, []⟩), (64, ⟨.func, 1, 8, .d .nilf, .nilf, []⟩), (65, ⟨.func, 1, 8, .d .nilf, .nilf, []⟩), (66, ⟨.func, 1, 8, .d .nilf, .nilf, []⟩), (67, ⟨.func, 1, 8, .d .nilf, .nilf, []⟩), (68, ⟨.func, 1, 8, .d .nilf, .nilf, []⟩), (69, ⟨.func, 1, 8, .d .nilf, .nilf, []⟩), (70, ⟨.func, 1, 8, .d .nilf, .nilf, []⟩), (71, ⟨.slice 9, 1, 24, .nils 1, .list 1 [], []⟩), (73, ⟨.func, 1, 8, .d .nilf, .nilf, []⟩), (74, ⟨.func, 1, 8, .d .nilf, .nilf, []⟩), (76, ⟨.func, 1, 8, .d .nilf, .nilf, []⟩), (77, ⟨.slice 41, 1, 24, .nils 1, .list 1 [], []⟩), (78, ⟨.func, 1, 8, .d .nilf, .nilf, []⟩), (79, ⟨.func, 1, 8, .d .nilf, .nilf, []⟩), (81, ⟨.func, 1, 8, .d .nilf, .nilf, []⟩), (82, ⟨.func, 1, 8, .d .nilf, .nilf, []⟩), (83, ⟨.func, 1, 8, .d .nilf, .nilf, []⟩), (84, ⟨.slice 3, 1, 24, .nils 1, .list 1 [], []⟩), (85, ⟨.func, 1, 8, .d .nilf, .nilf, []⟩), (86, ⟨.func, 1, 8, .d .nilf, .nilf, []⟩), (87, ⟨.func, 1, 8, .d .nilf, .nilf, []⟩), (88, ⟨.func, 1, 8, .d .nilf, .nilf, []⟩), (89, ⟨.func, 1, 8, .d .nilf, .nilf, []⟩), (90, ⟨.func, 1, 8, .d .nilf, .nilf, []⟩), (91, ⟨.func, 1, 8, .d .nilf, .nilf, []⟩), (92, ⟨.func, 1, 8, .d .nilf, .nilf, []⟩), (93, ⟨.func, 1, 8, .d .nilf, .nilf, []⟩), (94, ⟨.func, 1, 8, .d .nilf, .nilf, []⟩), (95, ⟨.func, 1, 8, .d .nilf, .nilf, []⟩), (96, ⟨.func, 1, 8, .d .nilf, .nilf, []⟩), (97, ⟨.func, 1, 8, .d .nilf, .nilf, []⟩), (98, ⟨.func, 1, 8, .d .nilf, .nilf, []⟩), (99, ⟨.func, 1, 8, .d .nilf, .nilf, []⟩), (100, ⟨.func, 1, 8, .d .nilf, .nilf, []⟩), (101, ⟨.func, 1, 8, .d .nilf, .nilf, []⟩), (102, ⟨.func, 1, 8, .d .nilf, .nilf, []⟩), (103, ⟨.func, 1, 8, .d .nilf, .nilf, []⟩), (104, ⟨.func, 1, 8, .d .nilf, .nilf, []⟩), (105, ⟨.slice 5, 1, 24, .nils 1, .list 1 [], []⟩), (106, ⟨.func, 1, 8, .d .nilf, .nilf, []⟩), (107, ⟨.func, 1, 8, .d .nilf, .nilf, []⟩), (108, ⟨.func, 1, 8, .d .nilf, .nilf, []⟩), (109, ⟨.func, 1, 8, .d .nilf, .nilf, []⟩), (110, ⟨.func, 1, 8, .d .nilf, .nilf, []⟩), (111, ⟨.struct [(0, 1), (1, 1), (2, 1), (3, 1)], 4, 40, .d (.agg [.nilp, .nilp, .nilp, .str []]), .agg [.nilp, .nilp, .nilp, .str []], []⟩), (112, ⟨.struct [(0, 1), (1, 1), (2, 1), (3, 1)], 4, 40, .d (.agg [.nilp, .nilp, .nilp, .str []]), .agg [.nilp, .nilp, .nilp, .str []], []⟩), (116, ⟨.func, 1, 8, .d .nilf, .nilf, []⟩), (117, ⟨.int .u32, 1, 4, .d (.int .u32 0), .int .u32 0, []⟩), (118, ⟨.int .u8, 1, 1, .d (.int .u8 0), .int .u8 0, []⟩), (119, ⟨.int .u8, 1, 1, .d (.int .u8 0), .int .u8 0, []⟩), (120, ⟨.func, 1, 8, .d .nilf, .nilf, []⟩), (121, ⟨.ptr 5, 1, 8, .d .nilp, .nilp, []⟩), (122, ⟨.int .i32, 1, 4, .d (.int .i32 0), .int .i32 0, []⟩), (123, ⟨.int .i32, 1, 4, .d (.int .i32 0), .int .i32 0, []⟩), (124, ⟨.struct [(0, 1), (1, 1), (2, 1), (3, 1), (4, 1), (5, 1), (6, 1), (7, 1), (8, 1), (9, 1), (10, 1)], 11, 48, .d (.agg [.int .u64 0, .int .u64 0, .int .u32 0, .int .u8 0, .int .u8 0, .int .u8 0, .int .u8 0, .nilf, .nilp, .int .i32 0, .int .i32 0]), .agg [.int .u64 0, .int .u64 0, .int .u32 0, .int .u8 0, .int .u8 0, .int .u8 0, .int .u8 0, .nilf, .nilp, .int .i32 0, .int .i32 0], []⟩), (125, ⟨.struct [(0, 1), (1, 1), (2, 1), (3, 1), (4, 1), (5, 1), (6, 1), (7, 1), (8, 1), (9, 1), (10, 1)], 11, 48, .d (.agg [.int .u64 0, .int .u64 0, .int .u32 0, .int .u8 0, .int .u8 0, .int .u8 0, .int .u8 0, .nilf, .nilp, .int .i32 0, .int .i32 0]), .agg [.int .u64 0, .int .u64 0, .int .u32 0, .int .u8 0, .int .u8 0, .int .u8 0, .int .u8 0, .nilf, .nilp, .int .i32 0, .int .i32 0], []⟩)]
def tab : Nat → TI := lkT tt
theorem tab2 : tab 2 = ⟨.int .i64, 1, 8, .d (.int .i64 0), .int .i64 0, []⟩ := rfl
theorem tab3 : tab 3 = ⟨.int .i64, 1, 8, .d (.int .i64 0), .int .i64 0, []⟩ := rfl
theorem tab4 : tab 4 = ⟨.bool, 1, 1, .d (.bool false), .bool false, []⟩ := rfl
theorem tab5 : tab 5 = ⟨.int .u8, 1, 1, .d (.int .u8 0), .int .u8 0, []⟩ := rfl
theorem tab9 : tab 9 = ⟨.str, 1, 16, .d (.str []), .str [], []⟩ := rfl
theorem tab21 : tab 21 = ⟨.int .i32, 1, 4, .d (.int .i32 0), .int .i32 0, []⟩ := rfl
theorem tab22 : tab 22 = ⟨.slice 28, 1, 24, .nils 3, .list 3 [], []⟩ := rfl
theorem tab23 : tab 23 = ⟨.slice 28, 1, 24, .nils 3, .list 3 [], []⟩ := rfl
theorem tab24 : tab 24 = ⟨.func, 1, 8, .d .nilf, .nilf, []⟩ := rfl
theorem tab25 : tab 25 = ⟨.func, 1, 8, .d .nilf, .nilf, []⟩ := rfl
theorem tab26 : tab 26 = ⟨.func, 1, 8, .d .nilf, .nilf, []⟩ := rfl
theorem tab27 : tab 27 = ⟨.struct [(0, 1), (1, 1), (2, 1)], 3, 32, .d (.agg [.int .i64 0, .str [], .int .i64 0]), .agg [.int .i64 0, .str [], .int .i64 0], [.int .i64, .str, .int .i64]⟩ := rfl
theorem tab28 : tab 28 = ⟨.struct [(0, 1), (1, 1), (2, 1)], 3, 32, .d (.agg [.int .i64 0, .str [], .int .i64 0]), .agg [.int .i64 0, .str [], .int .i64 0], [.int .i64, .str, .int .i64]⟩ := rfl
theorem tab29 : tab 29 = ⟨.func, 1, 8, .d .nilf, .nilf, []⟩ := rfl
theorem tab30 : tab 30 = ⟨.int .i64, 1, 8, .d (.int .i64 0), .int .i64 0, []⟩ := rfl
theorem tab32 : tab 32 = ⟨.func, 1, 8, .d .nilf, .nilf, []⟩ := rfl
theorem tab33 : tab 33 = ⟨.func, 1, 8, .d .nilf, .nilf, []⟩ := rfl
theorem tab34 : tab 34 = ⟨.array 2 23, 2, 48, .agg [.nils 3, .nils 3], .agg [.list 3 [], .list 3 []], []⟩ := rfl
theorem tab35 : tab 35 = ⟨.func, 1, 8, .d .nilf, .nilf, []⟩ := rfl
theorem tab36 : tab 36 = ⟨.func, 1, 8, .d .nilf, .nilf, []⟩ := rfl
theorem tab38 : tab 38 = ⟨.func, 1, 8, .d .nilf, .nilf, []⟩ := rfl
theorem tab39 : tab 39 = ⟨.func, 1, 8, .d .nilf, .nilf, []⟩ := rfl
theorem tab40 : tab 40 = ⟨.slice 52, 1, 24, .nils 7, .list 7 [], []⟩ := rfl
theorem tab41 : tab 41 = ⟨.slice 52, 1, 24, .nils 7, .list 7 [], []⟩ := rfl
theorem tab42 : tab 42 = ⟨.func, 1, 8, .d .nilf, .nilf, []⟩ := rfl
theorem tab43 : tab 43 = ⟨.func, 1, 8, .d .nilf, .nilf, []⟩ := rfl
theorem tab44 : tab 44 = ⟨.func, 1, 8, .d .nilf, .nilf, []⟩ := rfl
theorem tab45 : tab 45 = ⟨.func, 1, 8, .d .nilf, .nilf, []⟩ := rfl
theorem tab46 : tab 46 = ⟨.func, 1, 8, .d .nilf, .nilf, []⟩ := rfl
theorem tab48 : tab 48 = ⟨.func, 1, 8, .d .nilf, .nilf, []⟩ := rfl
theorem tab49 : tab 49 = ⟨.func, 1, 8, .d .nilf, .nilf, []⟩ := rfl
theorem tab50 : tab 50 = ⟨.array 3 23, 3, 72, .agg [.nils 3, .nils 3, .nils 3], .agg [.list 3 [], .list 3 [], .list 3 []], []⟩ := rfl
theorem tab51 : tab 51 = ⟨.struct [(0, 1), (1, 1), (2, 1), (3, 1), (4, 1), (5, 1), (6, 1)], 7, 104, .agg [.d (.int .i64 0), .d (.str []), .d (.str []), .d (.int .i64 0), .d (.int .i64 0), .nils 3, .nils 3], .agg [.int .i64 0, .str [], .str [], .int .i64 0, .int .i64 0, .list 3 [], .list 3 []], []⟩ := rfl
theorem tab52 : tab 52 = ⟨.struct [(0, 1), (1, 1), (2, 1), (3, 1), (4, 1), (5, 1), (6, 1)], 7, 104, .agg [.d (.int .i64 0), .d (.str []), .d (.str []), .d (.int .i64 0), .d (.int .i64 0), .nils 3, .nils 3], .agg [.int .i64 0, .str [], .str [], .int .i64 0, .int .i64 0, .list 3 [], .list 3 []], []⟩ := rfl
theorem tab53 : tab 53 = ⟨.func, 1, 8, .d .nilf, .nilf, []⟩ := rfl
theorem tab54 : tab 54 = ⟨.func, 1, 8, .d .nilf, .nilf, []⟩ := rfl
theorem tab55 : tab 55 = ⟨.slice 23, 1, 24, .nils 1, .list 1 [], []⟩ := rfl
theorem tab56 : tab 56 = ⟨.func, 1, 8, .d .nilf, .nilf, []⟩ := rfl
theorem tab57 : tab 57 = ⟨.func, 1, 8, .d .nilf, .nilf, []⟩ := rfl
theorem tab58 : tab 58 = ⟨.struct [(0, 1), (1, 1), (2, 1)], 3, 56, .agg [.nils 3, .nils 3, .d .nilf], .agg [.list 3 [], .list 3 [], .nilf], []⟩ := rfl
theorem tab59 : tab 59 = ⟨.struct [(0, 1), (1, 1), (2, 1)], 3, 56, .agg [.nils 3, .nils 3, .d .nilf], .agg [.list 3 [], .list 3 [], .nilf], []⟩ := rfl
theorem tab61 : tab 61 = ⟨.func, 1, 8, .d .nilf, .nilf, []⟩ := rfl
theorem tab62 : tab 62 = ⟨.func, 1, 8, .d .nilf, .nilf, []⟩ := rfl
theorem tab63 : tab 63 = ⟨.func, 1, 8, .d .nilf, .nilf, []⟩ := rfl
theorem tab64 : tab 64 = ⟨.func, 1, 8, .d .nilf, .nilf, []⟩ := rfl
theorem tab65 : tab 65 = ⟨.func, 1, 8, .d .nilf, .nilf, []⟩ := rfl
theorem tab66 : tab 66 = ⟨.func, 1, 8, .d .nilf, .nilf, []⟩ := rfl
theorem tab67 : tab 67 = ⟨.func, 1, 8, .d .nilf, .nilf, []⟩ := rfl
theorem tab68 : tab 68 = ⟨.func, 1, 8, .d .nilf, .nilf, []⟩ := rfl
theorem tab69 : tab 69 = ⟨.func, 1, 8, .d .nilf, .nilf, []⟩ := rfl
theorem tab70 : tab 70 = ⟨.func, 1, 8, .d .nilf, .nilf, []⟩ := rfl
theorem tab71 : tab 71 = ⟨.slice 9, 1, 24, .nils 1, .list 1 [], []⟩ := rfl
theorem tab73 : tab 73 = ⟨.func, 1, 8, .d .nilf, .nilf, []⟩ := rfl
theorem tab74 : tab 74 = ⟨.func, 1, 8, .d .nilf, .nilf, []⟩ := rfl
theorem tab76 : tab 76 = ⟨.func, 1, 8, .d .nilf, .nilf, []⟩ := rfl
theorem tab77 : tab 77 = ⟨.slice 41, 1, 24, .nils 1, .list 1 [], []⟩ := rfl
theorem tab78 : tab 78 = ⟨.func, 1, 8, .d .nilf, .nilf, []⟩ := rfl
theorem tab79 : tab 79 = ⟨.func, 1, 8, .d .nilf, .nilf, []⟩ := rfl
theorem tab81 : tab 81 = ⟨.func, 1, 8, .d .nilf, .nilf, []⟩ := rfl
theorem tab82 : tab 82 = ⟨.func, 1, 8, .d .nilf, .nilf, []⟩ := rfl
theorem tab83 : tab 83 = ⟨.func, 1, 8, .d .nilf, .nilf, []⟩ := rfl
theorem tab84 : tab 84 = ⟨.slice 3, 1, 24, .nils 1, .list 1 [], []⟩ := rfl
theorem tab85 : tab 85 = ⟨.func, 1, 8, .d .nilf, .nilf, []⟩ := rfl
theorem tab86 : tab 86 = ⟨.func, 1, 8, .d .nilf, .nilf, []⟩ := rfl
theorem tab87 : tab 87 = ⟨.func, 1, 8, .d .nilf, .nilf, []⟩ := rfl
theorem tab88 : tab 88 = ⟨.func, 1, 8, .d .nilf, .nilf, []⟩ := rfl
theorem tab89 : tab 89 = ⟨.func, 1, 8, .d .nilf, .nilf, []⟩ := rfl
theorem tab90 : tab 90 = ⟨.func, 1, 8, .d .nilf, .nilf, []⟩ := rfl
theorem tab91 : tab 91 = ⟨.func, 1, 8, .d .nilf, .nilf, []⟩ := rfl
theorem tab92 : tab 92 = ⟨.func, 1, 8, .d .nilf, .nilf, []⟩ := rfl
theorem tab93 : tab 93 = ⟨.func, 1, 8, .d .nilf, .nilf, []⟩ := rfl
theorem tab94 : tab 94 = ⟨.func, 1, 8, .d .nilf, .nilf, []⟩ := rfl
theorem tab95 : tab 95 = ⟨.func, 1, 8, .d .nilf, .nilf, []⟩ := rfl
theorem tab96 : tab 96 = ⟨.func, 1, 8, .d .nilf, .nilf, []⟩ := rfl
theorem tab97 : tab 97 = ⟨.func, 1, 8, .d .nilf, .nilf, []⟩ := rfl
theorem tab98 : tab 98 = ⟨.func, 1, 8, .d .nilf, .nilf, []⟩ := rfl
theorem tab99 : tab 99 = ⟨.func, 1, 8, .d .nilf, .nilf, []⟩ := rfl
theorem tab100 : tab 100 = ⟨.func, 1, 8, .d .nilf, .nilf, []⟩ := rfl
theorem tab101 : tab 101 = ⟨.func, 1, 8, .d .nilf, .nilf, []⟩ := rfl
theorem tab102 : tab 102 = ⟨.func, 1, 8, .d .nilf, .nilf, []⟩ := rfl
theorem tab103 : tab 103 = ⟨.func, 1, 8, .d .nilf, .nilf, []⟩ := rfl
theorem tab104 : tab 104 = ⟨.func, 1, 8, .d .nilf, .nilf, []⟩ := rfl
theorem tab105 : tab 105 = ⟨.slice 5, 1, 24, .nils 1, .list 1 [], []⟩ := rfl
theorem tab106 : tab 106 = ⟨.func, 1, 8, .d .nilf, .nilf, []⟩ := rfl
theorem tab107 : tab 107 = ⟨.func, 1, 8, .d .nilf, .nilf, []⟩ := rfl
theorem tab108 : tab 108 = ⟨.func, 1, 8, .d .nilf, .nilf, []⟩ := rfl
theorem tab109 : tab 109 = ⟨.func, 1, 8, .d .nilf, .nilf, []⟩ := rfl
theorem tab110 : tab 110 = ⟨.func, 1, 8, .d .nilf, .nilf, []⟩ := rfl
theorem tab111 : tab 111 = ⟨.struct [(0, 1), (1, 1), (2, 1), (3, 1)], 4, 40, .d (.agg [.nilp, .nilp, .nilp, .str []]), .agg [.nilp, .nilp, .nilp, .str []], []⟩ := rfl
theorem tab112 : tab 112 = ⟨.struct [(0, 1), (1, 1), (2, 1), (3, 1)], 4, 40, .d (.agg [.nilp, .nilp, .nilp, .str []]), .agg [.nilp, .nilp, .nilp, .str []], []⟩ := rfl
theorem tab116 : tab 116 = ⟨.func, 1, 8, .d .nilf, .nilf, []⟩ := rfl
theorem tab117 : tab 117 = ⟨.int .u32, 1, 4, .d (.int .u32 0), .int .u32 0, []⟩ := rfl
theorem tab118 : tab 118 = ⟨.int .u8, 1, 1, .d (.int .u8 0), .int .u8 0, []⟩ := rfl
theorem tab119 : tab 119 = ⟨.int .u8, 1, 1, .d (.int .u8 0), .int .u8 0, []⟩ := rfl
theorem tab120 : tab 120 = ⟨.func, 1, 8, .d .nilf, .nilf, []⟩ := rfl
theorem tab121 : tab 121 = ⟨.ptr 5, 1, 8, .d .nilp, .nilp, []⟩ := rfl
theorem tab122 : tab 122 = ⟨.int .i32, 1, 4, .d (.int .i32 0), .int .i32 0, []⟩ := rfl
theorem tab123 : tab 123 = ⟨.int .i32, 1, 4, .d (.int .i32 0), .int .i32 0, []⟩ := rfl
theorem tab124 : tab 124 = ⟨.struct [(0, 1), (1, 1), (2, 1), (3, 1), (4, 1), (5, 1), (6, 1), (7, 1), (8, 1), (9, 1), (10, 1)], 11, 48, .d (.agg [.int .u64 0, .int .u64 0, .int .u32 0, .int .u8 0, .int .u8 0, .int .u8 0, .int .u8 0, .nilf, .nilp, .int .i32 0, .int .i32 0]), .agg [.int .u64 0, .int .u64 0, .int .u32 0, .int .u8 0, .int .u8 0, .int .u8 0, .int .u8 0, .nilf, .nilp, .int .i32 0, .int .i32 0], []⟩ := rfl
theorem tab125 : tab 125 = ⟨.struct [(0, 1), (1, 1), (2, 1), (3, 1), (4, 1), (5, 1), (6, 1), (7, 1), (8, 1), (9, 1), (10, 1)], 11, 48, .d (.agg [.int .u64 0, .int .u64 0, .int .u32 0, .int .u8 0, .int .u8 0, .int .u8 0, .int .u8 0, .nilf, .nilp, .int .i32 0, .int .i32 0]), .agg [.int .u64 0, .int .u64 0, .int .u32 0, .int .u8 0, .int .u8 0, .int .u8 0, .int .u8 0, .nilf, .nilp, .int .i32 0, .int .i32 0], []⟩ := rfl
theorem tabOk : TabOk Try.prog tab := tabOk_of (by kernel_rfl)
theorem mixedOk : Try.prog.follows .mixedOrders = true := by kernel_rfl

/-! ### bytes, names -/
instance encU8 : Enc UInt8 := ⟨fun b => .int .u8 b.toNat, fun x => UInt8.ofNat x.i.toNat, fun b => by simp [D.i]⟩
instance szU8 : Sz UInt8 := ⟨1⟩
theorem enc_U8 {b : UInt8} : (enc b : D) = .int .u8 b.toNat := rfl
theorem isE_U8 {b : UInt8} : isE UInt8 (.int .u8 b.toNat) = True := eq_true (isE_enc b)
theorem dec_U8 {b : UInt8} : (dec (.int .u8 b.toNat) : UInt8) = b := Enc.dec_enc b
theorem isE_U8n {n : Nat} : isE UInt8 (.int .u8 (n : Int)) = (n < 256) := propext ⟨fun h => by
  have h' : D.int .u8 (n : Int) = D.int .u8 ((UInt8.ofNat n).toNat : Int) := h
  injection h' with _ h2
  have := UInt8.toNat_lt (UInt8.ofNat n)
  omega, fun h => by
  show D.int .u8 (n : Int) = D.int .u8 ((UInt8.ofNat n).toNat : Int)
  have : (UInt8.ofNat n).toNat = n := by simp; omega
  rw [this]⟩
def within (c a b : UInt8) : Bool := decide (a ≤ c) && decide (c ≤ b)
theorem le_u8 {a b : UInt8} : leB (a.toNat : Int) (b.toNat : Int) = decide (a ≤ b) := by
  unfold leB
  congr 1
  rw [UInt8.le_iff_toNat_le]
  exact propext (by omega)
def con_within : Con := con3 (fun (_ _ _ : UInt8) => True) (fun c a b => within c a b)
noncomputable def ctx_within : Ctx := ⟨tab, lkC [], 60, lkB [], []⟩
theorem ctx_within_t : ctx_within.τ = tab := rfl
theorem ctx_within_c : ctx_within.Γ = lkC [] := rfl
theorem ctx_within_d : ctx_within.dp = 60 := rfl
theorem ctx_within_b : ctx_within.Δ = lkB [] := rfl
theorem ctx_within_u : ctx_within.cuts = [] := rfl
theorem good_within : Good Try.prog (100, con_within) := by
  refine ⟨enters_of Try.func100 (by kernel_rfl) rfl, ?_⟩
  have K : CtxOk Try.prog ctx_within := ctxOk_of tabOk mixedOk (by simp) (by simp)
  obtain ⟨c, hc⟩ : ∃ c, Try.f100.body = some c := ⟨_, rfl⟩
  refine fn_sound K Try.func100 hc [.tmp 6] rfl 15 rfl (fun cvs hpre => ?_)
  change con_within.pre cvs at hpre
  unfold con_within at hpre
  obtain ⟨x, y, z, rfl, -⟩ := con3_pre hpre
  simp only [Try.f100, Option.some.injEq] at hc
  subst hc
  (sym =>
     simp [enc_U8, isE_U8, dec_U8, le_u8, ctx_within_t, ctx_within_c, ctx_within_d, ctx_within_b, ctx_within_u, con_within.eq_def, zaa, zab, zac, zad, zae, zaf, zag, zan, zao, zap, zaq, zar, zas, zat, zav, zbo, zbp, zbq, zbu, zby, zca, zcb, zcc, zcd, zcf, zco, zcp, zcr, zcv, zcx, zdc, zde, zdf, zdg, zdh, zdi, zdv, zdw, zec, zed, zeq, zer, zes, zet, zeu, zev, zew, zex, zey, zez, zfa, zfb, zfc, zff, zfh, zfi, zfj, zfk, zfl, zfm, zfn, zfo, zfu, zfv, zfw, zfx, zfy, zfz, zga, zgc, zgd, zge, zgh, zgi, zgj, zgk, zgl, zgm, zgn, zgo, zgp, zgq, zgr, zgs, zgt, zgu, zgv, zgw, zgx, zgy, zgz, zha, zhb, zhc, zhd, zhe, zhf, zhg, zhh, zhi, zhj, zhk, zhr, zhs, zht, zhu, zhv, zhw, zhx, zhy, zhz, zia, zib, zic, zid, zie, zif, zig, zih, zii, zij, zik, zil, zim, zin, zio, zip, ziq, zir, zis, zit, ziu, ziv, ziw, zix, ziy, ziz, zja, zjb, zjc, zjd, zje, zjf, zjg, zjh, zji, zjj, zjk, zjl, zjm, zjn, zjo, zjp, zjq, zjr, zjs, zjt, zju, zjv, zjw, zjx, zjy, zjz, zka, zkb, zkc, zkd, zke, zkf, zkg, zkh, zki, zkj, zkk, zkq, zkr, zku, zkv, zkw, zkx, zky, zkz, zla, zlb, zlc, zld, zle, zlf, zlg, zlh, zli, zlj, zlk, zll, zlm, zln, zlo, zlp, zlq, zlr, zls, zlt, zlu, zlv, zlw, zlx, zly, zlz, zma, zmb, tab5]
     tactic =>
      try simp only [ncast] at *
      try simp only [Int.ofNat_eq_natCast] at *
      try simp (config := { maxSteps := 4000000 }) only [enc_U8, isE_U8, dec_U8, le_u8, con_within, Int.ofNat_eq_natCast, con0, con1, con2, con3, con2t, con3t, symD0, symD1, symD2, symD3, symD4, Nat.reduceAdd, Nat.reduceSub, Nat.reduceMul, Nat.reduceMod, Nat.reduceLT, Nat.reduceLeDiff, Nat.reduceEqDiff, Nat.reduceBEq, Obj.isBox, D.setCell, D.asAgg, setAll, allFit, AV.fits, lk, upd, standAt, freeAt, backTo, packD, Nat.reduceDiv, reduceIte, reduceCtorEq, skIs, skAll, SK.is, aggL, eqbAll, D.eqb, Nat.reduceBNe]
      repeat' (first | with_reducible assumption | with_reducible refine And.intro ?_ ?_ | intro _ | omega | (rw [inR_i64]; omega))
      · rename_i h
        unfold within
        simp [h]
      · rename_i h
        unfold within
        rw [decide_eq_false h]
        rfl)

def chars (a b c d e f g : UInt8) : Prop := True
def behind (c : UInt8) : Bool := within c 97 122 || within c 65 90 || within c 48 57 || c == 95
theorem eq_u8 {a b : UInt8} : ((a.toNat : Int) == (b.toNat : Int)) = (a == b) := by
  rw [Bool.eq_iff_iff, beq_iff_eq, beq_iff_eq]
  constructor
  · intro h; exact UInt8.toNat_inj.1 (by omega)
  · intro h; rw [h]
theorem isE_u8 {n : Int} (h : 0 ≤ n ∧ n < 256) : isE UInt8 (.int .u8 n) := by
  show D.int .u8 n = D.int .u8 ((UInt8.ofNat n.toNat).toNat : Int)
  have : (UInt8.ofNat n.toNat).toNat = n.toNat := by simp; omega
  rw [this]
  congr 1
  omega
theorem b97 : D.int .u8 97 = enc (97 : UInt8) := rfl
theorem b122 : D.int .u8 122 = enc (122 : UInt8) := rfl
theorem b65 : D.int .u8 65 = enc (65 : UInt8) := rfl
theorem b90 : D.int .u8 90 = enc (90 : UInt8) := rfl
theorem b48 : D.int .u8 48 = enc (48 : UInt8) := rfl
theorem b57 : D.int .u8 57 = enc (57 : UInt8) := rfl
theorem b95 : (95 : Int) = ((95 : UInt8).toNat : Int) := rfl
theorem u8_enc {b : UInt8} : (.int .u8 b.toNat : D) = enc b := rfl
theorem isInt_U8 {k : IntKind} {x : UInt8} : D.isInt k (enc x) = (.u8 = k) := rfl
theorem i_U8 {x : UInt8} : D.i (enc x) = x.toNat := rfl
theorem fits_U8 {s : Nat} {x : UInt8} : D.fits s (enc x) = (s = 1) := rfl
theorem cell_U8 {f : Nat} {x : UInt8} : D.cell (enc x) f = enc x := rfl
theorem eq95 {x : UInt8} : ((x.toNat : Int) == 95) = (x == 95) := eq_u8 (b := 95)
def con_behind : Con := con1 (fun (_ : UInt8) => True) (fun c => behind c)
noncomputable def ctx_behind : Ctx := ⟨tab, lkC [(100, con_within)], 60, lkB [], []⟩
theorem ctx_behind_t : ctx_behind.τ = tab := rfl
theorem ctx_behind_c : ctx_behind.Γ = lkC [(100, con_within)] := rfl
theorem ctx_behind_d : ctx_behind.dp = 60 := rfl
theorem ctx_behind_b : ctx_behind.Δ = lkB [] := rfl
theorem ctx_behind_u : ctx_behind.cuts = [] := rfl
theorem good_behind : Good Try.prog (115, con_behind) := by
  refine ⟨enters_of Try.func115 (by kernel_rfl) rfl, ?_⟩
  have K : CtxOk Try.prog ctx_behind := ctxOk_of tabOk mixedOk (by
    intro p hp
    simp only [List.mem_cons, List.not_mem_nil, or_false] at hp
    rcases hp with rfl
    · exact good_within) (by simp)
  obtain ⟨c, hc⟩ : ∃ c, Try.f115.body = some c := ⟨_, rfl⟩
  refine fn_sound K Try.func115 hc [.tmp 2] rfl 17 rfl (fun cvs hpre => ?_)
  change con_behind.pre cvs at hpre
  unfold con_behind at hpre
  obtain ⟨x, rfl, -⟩ := con1_pre hpre
  simp only [Try.f115, Option.some.injEq] at hc
  subst hc
  (sym =>
     simp [b97, b122, b65, b90, b48, b57, u8_enc, isInt_U8, i_U8, fits_U8, cell_U8, le_u8, eq95, ctx_behind_t, ctx_behind_c, ctx_behind_d, ctx_behind_b, ctx_behind_u, con_behind.eq_def, con_within.eq_def, zaa, zab, zac, zad, zae, zaf, zag, zan, zao, zap, zaq, zar, zas, zat, zav, zbm, zbn, zbo, zbp, zbq, zbr, zbs, zbt, zbu, zby, zca, zcb, zcc, zcd, zcf, zco, zcp, zcr, zcv, zcw, zcx, zdc, zde, zdf, zdg, zdh, zdi, zdv, zdw, zec, zed, zeq, zer, zes, zet, zeu, zev, zew, zex, zey, zez, zfa, zfb, zfc, zff, zfh, zfi, zfj, zfk, zfl, zfm, zfn, zfo, zfu, zfv, zfw, zfx, zfy, zfz, zga, zgc, zgd, zge, zgh, zgi, zgj, zgk, zgl, zgm, zgn, zgo, zgp, zgq, zgr, zgs, zgt, zgu, zgv, zgw, zgx, zgy, zgz, zha, zhb, zhc, zhd, zhe, zhf, zhg, zhh, zhi, zhj, zhk, zhr, zhs, zht, zhu, zhv, zhw, zhx, zhy, zhz, zia, zib, zic, zid, zie, zif, zig, zih, zii, zij, zik, zil, zim, zin, zio, zip, ziq, zir, zis, zit, ziu, ziv, ziw, zix, ziy, ziz, zja, zjb, zjc, zjd, zje, zjf, zjg, zjh, zji, zjj, zjk, zjl, zjm, zjn, zjo, zjp, zjq, zjr, zjs, zjt, zju, zjv, zjw, zjx, zjy, zjz, zka, zkb, zkc, zkd, zke, zkf, zkg, zkh, zki, zkj, zkk, zkq, zkr, zku, zkv, zkw, zkx, zky, zkz, zla, zlb, zlc, zld, zle, zlf, zlg, zlh, zli, zlj, zlk, zll, zlm, zln, zlo, zlp, zlq, zlr, zls, zlt, zlu, zlv, zlw, zlx, zly, zlz, zma, zmb, tab5]
     tactic =>
      try simp only [ncast] at *
      try simp only [Int.ofNat_eq_natCast] at *
      try simp (config := { maxSteps := 4000000 }) only [b97, b122, b65, b90, b48, b57, u8_enc, isInt_U8, i_U8, fits_U8, cell_U8, le_u8, eq95, con_behind, con_within, Int.ofNat_eq_natCast, con0, con1, con2, con3, con2t, con3t, symD0, symD1, symD2, symD3, symD4, Nat.reduceAdd, Nat.reduceSub, Nat.reduceMul, Nat.reduceMod, Nat.reduceLT, Nat.reduceLeDiff, Nat.reduceEqDiff, Nat.reduceBEq, Obj.isBox, D.setCell, D.asAgg, setAll, allFit, AV.fits, lk, upd, standAt, freeAt, backTo, packD, Nat.reduceDiv, reduceIte, reduceCtorEq, skIs, skAll, SK.is, aggL, eqbAll, D.eqb, Nat.reduceBNe]
      unfold behind
      refine ⟨fun h1 => ⟨fun h2 => ⟨fun h3 => ?_, fun h3 => ?_⟩, fun h2 => ?_⟩, fun h1 => ?_⟩
      all_goals simp only [*, Bool.false_or, Bool.true_or, Bool.or_true])

def behindAll (s : List UInt8) : Bool := s.all behind
theorem drop1_getD {s : List UInt8} {j : Nat} : (s.drop 1).getD j 0 = s.getD (j + 1) 0 := by
  simp [List.getD_eq_getElem?_getD, Nat.add_comm]
def con_all1 : Con := con1 (fun (s : List UInt8) => s.length ≤ 9223372036854775807) (fun s => behindAll (s.drop 1))
noncomputable def ctx_all1 : Ctx := ⟨tab, lkC [(115, con_behind)], 60, lkB [], []⟩
theorem ctx_all1_t : ctx_all1.τ = tab := rfl
theorem ctx_all1_c : ctx_all1.Γ = lkC [(115, con_behind)] := rfl
theorem ctx_all1_d : ctx_all1.dp = 60 := rfl
theorem ctx_all1_b : ctx_all1.Δ = lkB [] := rfl
theorem ctx_all1_u : ctx_all1.cuts = [] := rfl
theorem good_all1 : Good Try.prog (101, con_all1) := by
  refine ⟨enters_of Try.func101 (by kernel_rfl) rfl, ?_⟩
  have K : CtxOk Try.prog ctx_all1 := ctxOk_of tabOk mixedOk (by
    intro p hp
    simp only [List.mem_cons, List.not_mem_nil, or_false] at hp
    rcases hp with rfl
    · exact good_behind) (by simp)
  obtain ⟨c, hc⟩ : ∃ c, Try.f101.body = some c := ⟨_, rfl⟩
  refine fn_sound K Try.func101 hc [.tmp 2] rfl 15 rfl (fun cvs hpre => ?_)
  change con_all1.pre cvs at hpre
  unfold con_all1 at hpre
  obtain ⟨s, rfl, hs⟩ := con1_pre hpre
  simp only [Try.f101, Option.some.injEq] at hc
  subst hc
  (sym =>
     simp [ctx_all1_t, ctx_all1_c, ctx_all1_d, ctx_all1_b, ctx_all1_u, con_all1.eq_def, con_behind.eq_def, zaa, zab, zac, zae, zaf, zag, zan, zao, zap, zaq, zar, zas, zav, zba, zbh, zbm, zbn, zbo, zbp, zbq, zbr, zbs, zbt, zbu, zby, zca, zcb, zcc, zcd, zcf, zco, zcp, zcr, zcv, zcw, zcx, zdc, zde, zdf, zdg, zdh, zdi, zdv, zdw, zdx, zdy, zdz, zec, zed, zeq, zer, zes, zet, zeu, zev, zew, zex, zey, zez, zfa, zfb, zfc, zff, zfh, zfi, zfj, zfk, zfl, zfm, zfn, zfo, zfu, zfv, zfw, zfx, zfy, zfz, zga, zgb, zgc, zgd, zge, zgh, zgi, zgj, zgk, zgl, zgm, zgn, zgo, zgp, zgq, zgr, zgs, zgt, zgu, zgv, zgw, zgx, zgy, zgz, zha, zhb, zhc, zhd, zhe, zhf, zhg, zhh, zhi, zhj, zhk, zhq, zhr, zhs, zht, zhu, zhv, zhw, zhx, zhy, zhz, zia, zib, zic, zid, zie, zif, zig, zih, zii, zij, zik, zil, zim, zin, zio, zip, ziq, zir, zis, zit, ziu, ziv, ziw, zix, ziy, ziz, zja, zjb, zjc, zjd, zje, zjf, zjg, zjh, zji, zjj, zjk, zjl, zjm, zjn, zjo, zjp, zjq, zjr, zjs, zjt, zju, zjv, zjw, zjx, zjy, zjz, zka, zkb, zkc, zkd, zke, zkf, zkg, zkh, zki, zkj, zkk, zkq, zkr, zku, zkv, zkw, zkx, zky, zkz, zla, zlb, zlc, zld, zle, zlf, zlg, zlh, zli, zlj, zlk, zll, zlm, zln, zlo, zlp, zlq, zlr, zls, zlt, zlu, zlv, zlw, zlx, zly, zlz, zma, zmb, tab3, tab4, tab9]
     tactic =>
      try simp only [ncast] at *
      try simp only [Int.ofNat_eq_natCast] at *
      try simp (config := { maxSteps := 4000000 }) only [con_all1, con_behind, Int.ofNat_eq_natCast, con0, con1, con2, con3, con2t, con3t, symD0, symD1, symD2, symD3, symD4, Nat.reduceAdd, Nat.reduceSub, Nat.reduceMul, Nat.reduceMod, Nat.reduceLT, Nat.reduceLeDiff, Nat.reduceEqDiff, Nat.reduceBEq, Obj.isBox, D.setCell, D.asAgg, setAll, allFit, AV.fits, lk, upd, standAt, freeAt, backTo, packD, Nat.reduceDiv, reduceIte, reduceCtorEq, skIs, skAll, SK.is, aggL, eqbAll, D.eqb, Nat.reduceBNe]
      refine aLoop_kill [2, 4, 5, 6, 7, 8, 9, 10, 11, 12, 13, 14] (fun k : Nat => [(3, .d (.int .i64 k))]) (fun k : Nat => []) (fun k : Nat => 1 ≤ k ∧ (k = 1 ∨ k ≤ s.length) ∧ ∀ j, 1 ≤ j → j < k → behind (s.getD j 0) = true) (fun k : Nat => s.length - k) 1 ?_ ?_ ?_
      · simp
        omega
      · ((try simp only [atHead_mk, killAll, setSlots, updAll, upd, set_fl, setCs, putC, Nat.reduceDiv, Nat.reduceMod, Nat.reduceMul, Nat.reduceAdd, Nat.reduceEqDiff, List.set_cons_zero, List.set_cons_succ, if_true, if_false, reduceIte]); (first | refine Wk.of_fl ?_ | skip); simp only [Wk, wkK, wkCs, wkT, wk1, AV.kept, keptAll, wkO, lk, wkObj, and_true, true_and, and_self, Nat.reduceEqDiff, Nat.reduceLeDiff, if_true, if_false, reduceIte, reduceCtorEq, Option.isSome, false_implies]; try simp [Wk, wkK, wkT, wk1, AV.kept, keptAll, wkO, lk, wkObj])
      rintro k ⟨hk1, hk, hno⟩
      rcases ltB_cases k s.length with ⟨hlt, hlb⟩ | ⟨hlt, hlb⟩
      · (sym =>
           simp [hlb, u8_enc, isInt_U8, i_U8, fits_U8, cell_U8, le_u8, ctx_all1_t, ctx_all1_c, ctx_all1_d, ctx_all1_b, ctx_all1_u, con_all1.eq_def, con_behind.eq_def, zaa, zab, zac, zae, zaf, zag, zan, zao, zap, zaq, zar, zas, zav, zba, zbh, zbm, zbn, zbo, zbp, zbq, zbr, zbs, zbt, zbu, zby, zca, zcb, zcc, zcd, zcf, zco, zcp, zcr, zcv, zcw, zcx, zdc, zde, zdf, zdg, zdh, zdi, zdv, zdw, zdx, zdy, zdz, zec, zed, zeq, zer, zes, zet, zeu, zev, zew, zex, zey, zez, zfa, zfb, zfc, zff, zfh, zfi, zfj, zfk, zfl, zfm, zfn, zfo, zfu, zfv, zfw, zfx, zfy, zfz, zga, zgb, zgc, zgd, zge, zgh, zgi, zgj, zgk, zgl, zgm, zgn, zgo, zgp, zgq, zgr, zgs, zgt, zgu, zgv, zgw, zgx, zgy, zgz, zha, zhb, zhc, zhd, zhe, zhf, zhg, zhh, zhi, zhj, zhk, zhq, zhr, zhs, zht, zhu, zhv, zhw, zhx, zhy, zhz, zia, zib, zic, zid, zie, zif, zig, zih, zii, zij, zik, zil, zim, zin, zio, zip, ziq, zir, zis, zit, ziu, ziv, ziw, zix, ziy, ziz, zja, zjb, zjc, zjd, zje, zjf, zjg, zjh, zji, zjj, zjk, zjl, zjm, zjn, zjo, zjp, zjq, zjr, zjs, zjt, zju, zjv, zjw, zjx, zjy, zjz, zka, zkb, zkc, zkd, zke, zkf, zkg, zkh, zki, zkj, zkk, zkq, zkr, zku, zkv, zkw, zkx, zky, zkz, zla, zlb, zlc, zld, zle, zlf, zlg, zlh, zli, zlj, zlk, zll, zlm, zln, zlo, zlp, zlq, zlr, zls, zlt, zlu, zlv, zlw, zlx, zly, zlz, zma, zmb, tab3, tab4, tab9]
           tactic =>
            try simp only [ncast] at *
            try simp only [Int.ofNat_eq_natCast] at *
            try simp (config := { maxSteps := 4000000 }) only [hlb, u8_enc, isInt_U8, i_U8, fits_U8, cell_U8, le_u8, con_all1, con_behind, Int.ofNat_eq_natCast, con0, con1, con2, con3, con2t, con3t, symD0, symD1, symD2, symD3, symD4, Nat.reduceAdd, Nat.reduceSub, Nat.reduceMul, Nat.reduceMod, Nat.reduceLT, Nat.reduceLeDiff, Nat.reduceEqDiff, Nat.reduceBEq, Obj.isBox, D.setCell, D.asAgg, setAll, allFit, AV.fits, lk, upd, standAt, freeAt, backTo, packD, Nat.reduceDiv, reduceIte, reduceCtorEq, skIs, skAll, SK.is, aggL, eqbAll, D.eqb, Nat.reduceBNe]
            repeat' (first | with_reducible assumption | with_reducible refine And.intro ?_ ?_ | intro _ | omega | (rw [inR_i64]; omega))
            · rename_i hb
              unfold behindAll
              rw [all_not (p := behind) 0 (k - 1) (by rw [List.length_drop]; omega) (by rw [drop1_getD, show k - 1 + 1 = k by omega]; exact hb)]
            · rename_i hb
              refine ⟨k + 1, by ((try simp only [atHead_mk, killAll, setSlots, updAll, upd, set_fl, setCs, putC, Nat.reduceDiv, Nat.reduceMod, Nat.reduceMul, Nat.reduceAdd, Nat.reduceEqDiff, List.set_cons_zero, List.set_cons_succ, if_true, if_false, reduceIte]); (first | refine Wk.of_fl ?_ | skip); simp only [Wk, wkK, wkCs, wkT, wk1, AV.kept, keptAll, wkO, lk, wkObj, and_true, true_and, and_self, Nat.reduceEqDiff, Nat.reduceLeDiff, if_true, if_false, reduceIte, reduceCtorEq, Option.isSome, false_implies]; try simp [Wk, wkK, wkT, wk1, AV.kept, keptAll, wkO, lk, wkObj]), by omega, by omega, fun j h1 hj => ?_, by omega⟩
              by_cases hjk : j = k
              · subst hjk; exact hb
              · exact hno j h1 (by omega))
      · (sym =>
           simp [hlb, ctx_all1_t, ctx_all1_c, ctx_all1_d, ctx_all1_b, ctx_all1_u, con_all1.eq_def, con_behind.eq_def, zaa, zab, zac, zae, zaf, zag, zan, zao, zap, zaq, zar, zas, zav, zba, zbh, zbm, zbn, zbo, zbp, zbq, zbr, zbs, zbt, zbu, zby, zca, zcb, zcc, zcd, zcf, zco, zcp, zcr, zcv, zcw, zcx, zdc, zde, zdf, zdg, zdh, zdi, zdv, zdw, zdx, zdy, zdz, zec, zed, zeq, zer, zes, zet, zeu, zev, zew, zex, zey, zez, zfa, zfb, zfc, zff, zfh, zfi, zfj, zfk, zfl, zfm, zfn, zfo, zfu, zfv, zfw, zfx, zfy, zfz, zga, zgb, zgc, zgd, zge, zgh, zgi, zgj, zgk, zgl, zgm, zgn, zgo, zgp, zgq, zgr, zgs, zgt, zgu, zgv, zgw, zgx, zgy, zgz, zha, zhb, zhc, zhd, zhe, zhf, zhg, zhh, zhi, zhj, zhk, zhq, zhr, zhs, zht, zhu, zhv, zhw, zhx, zhy, zhz, zia, zib, zic, zid, zie, zif, zig, zih, zii, zij, zik, zil, zim, zin, zio, zip, ziq, zir, zis, zit, ziu, ziv, ziw, zix, ziy, ziz, zja, zjb, zjc, zjd, zje, zjf, zjg, zjh, zji, zjj, zjk, zjl, zjm, zjn, zjo, zjp, zjq, zjr, zjs, zjt, zju, zjv, zjw, zjx, zjy, zjz, zka, zkb, zkc, zkd, zke, zkf, zkg, zkh, zki, zkj, zkk, zkq, zkr, zku, zkv, zkw, zkx, zky, zkz, zla, zlb, zlc, zld, zle, zlf, zlg, zlh, zli, zlj, zlk, zll, zlm, zln, zlo, zlp, zlq, zlr, zls, zlt, zlu, zlv, zlw, zlx, zly, zlz, zma, zmb, tab3, tab4, tab9]
           tactic =>
            try simp only [ncast] at *
            try simp only [Int.ofNat_eq_natCast] at *
            try simp (config := { maxSteps := 4000000 }) only [hlb, con_all1, con_behind, Int.ofNat_eq_natCast, con0, con1, con2, con3, con2t, con3t, symD0, symD1, symD2, symD3, symD4, Nat.reduceAdd, Nat.reduceSub, Nat.reduceMul, Nat.reduceMod, Nat.reduceLT, Nat.reduceLeDiff, Nat.reduceEqDiff, Nat.reduceBEq, Obj.isBox, D.setCell, D.asAgg, setAll, allFit, AV.fits, lk, upd, standAt, freeAt, backTo, packD, Nat.reduceDiv, reduceIte, reduceCtorEq, skIs, skAll, SK.is, aggL, eqbAll, D.eqb, Nat.reduceBNe]
            unfold behindAll
            rw [all_of_lt (p := behind) 0 fun j hj => ?_]
            rw [drop1_getD]
            rw [List.length_drop] at hj
            exact hno (j + 1) (by omega) (by omega)))

def isWord (s : List UInt8) : Bool := match s with
  | [] => false
  | c :: r => within c 97 122 && behindAll r
def isTag (s : List UInt8) : Bool := match s with
  | [] => false
  | c :: r => within c 65 90 && behindAll r
def con_IsWord1 : Con := con1 (fun (s : List UInt8) => s.length ≤ 9223372036854775807) (fun s => isWord s)
noncomputable def ctx_IsWord1 : Ctx := ⟨tab, lkC [(100, con_within), (101, con_all1)], 60, lkB [], []⟩
theorem ctx_IsWord1_t : ctx_IsWord1.τ = tab := rfl
theorem ctx_IsWord1_c : ctx_IsWord1.Γ = lkC [(100, con_within), (101, con_all1)] := rfl
theorem ctx_IsWord1_d : ctx_IsWord1.dp = 60 := rfl
theorem ctx_IsWord1_b : ctx_IsWord1.Δ = lkB [] := rfl
theorem ctx_IsWord1_u : ctx_IsWord1.cuts = [] := rfl
theorem good_IsWord1 : Good Try.prog (79, con_IsWord1) := by
  refine ⟨enters_of Try.func79 (by kernel_rfl) rfl, ?_⟩
  have K : CtxOk Try.prog ctx_IsWord1 := ctxOk_of tabOk mixedOk (by
    intro p hp
    simp only [List.mem_cons, List.not_mem_nil, or_false] at hp
    rcases hp with rfl | rfl
    · exact good_within
    · exact good_all1) (by simp)
  obtain ⟨c, hc⟩ : ∃ c, Try.f79.body = some c := ⟨_, rfl⟩
  refine fn_sound K Try.func79 hc [.tmp 2] rfl 15 rfl (fun cvs hpre => ?_)
  change con_IsWord1.pre cvs at hpre
  unfold con_IsWord1 at hpre
  obtain ⟨s, rfl, hs⟩ := con1_pre hpre
  simp only [Try.f79, Option.some.injEq] at hc
  subst hc
  (sym =>
     simp [u8_enc, isInt_U8, i_U8, fits_U8, cell_U8, le_u8, b97, b122, ctx_IsWord1_t, ctx_IsWord1_c, ctx_IsWord1_d, ctx_IsWord1_b, ctx_IsWord1_u, con_IsWord1.eq_def, con_all1.eq_def, con_within.eq_def, zaa, zab, zac, zad, zae, zaf, zag, zan, zao, zap, zaq, zar, zas, zat, zav, zba, zbh, zbm, zbn, zbo, zbp, zbq, zbr, zbs, zbt, zbu, zby, zca, zcb, zcc, zcd, zcf, zco, zcp, zcr, zcv, zcw, zcx, zdc, zde, zdf, zdg, zdh, zdi, zdv, zdw, zec, zed, zeq, zer, zes, zet, zeu, zev, zew, zex, zey, zez, zfa, zfb, zfc, zff, zfh, zfi, zfj, zfk, zfl, zfm, zfn, zfo, zfu, zfv, zfw, zfx, zfy, zfz, zga, zgc, zgd, zge, zgh, zgi, zgj, zgk, zgl, zgm, zgn, zgo, zgp, zgq, zgr, zgs, zgt, zgu, zgv, zgw, zgx, zgy, zgz, zha, zhb, zhc, zhd, zhe, zhf, zhg, zhh, zhi, zhj, zhk, zhr, zhs, zht, zhu, zhv, zhw, zhx, zhy, zhz, zia, zib, zic, zid, zie, zif, zig, zih, zii, zij, zik, zil, zim, zin, zio, zip, ziq, zir, zis, zit, ziu, ziv, ziw, zix, ziy, ziz, zja, zjb, zjc, zjd, zje, zjf, zjg, zjh, zji, zjj, zjk, zjl, zjm, zjn, zjo, zjp, zjq, zjr, zjs, zjt, zju, zjv, zjw, zjx, zjy, zjz, zka, zkb, zkc, zkd, zke, zkf, zkg, zkh, zki, zkj, zkk, zkq, zkr, zku, zkv, zkw, zkx, zky, zkz, zla, zlb, zlc, zld, zle, zlf, zlg, zlh, zli, zlj, zlk, zll, zlm, zln, zlo, zlp, zlq, zlr, zls, zlt, zlu, zlv, zlw, zlx, zly, zlz, zma, zmb, tab3, tab9]
     tactic =>
      try simp only [ncast] at *
      try simp only [Int.ofNat_eq_natCast] at *
      try simp (config := { maxSteps := 4000000 }) only [u8_enc, isInt_U8, i_U8, fits_U8, cell_U8, le_u8, b97, b122, con_IsWord1, con_all1, con_within, Int.ofNat_eq_natCast, con0, con1, con2, con3, con2t, con3t, symD0, symD1, symD2, symD3, symD4, Nat.reduceAdd, Nat.reduceSub, Nat.reduceMul, Nat.reduceMod, Nat.reduceLT, Nat.reduceLeDiff, Nat.reduceEqDiff, Nat.reduceBEq, Obj.isBox, D.setCell, D.asAgg, setAll, allFit, AV.fits, lk, upd, standAt, freeAt, backTo, packD, Nat.reduceDiv, reduceIte, reduceCtorEq, skIs, skAll, SK.is, aggL, eqbAll, D.eqb, Nat.reduceBNe]
      cases s with
      | nil => simp [isWord]
      | cons c r =>
        simp only [List.length_cons] at hs
        simp only [List.length_cons, isWord, Int.toNat_zero, List.getD_cons_zero, List.drop_succ_cons, List.drop_zero]
        repeat' (first | with_reducible assumption | with_reducible refine And.intro ?_ ?_ | intro _ | omega | (rw [inR_i64]; omega))
        all_goals simp_all)
def con_IsTag1 : Con := con1 (fun (s : List UInt8) => s.length ≤ 9223372036854775807) (fun s => isTag s)
noncomputable def ctx_IsTag1 : Ctx := ⟨tab, lkC [(100, con_within), (101, con_all1)], 60, lkB [], []⟩
theorem ctx_IsTag1_t : ctx_IsTag1.τ = tab := rfl
theorem ctx_IsTag1_c : ctx_IsTag1.Γ = lkC [(100, con_within), (101, con_all1)] := rfl
theorem ctx_IsTag1_d : ctx_IsTag1.dp = 60 := rfl
theorem ctx_IsTag1_b : ctx_IsTag1.Δ = lkB [] := rfl
theorem ctx_IsTag1_u : ctx_IsTag1.cuts = [] := rfl
theorem good_IsTag1 : Good Try.prog (80, con_IsTag1) := by
  refine ⟨enters_of Try.func80 (by kernel_rfl) rfl, ?_⟩
  have K : CtxOk Try.prog ctx_IsTag1 := ctxOk_of tabOk mixedOk (by
    intro p hp
    simp only [List.mem_cons, List.not_mem_nil, or_false] at hp
    rcases hp with rfl | rfl
    · exact good_within
    · exact good_all1) (by simp)
  obtain ⟨c, hc⟩ : ∃ c, Try.f80.body = some c := ⟨_, rfl⟩
  refine fn_sound K Try.func80 hc [.tmp 2] rfl 15 rfl (fun cvs hpre => ?_)
  change con_IsTag1.pre cvs at hpre
  unfold con_IsTag1 at hpre
  obtain ⟨s, rfl, hs⟩ := con1_pre hpre
  simp only [Try.f80, Option.some.injEq] at hc
  subst hc
  (sym =>
     simp [u8_enc, isInt_U8, i_U8, fits_U8, cell_U8, le_u8, b65, b90, ctx_IsTag1_t, ctx_IsTag1_c, ctx_IsTag1_d, ctx_IsTag1_b, ctx_IsTag1_u, con_IsTag1.eq_def, con_all1.eq_def, con_within.eq_def, zaa, zab, zac, zad, zae, zaf, zag, zan, zao, zap, zaq, zar, zas, zat, zav, zba, zbh, zbm, zbn, zbo, zbp, zbq, zbr, zbs, zbt, zbu, zby, zca, zcb, zcc, zcd, zcf, zco, zcp, zcr, zcv, zcw, zcx, zdc, zde, zdf, zdg, zdh, zdi, zdv, zdw, zec, zed, zeq, zer, zes, zet, zeu, zev, zew, zex, zey, zez, zfa, zfb, zfc, zff, zfh, zfi, zfj, zfk, zfl, zfm, zfn, zfo, zfu, zfv, zfw, zfx, zfy, zfz, zga, zgc, zgd, zge, zgh, zgi, zgj, zgk, zgl, zgm, zgn, zgo, zgp, zgq, zgr, zgs, zgt, zgu, zgv, zgw, zgx, zgy, zgz, zha, zhb, zhc, zhd, zhe, zhf, zhg, zhh, zhi, zhj, zhk, zhr, zhs, zht, zhu, zhv, zhw, zhx, zhy, zhz, zia, zib, zic, zid, zie, zif, zig, zih, zii, zij, zik, zil, zim, zin, zio, zip, ziq, zir, zis, zit, ziu, ziv, ziw, zix, ziy, ziz, zja, zjb, zjc, zjd, zje, zjf, zjg, zjh, zji, zjj, zjk, zjl, zjm, zjn, zjo, zjp, zjq, zjr, zjs, zjt, zju, zjv, zjw, zjx, zjy, zjz, zka, zkb, zkc, zkd, zke, zkf, zkg, zkh, zki, zkj, zkk, zkq, zkr, zku, zkv, zkw, zkx, zky, zkz, zla, zlb, zlc, zld, zle, zlf, zlg, zlh, zli, zlj, zlk, zll, zlm, zln, zlo, zlp, zlq, zlr, zls, zlt, zlu, zlv, zlw, zlx, zly, zlz, zma, zmb, tab3, tab9]
     tactic =>
      try simp only [ncast] at *
      try simp only [Int.ofNat_eq_natCast] at *
      try simp (config := { maxSteps := 4000000 }) only [u8_enc, isInt_U8, i_U8, fits_U8, cell_U8, le_u8, b65, b90, con_IsTag1, con_all1, con_within, Int.ofNat_eq_natCast, con0, con1, con2, con3, con2t, con3t, symD0, symD1, symD2, symD3, symD4, Nat.reduceAdd, Nat.reduceSub, Nat.reduceMul, Nat.reduceMod, Nat.reduceLT, Nat.reduceLeDiff, Nat.reduceEqDiff, Nat.reduceBEq, Obj.isBox, D.setCell, D.asAgg, setAll, allFit, AV.fits, lk, upd, standAt, freeAt, backTo, packD, Nat.reduceDiv, reduceIte, reduceCtorEq, skIs, skAll, SK.is, aggL, eqbAll, D.eqb, Nat.reduceBNe]
      cases s with
      | nil => simp [isTag]
      | cons c r =>
        simp only [List.length_cons] at hs
        simp only [List.length_cons, isTag, Int.toNat_zero, List.getD_cons_zero, List.drop_succ_cons, List.drop_zero]
        repeat' (first | with_reducible assumption | with_reducible refine And.intro ?_ ?_ | intro _ | omega | (rw [inR_i64]; omega))
        all_goals simp_all)

/-! ### nodes of types -/
structure Node where
  kind : Int
  name : List UInt8
  n : Int
  deriving DecidableEq
instance encNode : Enc Node := ⟨fun a => .agg [.int .i64 a.kind, .str a.name, .int .i64 a.n], fun x => match x with
  | .agg [a, b, c] => ⟨a.i, b.s, c.i⟩
  | _ => ⟨0, [], 0⟩, fun a => rfl⟩
instance szNode : Sz Node := ⟨3⟩
theorem szN : Sz.sz Node = 3 := rfl
theorem enc_Node {n : Node} : (enc n : D) = .agg [.int .i64 n.kind, .str n.name, .int .i64 n.n] := rfl
theorem dec_Node {a : Int} {b : List UInt8} {c : Int} : (dec (.agg [.int .i64 a, .str b, .int .i64 c]) : Node) = ⟨a, b, c⟩ := rfl
theorem isE_Node {a : Int} {b : List UInt8} {c : Int} : isE Node (.agg [.int .i64 a, .str b, .int .i64 c]) = True := eq_true rfl
theorem eqb_Node {a b : Node} : ((a.kind == b.kind) && ((a.name == b.name) && (a.n == b.n))) = (a == b) := by
  rw [Bool.eq_iff_iff]
  cases a; cases b
  simp
theorem node_eta {n : Node} : Node.mk n.kind n.name n.n = n := rfl

def many3 (n : Node) : Int := if n.kind = 5 then 2 else if n.kind = 6 ∨ n.kind = 7 then n.n else 0
def con_many3 : Con := con1 (fun (_ : Node) => True) (fun n => many3 n)
noncomputable def ctx_many3 : Ctx := ⟨tab, lkC [], 60, lkB [], []⟩
theorem ctx_many3_t : ctx_many3.τ = tab := rfl
theorem ctx_many3_c : ctx_many3.Γ = lkC [] := rfl
theorem ctx_many3_d : ctx_many3.dp = 60 := rfl
theorem ctx_many3_b : ctx_many3.Δ = lkB [] := rfl
theorem ctx_many3_u : ctx_many3.cuts = [] := rfl
theorem good_many3 : Good Try.prog (77, con_many3) := by
  refine ⟨enters_of Try.func77 (by kernel_rfl) rfl, ?_⟩
  have K : CtxOk Try.prog ctx_many3 := ctxOk_of tabOk mixedOk (by simp) (by simp)
  obtain ⟨c, hc⟩ : ∃ c, Try.f77.body = some c := ⟨_, rfl⟩
  refine fn_sound K Try.func77 hc [.tmp 2] rfl 16 rfl (fun cvs hpre => ?_)
  change con_many3.pre cvs at hpre
  unfold con_many3 at hpre
  obtain ⟨n, rfl, -⟩ := con1_pre hpre
  simp only [Try.f77, Option.some.injEq] at hc
  subst hc
  (sym =>
     simp [enc_Node, isE_Node, dec_Node, node_eta, szN, eqb_Node, ctx_many3_t, ctx_many3_c, ctx_many3_d, ctx_many3_b, ctx_many3_u, con_many3.eq_def, zaa, zab, zac, zad, zae, zaf, zag, zan, zao, zap, zaq, zar, zas, zat, zau, zav, zax, zbo, zbp, zbq, zbu, zby, zbz, zca, zcb, zcc, zcd, zcf, zco, zcp, zcr, zcv, zcx, zdc, zde, zdf, zdg, zdh, zdi, zdv, zdw, zec, zed, zeq, zer, zes, zet, zeu, zev, zew, zex, zey, zez, zfa, zfb, zfc, zff, zfh, zfi, zfj, zfk, zfl, zfm, zfn, zfo, zfu, zfv, zfw, zfx, zfy, zfz, zga, zgc, zgd, zge, zgh, zgi, zgj, zgk, zgl, zgm, zgn, zgo, zgp, zgq, zgr, zgs, zgt, zgu, zgv, zgw, zgx, zgy, zgz, zha, zhb, zhc, zhd, zhe, zhf, zhg, zhh, zhi, zhj, zhk, zhr, zhs, zht, zhu, zhv, zhw, zhx, zhy, zhz, zia, zib, zic, zid, zie, zif, zig, zih, zii, zij, zik, zil, zim, zin, zio, zip, ziq, zir, zis, zit, ziu, ziv, ziw, zix, ziy, ziz, zja, zjb, zjc, zjd, zje, zjf, zjg, zjh, zji, zjj, zjk, zjl, zjm, zjn, zjo, zjp, zjq, zjr, zjs, zjt, zju, zjv, zjw, zjx, zjy, zjz, zka, zkb, zkc, zkd, zke, zkf, zkg, zkh, zki, zkj, zkk, zkq, zkr, zku, zkv, zkw, zkx, zky, zkz, zla, zlb, zlc, zld, zle, zlf, zlg, zlh, zli, zlj, zlk, zll, zlm, zln, zlo, zlp, zlq, zlr, zls, zlt, zlu, zlv, zlw, zlx, zly, zlz, zma, zmb, tab3, tab28]
     tactic =>
      try simp only [ncast] at *
      try simp only [Int.ofNat_eq_natCast] at *
      try simp (config := { maxSteps := 4000000 }) only [enc_Node, isE_Node, dec_Node, node_eta, szN, eqb_Node, con_many3, Int.ofNat_eq_natCast, con0, con1, con2, con3, con2t, con3t, symD0, symD1, symD2, symD3, symD4, Nat.reduceAdd, Nat.reduceSub, Nat.reduceMul, Nat.reduceMod, Nat.reduceLT, Nat.reduceLeDiff, Nat.reduceEqDiff, Nat.reduceBEq, Obj.isBox, D.setCell, D.asAgg, setAll, allFit, AV.fits, lk, upd, standAt, freeAt, backTo, packD, Nat.reduceDiv, reduceIte, reduceCtorEq, skIs, skAll, SK.is, aggL, eqbAll, D.eqb, Nat.reduceBNe]
      unfold many3
      refine ⟨fun h => by rw [if_pos h], fun h => ⟨fun h6 => ⟨fun h7 => by rw [if_neg h, if_pos (.inr h7)], fun h7 => by rw [if_neg h, if_neg (by omega)]⟩, fun h6 => by rw [if_neg h, if_pos (.inl h6)]⟩⟩)

def numb3 (n : Node) : Bool :=
  if n.kind = 0 ∨ n.kind = 8 ∨ n.kind = 9 then decide (0 ≤ n.n)
  else if 1 ≤ n.kind ∧ n.kind ≤ 5 then decide (n.n = 0)
  else if n.kind = 6 then decide (0 ≤ n.n) && decide (n.n ≤ 50)
  else if n.kind = 7 then decide (1 ≤ n.n) && decide (n.n ≤ 50)
  else false
def con_numbered3 : Con := con1 (fun (_ : Node) => True) (fun n => numb3 n)
noncomputable def ctx_numbered3 : Ctx := ⟨tab, lkC [], 60, lkB [], []⟩
theorem ctx_numbered3_t : ctx_numbered3.τ = tab := rfl
theorem ctx_numbered3_c : ctx_numbered3.Γ = lkC [] := rfl
theorem ctx_numbered3_d : ctx_numbered3.dp = 60 := rfl
theorem ctx_numbered3_b : ctx_numbered3.Δ = lkB [] := rfl
theorem ctx_numbered3_u : ctx_numbered3.cuts = [] := rfl
set_option maxRecDepth 100000 in
theorem good_numbered3 : Good Try.prog (47, con_numbered3) := by
  refine ⟨enters_of Try.func47 (by kernel_rfl) rfl, ?_⟩
  have K : CtxOk Try.prog ctx_numbered3 := ctxOk_of tabOk mixedOk (by simp) (by simp)
  obtain ⟨c, hc⟩ : ∃ c, Try.f47.body = some c := ⟨_, rfl⟩
  refine fn_sound K Try.func47 hc [.tmp 2] rfl 41 rfl (fun cvs hpre => ?_)
  change con_numbered3.pre cvs at hpre
  unfold con_numbered3 at hpre
  obtain ⟨n, rfl, -⟩ := con1_pre hpre
  simp only [Try.f47, Option.some.injEq] at hc
  subst hc
  refine awp_chk 2 (of_decide_eq_true (by kernel_rfl)) ?_
  (sym =>
     simp [enc_Node, isE_Node, dec_Node, node_eta, szN, eqb_Node, ctx_numbered3_t, ctx_numbered3_c, ctx_numbered3_d, ctx_numbered3_b, ctx_numbered3_u, con_numbered3.eq_def, zaa, zab, zac, zad, zae, zaf, zag, zan, zao, zap, zaq, zar, zas, zat, zau, zav, zax, zbo, zbp, zbq, zbu, zby, zbz, zca, zcb, zcc, zcd, zcf, zco, zcp, zcr, zcv, zcx, zdc, zde, zdf, zdg, zdh, zdi, zdu, zdv, zdw, zec, zed, zee, zef, zeg, zeh, zei, zej, zek, zel, zem, zen, zeq, zer, zes, zet, zeu, zev, zew, zex, zey, zez, zfa, zfb, zfc, zfd, zfe, zff, zfh, zfi, zfj, zfk, zfl, zfm, zfn, zfo, zfu, zfv, zfw, zfx, zfy, zfz, zga, zgc, zgd, zge, zgh, zgi, zgj, zgk, zgl, zgm, zgn, zgo, zgp, zgq, zgr, zgs, zgt, zgu, zgv, zgw, zgx, zgy, zgz, zha, zhb, zhc, zhd, zhe, zhf, zhg, zhh, zhi, zhj, zhk, zhn, zho, zhp, zhr, zhs, zht, zhu, zhv, zhw, zhx, zhy, zhz, zia, zib, zic, zid, zie, zif, zig, zih, zii, zij, zik, zil, zim, zin, zio, zip, ziq, zir, zis, zit, ziu, ziv, ziw, zix, ziy, ziz, zja, zjb, zjc, zjd, zje, zjf, zjg, zjh, zji, zjj, zjk, zjl, zjm, zjn, zjo, zjp, zjq, zjr, zjs, zjt, zju, zjv, zjw, zjx, zjy, zjz, zka, zkb, zkc, zkd, zke, zkf, zkg, zkh, zki, zkj, zkk, zkq, zkr, zku, zkv, zkw, zkx, zky, zkz, zla, zlb, zlc, zld, zle, zlf, zlg, zlh, zli, zlj, zlk, zll, zlm, zln, zlo, zlp, zlq, zlr, zls, zlt, zlu, zlv, zlw, zlx, zly, zlz, zma, zmb, tab3, tab28]
     tactic =>
      try simp only [ncast] at *
      try simp only [Int.ofNat_eq_natCast] at *
      try simp (config := { maxSteps := 4000000 }) only [enc_Node, isE_Node, dec_Node, node_eta, szN, eqb_Node, con_numbered3, Int.ofNat_eq_natCast, con0, con1, con2, con3, con2t, con3t, symD0, symD1, symD2, symD3, symD4, Nat.reduceAdd, Nat.reduceSub, Nat.reduceMul, Nat.reduceMod, Nat.reduceLT, Nat.reduceLeDiff, Nat.reduceEqDiff, Nat.reduceBEq, Obj.isBox, D.setCell, D.asAgg, setAll, allFit, AV.fits, lk, upd, standAt, freeAt, backTo, packD, Nat.reduceDiv, reduceIte, reduceCtorEq, skIs, skAll, SK.is, aggL, eqbAll, D.eqb, Nat.reduceBNe]
      unfold numb3
      repeat' (first | with_reducible assumption | with_reducible refine And.intro ?_ ?_ | intro _ | omega | (rw [inR_i64]; omega))
      all_goals repeat (first | rw [if_pos (by omega)] | rw [if_neg (by omega)])
      all_goals try unfold leB
      all_goals try unfold ltB
      all_goals rw [Bool.eq_iff_iff]
      all_goals simp only [Bool.and_eq_true, Bool.or_eq_true, decide_eq_true_eq, beq_iff_eq, Bool.false_eq_true, iff_self, false_iff, iff_false, true_iff, iff_true]
      all_goals omega)

/-! ### where a tree ends -/
def eat : List Node → Int → Nat
  | [], _ => 0
  | n :: l, o => if o - 1 + many3 n = 0 then 1 else 1 + eat l (o - 1 + many3 n)
def end3 (t : List Node) (i : Int) : Int := if i < 0 ∨ (t.length : Int) ≤ i then -1 else i + eat (t.drop i.toNat) 1
/-- No node has too many children. -/
def Tame (t : List Node) : Prop := t.length ≤ 100000 ∧ ∀ n ∈ t, 0 ≤ many3 n ∧ many3 n ≤ 50
def con_End3 : Con := con2 (fun (t : Sl Node) (i : Int) => Tame t.l ∧ inR .i64 i) (fun t i => end3 t.l i)
noncomputable def ctx_End3 : Ctx := ⟨tab, lkC [(77, con_many3)], 60, lkB [], []⟩
theorem ctx_End3_t : ctx_End3.τ = tab := rfl
theorem ctx_End3_c : ctx_End3.Γ = lkC [(77, con_many3)] := rfl
theorem ctx_End3_d : ctx_End3.dp = 60 := rfl
theorem ctx_End3_b : ctx_End3.Δ = lkB [] := rfl
theorem ctx_End3_u : ctx_End3.cuts = [] := rfl
theorem good_End3 : Good Try.prog (48, con_End3) := by
  refine ⟨enters_of Try.func48 (by kernel_rfl) rfl, ?_⟩
  have K : CtxOk Try.prog ctx_End3 := ctxOk_of tabOk mixedOk (by
    intro p hp
    simp only [List.mem_cons, List.not_mem_nil, or_false] at hp
    rcases hp with rfl
    · exact good_many3) (by simp)
  obtain ⟨c, hc⟩ : ∃ c, Try.f48.body = some c := ⟨_, rfl⟩
  refine fn_sound K Try.func48 hc [.tmp 4] rfl 36 rfl (fun cvs hpre => ?_)
  change con_End3.pre cvs at hpre
  unfold con_End3 at hpre
  obtain ⟨⟨t⟩, i, rfl, ⟨ht, hm⟩, hi⟩ := con2_pre hpre
  simp only at ht hm
  rw [inR_i64] at hi
  simp only [Try.f48, Option.some.injEq] at hc
  subst hc
  refine awp_chk 2 (of_decide_eq_true (by kernel_rfl)) ?_
  (sym =>
     simp [enc_Node, isE_Node, dec_Node, node_eta, szN, eqb_Node, ctx_End3_t, ctx_End3_c, ctx_End3_d, ctx_End3_b, ctx_End3_u, con_End3.eq_def, con_many3.eq_def, zaa, zab, zac, zad, zae, zaf, zag, zan, zao, zap, zaq, zar, zas, zat, zav, zaz, zbh, zbm, zbn, zbo, zbp, zbq, zbr, zbs, zbt, zbu, zby, zbz, zca, zcb, zcc, zcd, zcf, zco, zcp, zcr, zcv, zcw, zcx, zdc, zde, zdf, zdg, zdh, zdi, zdu, zdv, zdw, zdx, zdy, zdz, zec, zed, zee, zef, zeg, zeh, zei, zej, zek, zel, zem, zen, zeq, zer, zes, zet, zeu, zev, zew, zex, zey, zez, zfa, zfb, zfc, zfd, zfe, zff, zfh, zfi, zfj, zfk, zfl, zfm, zfn, zfo, zfu, zfv, zfw, zfx, zfy, zfz, zga, zgb, zgc, zgd, zge, zgh, zgi, zgj, zgk, zgl, zgm, zgn, zgo, zgp, zgq, zgr, zgs, zgt, zgu, zgv, zgw, zgx, zgy, zgz, zha, zhb, zhc, zhd, zhe, zhf, zhg, zhh, zhi, zhj, zhk, zhn, zho, zhp, zhq, zhr, zhs, zht, zhu, zhv, zhw, zhx, zhy, zhz, zia, zib, zic, zid, zie, zif, zig, zih, zii, zij, zik, zil, zim, zin, zio, zip, ziq, zir, zis, zit, ziu, ziv, ziw, zix, ziy, ziz, zja, zjb, zjc, zjd, zje, zjf, zjg, zjh, zji, zjj, zjk, zjl, zjm, zjn, zjo, zjp, zjq, zjr, zjs, zjt, zju, zjv, zjw, zjx, zjy, zjz, zka, zkb, zkc, zkd, zke, zkf, zkg, zkh, zki, zkj, zkk, zkq, zkr, zku, zkv, zkw, zkx, zky, zkz, zla, zlb, zlc, zld, zle, zlf, zlg, zlh, zli, zlj, zlk, zll, zlm, zln, zlo, zlp, zlq, zlr, zls, zlt, zlu, zlv, zlw, zlx, zly, zlz, zma, zmb, tab3, tab23, tab28]
     tactic =>
      try simp only [ncast] at *
      try simp only [Int.ofNat_eq_natCast] at *
      try simp (config := { maxSteps := 4000000 }) only [enc_Node, isE_Node, dec_Node, node_eta, szN, eqb_Node, con_End3, con_many3, Int.ofNat_eq_natCast, con0, con1, con2, con3, con2t, con3t, symD0, symD1, symD2, symD3, symD4, Nat.reduceAdd, Nat.reduceSub, Nat.reduceMul, Nat.reduceMod, Nat.reduceLT, Nat.reduceLeDiff, Nat.reduceEqDiff, Nat.reduceBEq, Obj.isBox, D.setCell, D.asAgg, setAll, allFit, AV.fits, lk, upd, standAt, freeAt, backTo, packD, Nat.reduceDiv, reduceIte, reduceCtorEq, skIs, skAll, SK.is, aggL, eqbAll, D.eqb, Nat.reduceBNe]
      repeat' (first | with_reducible assumption | with_reducible refine And.intro ?_ ?_ | intro _ | omega | (rw [inR_i64]; omega))
      · unfold end3
        rw [if_pos (.inr ‹_›)]
      · obtain ⟨i, rfl⟩ : ∃ n : Nat, i = n := ⟨i.toNat, by omega⟩
        have hil : i < t.length := by omega
        have e0 : end3 t i = i + eat (t.drop i) 1 := by
          unfold end3
          rw [if_neg (by omega)]
          rfl
        refine aLoop_kill [4, 16, 17, 18, 19, 20, 21, 22, 23, 24, 25, 26, 27, 28, 29, 30, 31, 32, 33] (fun p : Nat × Int => [(5, .d (.int .i64 p.2)), (6, .d (.int .i64 p.1))]) (fun p : Nat × Int => []) (fun p : Nat × Int => i ≤ p.1 ∧ p.1 ≤ t.length ∧ 1 ≤ p.2 ∧ p.2 ≤ 1 + 50 * p.1 ∧ i + eat (t.drop i) 1 = p.1 + eat (t.drop p.1) p.2) (fun p : Nat × Int => t.length - p.1) (i, 1) ?_ ?_ ?_
        · exact ⟨Nat.le_refl _, by simp only; omega, by simp, by simp only; omega, rfl⟩
        · ((try simp only [atHead_mk, killAll, setSlots, updAll, upd, set_fl, setCs, putC, Nat.reduceDiv, Nat.reduceMod, Nat.reduceMul, Nat.reduceAdd, Nat.reduceEqDiff, List.set_cons_zero, List.set_cons_succ, if_true, if_false, reduceIte]); (first | refine Wk.of_fl ?_ | skip); simp only [Wk, wkK, wkCs, wkT, wk1, AV.kept, keptAll, wkO, lk, wkObj, and_true, true_and, and_self, Nat.reduceEqDiff, Nat.reduceLeDiff, if_true, if_false, reduceIte, reduceCtorEq, Option.isSome, false_implies]; try simp [Wk, wkK, wkT, wk1, AV.kept, keptAll, wkO, lk, wkObj])
        rintro ⟨k, o⟩ ⟨h1, h2, h3, h4, h5⟩
        simp only at h1 h2 h3 h4 h5
        rcases ltB_cases k t.length with ⟨hlt, hlb⟩ | ⟨hlt, hlb⟩
        · have hmk := hm (t.getD k ⟨0, [], 0⟩) (by simp [hlt])
          have he : eat (t.drop k) o = if o - 1 + many3 (t.getD k ⟨0, [], 0⟩) = 0 then 1 else 1 + eat (t.drop (k + 1)) (o - 1 + many3 (t.getD k ⟨0, [], 0⟩)) := by
            rw [List.drop_eq_getElem_cons hlt, eat]
            simp [hlt]
          have zz1 := el_enc (⟨0, [], 0⟩ : Node) hlt
          (sym =>
             simp [hlb, zz1, enc_Node, isE_Node, dec_Node, node_eta, szN, eqb_Node, ctx_End3_t, ctx_End3_c, ctx_End3_d, ctx_End3_b, ctx_End3_u, con_End3.eq_def, con_many3.eq_def, zaa, zab, zac, zad, zae, zaf, zag, zan, zao, zap, zaq, zar, zas, zat, zav, zaz, zbh, zbm, zbn, zbo, zbp, zbq, zbr, zbs, zbt, zbu, zby, zbz, zca, zcb, zcc, zcd, zcf, zco, zcp, zcr, zcv, zcw, zcx, zdc, zde, zdf, zdg, zdh, zdi, zdu, zdv, zdw, zdx, zdy, zdz, zec, zed, zee, zef, zeg, zeh, zei, zej, zek, zel, zem, zen, zeq, zer, zes, zet, zeu, zev, zew, zex, zey, zez, zfa, zfb, zfc, zfd, zfe, zff, zfh, zfi, zfj, zfk, zfl, zfm, zfn, zfo, zfu, zfv, zfw, zfx, zfy, zfz, zga, zgb, zgc, zgd, zge, zgh, zgi, zgj, zgk, zgl, zgm, zgn, zgo, zgp, zgq, zgr, zgs, zgt, zgu, zgv, zgw, zgx, zgy, zgz, zha, zhb, zhc, zhd, zhe, zhf, zhg, zhh, zhi, zhj, zhk, zhn, zho, zhp, zhq, zhr, zhs, zht, zhu, zhv, zhw, zhx, zhy, zhz, zia, zib, zic, zid, zie, zif, zig, zih, zii, zij, zik, zil, zim, zin, zio, zip, ziq, zir, zis, zit, ziu, ziv, ziw, zix, ziy, ziz, zja, zjb, zjc, zjd, zje, zjf, zjg, zjh, zji, zjj, zjk, zjl, zjm, zjn, zjo, zjp, zjq, zjr, zjs, zjt, zju, zjv, zjw, zjx, zjy, zjz, zka, zkb, zkc, zkd, zke, zkf, zkg, zkh, zki, zkj, zkk, zkq, zkr, zku, zkv, zkw, zkx, zky, zkz, zla, zlb, zlc, zld, zle, zlf, zlg, zlh, zli, zlj, zlk, zll, zlm, zln, zlo, zlp, zlq, zlr, zls, zlt, zlu, zlv, zlw, zlx, zly, zlz, zma, zmb, tab3, tab23, tab28]
             tactic =>
              try simp only [ncast] at *
              try simp only [Int.ofNat_eq_natCast] at *
              try simp (config := { maxSteps := 4000000 }) only [hlb, zz1, enc_Node, isE_Node, dec_Node, node_eta, szN, eqb_Node, con_End3, con_many3, Int.ofNat_eq_natCast, con0, con1, con2, con3, con2t, con3t, symD0, symD1, symD2, symD3, symD4, Nat.reduceAdd, Nat.reduceSub, Nat.reduceMul, Nat.reduceMod, Nat.reduceLT, Nat.reduceLeDiff, Nat.reduceEqDiff, Nat.reduceBEq, Obj.isBox, D.setCell, D.asAgg, setAll, allFit, AV.fits, lk, upd, standAt, freeAt, backTo, packD, Nat.reduceDiv, reduceIte, reduceCtorEq, skIs, skAll, SK.is, aggL, eqbAll, D.eqb, Nat.reduceBNe]
              repeat' (first | with_reducible assumption | with_reducible refine And.intro ?_ ?_ | intro _ | omega | (rw [inR_i64]; omega))
              · rename_i hz
                rw [if_pos hz] at he
                rw [e0]
                omega
              · rename_i hz
                rw [if_neg hz] at he
                exact ⟨(k + 1, o - 1 + many3 (t.getD k ⟨0, [], 0⟩)), by ((try simp only [atHead_mk, killAll, setSlots, updAll, upd, set_fl, setCs, putC, Nat.reduceDiv, Nat.reduceMod, Nat.reduceMul, Nat.reduceAdd, Nat.reduceEqDiff, List.set_cons_zero, List.set_cons_succ, if_true, if_false, reduceIte]); (first | refine Wk.of_fl ?_ | skip); simp only [Wk, wkK, wkCs, wkT, wk1, AV.kept, keptAll, wkO, lk, wkObj, and_true, true_and, and_self, Nat.reduceEqDiff, Nat.reduceLeDiff, if_true, if_false, reduceIte, reduceCtorEq, Option.isSome, false_implies]; try simp [Wk, wkK, wkT, wk1, AV.kept, keptAll, wkO, lk, wkObj]), by simp only; omega, by simp only; omega, by simp only; omega, by simp only; omega, by simp only; omega, by simp only; omega⟩)
        · have hd : t.drop k = [] := List.drop_eq_nil_of_le hlt
          rw [hd, eat] at h5
          (sym =>
             simp [hlb, enc_Node, isE_Node, dec_Node, node_eta, szN, eqb_Node, ctx_End3_t, ctx_End3_c, ctx_End3_d, ctx_End3_b, ctx_End3_u, con_End3.eq_def, con_many3.eq_def, zaa, zab, zac, zad, zae, zaf, zag, zan, zao, zap, zaq, zar, zas, zat, zav, zaz, zbh, zbm, zbn, zbo, zbp, zbq, zbr, zbs, zbt, zbu, zby, zbz, zca, zcb, zcc, zcd, zcf, zco, zcp, zcr, zcv, zcw, zcx, zdc, zde, zdf, zdg, zdh, zdi, zdu, zdv, zdw, zdx, zdy, zdz, zec, zed, zee, zef, zeg, zeh, zei, zej, zek, zel, zem, zen, zeq, zer, zes, zet, zeu, zev, zew, zex, zey, zez, zfa, zfb, zfc, zfd, zfe, zff, zfh, zfi, zfj, zfk, zfl, zfm, zfn, zfo, zfu, zfv, zfw, zfx, zfy, zfz, zga, zgb, zgc, zgd, zge, zgh, zgi, zgj, zgk, zgl, zgm, zgn, zgo, zgp, zgq, zgr, zgs, zgt, zgu, zgv, zgw, zgx, zgy, zgz, zha, zhb, zhc, zhd, zhe, zhf, zhg, zhh, zhi, zhj, zhk, zhn, zho, zhp, zhq, zhr, zhs, zht, zhu, zhv, zhw, zhx, zhy, zhz, zia, zib, zic, zid, zie, zif, zig, zih, zii, zij, zik, zil, zim, zin, zio, zip, ziq, zir, zis, zit, ziu, ziv, ziw, zix, ziy, ziz, zja, zjb, zjc, zjd, zje, zjf, zjg, zjh, zji, zjj, zjk, zjl, zjm, zjn, zjo, zjp, zjq, zjr, zjs, zjt, zju, zjv, zjw, zjx, zjy, zjz, zka, zkb, zkc, zkd, zke, zkf, zkg, zkh, zki, zkj, zkk, zkq, zkr, zku, zkv, zkw, zkx, zky, zkz, zla, zlb, zlc, zld, zle, zlf, zlg, zlh, zli, zlj, zlk, zll, zlm, zln, zlo, zlp, zlq, zlr, zls, zlt, zlu, zlv, zlw, zlx, zly, zlz, zma, zmb, tab3, tab23, tab28]
             tactic =>
              try simp only [ncast] at *
              try simp only [Int.ofNat_eq_natCast] at *
              try simp (config := { maxSteps := 4000000 }) only [hlb, enc_Node, isE_Node, dec_Node, node_eta, szN, eqb_Node, con_End3, con_many3, Int.ofNat_eq_natCast, con0, con1, con2, con3, con2t, con3t, symD0, symD1, symD2, symD3, symD4, Nat.reduceAdd, Nat.reduceSub, Nat.reduceMul, Nat.reduceMod, Nat.reduceLT, Nat.reduceLeDiff, Nat.reduceEqDiff, Nat.reduceBEq, Obj.isBox, D.setCell, D.asAgg, setAll, allFit, AV.fits, lk, upd, standAt, freeAt, backTo, packD, Nat.reduceDiv, reduceIte, reduceCtorEq, skIs, skAll, SK.is, aggL, eqbAll, D.eqb, Nat.reduceBNe]
              rw [e0]
              omega)
      · unfold end3
        rw [if_pos (.inl ‹_›)])

end Go.Am.Ty
