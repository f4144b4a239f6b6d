/- Part Tb of a claim: a machine over the model on plain data, what it makes of the program, plain laws. -/
import Derived.Test.YtdelhhjhkjcpnaaProg
import Derived.KernelRfl
import Derived.Shelf.Abstract
import Derived.Tactics
import Derived.Tactics2
import Derived.Laws.StructEq
import Derived.Laws.Tables
import Derived.Test.YtdelhhjhkjcpnaaW1
import Derived.Test.YtdelhhjhkjcpnaaW3
namespace Go.VM
def T0 : Ty := .prod (.int .i64) (.prod (.int .i64) (.prod (.bool) (.int .u8)))
def T1 : Ty := .prod (.int .i64) (.prod (.int .i64) (.prod (.int .i64) (.int .i64)))
def T2 : Ty := .prod (.int .i64) (.prod (.int .i64) (.prod (.int .i64) (.prod (.bool) (.prod (.int .i64) (.prod (.int .i64) (.prod (.int .i64) (.prod (.int .i64) (.int .i64))))))))
def T3 : Ty := .prod (.int .i64) (.prod (.int .i64) (.prod (.int .i64) (.prod (.int .i64) (.prod (.int .i64) (.slice T2)))))
def T4 : Ty := .slice (.int .i64)
def T5 : Ty := .prod (.int .i64) (.prod (.int .i64) (.prod (.int .i64) (.prod (.int .i64) (.prod (.int .i64) (.prod (.slice T2) (.slice T4))))))
def T6 : Ty := .prod (.int .i64) (.int .i64)
def T7 : Ty := .prod (.slice (.int .i64)) (.prod (.slice (.int .i64)) (.bool))
def T8 : Ty := .prod (.slice T7) (.slice T6)
def T9 : Ty := .prod (.int .i64) (.prod (.int .i64) (.bool))
def T10 : Ty := .prod (.slice T9) (.int .i64)
def T11 : Ty := .prod (.int .i64) (.prod (.int .i64) (.int .i64))
def T12 : Ty := .prod (.slice (.int .i64)) (.slice (.int .i64))
def T13 : Ty := .prod (.slice T9) (.prod (.int .i64) (.prod (.int .i64) (.int .i64)))
def T14 : Ty := .prod (.int .i64) (.prod (.int .i64) (.prod (.int .i64) (.prod (.int .i64) (.prod (.int .i64) (.prod (.slice T2) (.prod (.slice T4) (.slice (.int .i64))))))))
def tabL : List (Nat × TI) := [
  (1, ⟨1, 8, false, [.nilFunc], [], 0, 0, 0, 5, false, [none], none⟩),
  (2, ⟨1, 8, false, [.int .i64 0], [], 0, 0, 0, 10, false, [some (.int .i64)], some (.int .i64)⟩),
  (3, ⟨1, 8, false, [.int .i64 0], [], 0, 0, 0, 10, false, [some (.int .i64)], some (.int .i64)⟩),
  (4, ⟨1, 1, false, [.bool false], [], 0, 0, 0, 4, false, [some (.bool)], some (.bool)⟩),
  (5, ⟨1, 1, false, [.int .u8 0], [], 0, 0, 0, 12, false, [some (.int .u8)], some (.int .u8)⟩),
  (6, ⟨1, 1, false, [.int .u8 0], [], 0, 0, 0, 12, false, [some (.int .u8)], some (.int .u8)⟩),
  (7, ⟨4, 24, true, [.int .i64 0, .int .i64 0, .bool false, .int .u8 0], [(0, 1), (1, 1), (2, 1), (3, 1)], 0, 0, 0, 1, false, [some (.int .i64), some (.int .i64), some (.bool), some (.int .u8)], some T0⟩),
  (8, ⟨4, 24, true, [.int .i64 0, .int .i64 0, .bool false, .int .u8 0], [(0, 1), (1, 1), (2, 1), (3, 1)], 0, 0, 0, 1, false, [some (.int .i64), some (.int .i64), some (.bool), some (.int .u8)], some T0⟩),
  (12, ⟨1, 8, false, [.int .u64 0], [], 0, 0, 0, 11, false, [some (.int .u64)], some (.int .u64)⟩),
  (15, ⟨1, 8, false, [.pointer none], [], 0, 0, 0, 6, false, [none], none⟩),
  (16, ⟨1, 8, false, [.pointer none], [], 0, 0, 0, 6, false, [none], none⟩),
  (17, ⟨1, 8, false, [.pointer none], [], 0, 0, 0, 6, false, [none], none⟩),
  (18, ⟨1, 8, true, [.pointer none], [(0, 1)], 0, 0, 0, 1, false, [none], none⟩),
  (19, ⟨1, 8, true, [.pointer none], [(0, 1)], 0, 0, 0, 1, false, [none], none⟩),
  (21, ⟨1, 4, false, [.int .i32 0], [], 0, 0, 0, 12, false, [some (.int .i32)], some (.int .i32)⟩),
  (22, ⟨4, 32, true, [.int .i64 0, .int .i64 0, .int .i64 0, .int .i64 0], [], 3, 1, 4, 2, false, [some (.int .i64), some (.int .i64), some (.int .i64), some (.int .i64)], some T1⟩),
  (23, ⟨1, 24, false, [.slice none 0 0], [], 50, 9, 0, 3, false, [some (.slice T2)], some (.slice T2)⟩),
  (24, ⟨6, 64, true, [.int .i64 0, .int .i64 0, .int .i64 0, .int .i64 0, .int .i64 0, .slice none 0 0], [(0, 1), (1, 4), (5, 1)], 0, 0, 0, 1, false, [some (.int .i64), some (.int .i64), some (.int .i64), some (.int .i64), some (.int .i64), some (.slice T2)], some T3⟩),
  (25, ⟨6, 64, true, [.int .i64 0, .int .i64 0, .int .i64 0, .int .i64 0, .int .i64 0, .slice none 0 0], [(0, 1), (1, 4), (5, 1)], 0, 0, 0, 1, false, [some (.int .i64), some (.int .i64), some (.int .i64), some (.int .i64), some (.int .i64), some (.slice T2)], some T3⟩),
  (26, ⟨1, 24, false, [.slice none 0 0], [], 41, 1, 0, 3, false, [some (.slice T4)], some (.slice T4)⟩),
  (27, ⟨7, 88, true, [.int .i64 0, .int .i64 0, .int .i64 0, .int .i64 0, .int .i64 0, .slice none 0 0, .slice none 0 0], [(0, 6), (6, 1)], 0, 0, 0, 1, false, [some (.int .i64), some (.int .i64), some (.int .i64), some (.int .i64), some (.int .i64), some (.slice T2), some (.slice T4)], some T5⟩),
  (28, ⟨7, 88, true, [.int .i64 0, .int .i64 0, .int .i64 0, .int .i64 0, .int .i64 0, .slice none 0 0, .slice none 0 0], [(0, 6), (6, 1)], 0, 0, 0, 1, false, [some (.int .i64), some (.int .i64), some (.int .i64), some (.int .i64), some (.int .i64), some (.slice T2), some (.slice T4)], some T5⟩),
  (29, ⟨1, 8, false, [.nilFunc], [], 0, 0, 0, 5, false, [none], none⟩),
  (30, ⟨1, 8, false, [.nilFunc], [], 0, 0, 0, 5, false, [none], none⟩),
  (31, ⟨1, 8, false, [.nilFunc], [], 0, 0, 0, 5, false, [none], none⟩),
  (32, ⟨1, 24, false, [.slice none 0 0], [], 39, 2, 0, 3, false, [some (.slice T6)], some (.slice T6)⟩),
  (33, ⟨1, 8, false, [.int .i64 0], [], 0, 0, 0, 10, false, [some (.int .i64)], some (.int .i64)⟩),
  (35, ⟨1, 8, false, [.nilFunc], [], 0, 0, 0, 5, false, [none], none⟩),
  (37, ⟨1, 8, false, [.nilFunc], [], 0, 0, 0, 5, false, [none], none⟩),
  (38, ⟨1, 8, false, [.nilFunc], [], 0, 0, 0, 5, false, [none], none⟩),
  (39, ⟨2, 16, true, [.int .i64 0, .int .i64 0], [], 3, 1, 2, 2, true, [some (.int .i64), some (.int .i64)], some T6⟩),
  (40, ⟨1, 8, false, [.nilFunc], [], 0, 0, 0, 5, false, [none], none⟩),
  (41, ⟨1, 24, false, [.slice none 0 0], [], 3, 1, 0, 3, false, [some (.slice (.int .i64))], some (.slice (.int .i64))⟩),
  (43, ⟨1, 8, false, [.nilFunc], [], 0, 0, 0, 5, false, [none], none⟩),
  (44, ⟨1, 8, false, [.nilFunc], [], 0, 0, 0, 5, false, [none], none⟩),
  (45, ⟨1, 8, false, [.nilFunc], [], 0, 0, 0, 5, false, [none], none⟩),
  (46, ⟨1, 8, false, [.nilFunc], [], 0, 0, 0, 5, false, [none], none⟩),
  (47, ⟨1, 8, false, [.nilFunc], [], 0, 0, 0, 5, false, [none], none⟩),
  (48, ⟨1, 8, false, [.nilFunc], [], 0, 0, 0, 5, false, [none], none⟩),
  (49, ⟨9, 72, true, [.int .i64 0, .int .i64 0, .int .i64 0, .bool false, .int .i64 0, .int .i64 0, .int .i64 0, .int .i64 0, .int .i64 0], [(0, 1), (1, 1), (2, 1), (3, 1), (4, 1), (5, 1), (6, 1), (7, 1), (8, 1)], 0, 0, 0, 1, false, [some (.int .i64), some (.int .i64), some (.int .i64), some (.bool), some (.int .i64), some (.int .i64), some (.int .i64), some (.int .i64), some (.int .i64)], some T2⟩),
  (50, ⟨9, 72, true, [.int .i64 0, .int .i64 0, .int .i64 0, .bool false, .int .i64 0, .int .i64 0, .int .i64 0, .int .i64 0, .int .i64 0], [(0, 1), (1, 1), (2, 1), (3, 1), (4, 1), (5, 1), (6, 1), (7, 1), (8, 1)], 0, 0, 0, 1, false, [some (.int .i64), some (.int .i64), some (.int .i64), some (.bool), some (.int .i64), some (.int .i64), some (.int .i64), some (.int .i64), some (.int .i64)], some T2⟩),
  (51, ⟨1, 24, false, [.slice none 0 0], [], 136, 3, 0, 3, false, [some (.slice T7)], some (.slice T7)⟩),
  (52, ⟨1, 24, false, [.slice none 0 0], [], 67, 2, 0, 3, false, [some (.slice T6)], some (.slice T6)⟩),
  (53, ⟨2, 48, true, [.slice none 0 0, .slice none 0 0], [(0, 1), (1, 1)], 0, 0, 0, 1, false, [some (.slice T7), some (.slice T6)], some T8⟩),
  (54, ⟨2, 48, true, [.slice none 0 0, .slice none 0 0], [(0, 1), (1, 1)], 0, 0, 0, 1, false, [some (.slice T7), some (.slice T6)], some T8⟩),
  (55, ⟨2, 16, true, [.int .i64 0, .int .i64 0], [(0, 1), (1, 1)], 0, 0, 0, 1, false, [some (.int .i64), some (.int .i64)], some T6⟩),
  (56, ⟨2, 16, true, [.int .i64 0, .int .i64 0], [(0, 1), (1, 1)], 0, 0, 0, 1, false, [some (.int .i64), some (.int .i64)], some T6⟩),
  (57, ⟨1, 8, false, [.nilFunc], [], 0, 0, 0, 5, false, [none], none⟩),
  (58, ⟨1, 8, false, [.nilFunc], [], 0, 0, 0, 5, false, [none], none⟩),
  (60, ⟨1, 8, false, [.nilFunc], [], 0, 0, 0, 5, false, [none], none⟩),
  (62, ⟨1, 8, false, [.nilFunc], [], 0, 0, 0, 5, false, [none], none⟩),
  (63, ⟨1, 8, false, [.nilFunc], [], 0, 0, 0, 5, false, [none], none⟩),
  (64, ⟨1, 8, false, [.nilFunc], [], 0, 0, 0, 5, false, [none], none⟩),
  (65, ⟨1, 8, false, [.nilFunc], [], 0, 0, 0, 5, false, [none], none⟩),
  (66, ⟨2, 16, true, [.int .i64 0, .int .i64 0], [(0, 1), (1, 1)], 0, 0, 0, 1, false, [some (.int .i64), some (.int .i64)], some T6⟩),
  (67, ⟨2, 16, true, [.int .i64 0, .int .i64 0], [(0, 1), (1, 1)], 0, 0, 0, 1, true, [some (.int .i64), some (.int .i64)], some T6⟩),
  (68, ⟨1, 8, false, [.int .u64 0], [], 0, 0, 0, 11, false, [some (.int .u64)], some (.int .u64)⟩),
  (69, ⟨1, 8, false, [.nilFunc], [], 0, 0, 0, 5, false, [none], none⟩),
  (70, ⟨1, 24, false, [.slice none 0 0], [], 80, 3, 0, 3, false, [some (.slice T9)], some (.slice T9)⟩),
  (71, ⟨2, 32, true, [.slice none 0 0, .int .i64 0], [(0, 1), (1, 1)], 0, 0, 0, 1, false, [some (.slice T9), some (.int .i64)], some T10⟩),
  (72, ⟨2, 32, true, [.slice none 0 0, .int .i64 0], [(0, 1), (1, 1)], 0, 0, 0, 1, false, [some (.slice T9), some (.int .i64)], some T10⟩),
  (73, ⟨1, 8, false, [.nilFunc], [], 0, 0, 0, 5, false, [none], none⟩),
  (75, ⟨1, 8, false, [.nilFunc], [], 0, 0, 0, 5, false, [none], none⟩),
  (76, ⟨1, 8, false, [.nilFunc], [], 0, 0, 0, 5, false, [none], none⟩),
  (77, ⟨1, 8, false, [.nilFunc], [], 0, 0, 0, 5, false, [none], none⟩),
  (78, ⟨1, 8, false, [.nilFunc], [], 0, 0, 0, 5, false, [none], none⟩),
  (79, ⟨3, 24, true, [.int .i64 0, .int .i64 0, .bool false], [(0, 1), (1, 1), (2, 1)], 0, 0, 0, 1, false, [some (.int .i64), some (.int .i64), some (.bool)], some T9⟩),
  (80, ⟨3, 24, true, [.int .i64 0, .int .i64 0, .bool false], [(0, 1), (1, 1), (2, 1)], 0, 0, 0, 1, false, [some (.int .i64), some (.int .i64), some (.bool)], some T9⟩),
  (81, ⟨1, 8, false, [.nilFunc], [], 0, 0, 0, 5, false, [none], none⟩),
  (82, ⟨1, 24, false, [.slice none 0 0], [], 4, 1, 0, 3, false, [some (.slice .bool)], some (.slice .bool)⟩),
  (83, ⟨1, 8, false, [.nilFunc], [], 0, 0, 0, 5, false, [none], none⟩),
  (84, ⟨1, 8, false, [.nilFunc], [], 0, 0, 0, 5, false, [none], none⟩),
  (85, ⟨1, 8, false, [.nilFunc], [], 0, 0, 0, 5, false, [none], none⟩),
  (86, ⟨3, 24, true, [.int .i64 0, .int .i64 0, .int .i64 0], [(0, 1), (1, 1), (2, 1)], 0, 0, 0, 1, false, [some (.int .i64), some (.int .i64), some (.int .i64)], some T11⟩),
  (87, ⟨3, 24, true, [.int .i64 0, .int .i64 0, .int .i64 0], [(0, 1), (1, 1), (2, 1)], 0, 0, 0, 1, false, [some (.int .i64), some (.int .i64), some (.int .i64)], some T11⟩),
  (89, ⟨1, 8, false, [.nilFunc], [], 0, 0, 0, 5, false, [none], none⟩),
  (90, ⟨1, 8, false, [.nilFunc], [], 0, 0, 0, 5, false, [none], none⟩),
  (91, ⟨2, 48, true, [.slice none 0 0, .slice none 0 0], [(0, 1), (1, 1)], 0, 0, 0, 1, false, [some (.slice (.int .i64)), some (.slice (.int .i64))], some T12⟩),
  (92, ⟨2, 48, true, [.slice none 0 0, .slice none 0 0], [(0, 1), (1, 1)], 0, 0, 0, 1, false, [some (.slice (.int .i64)), some (.slice (.int .i64))], some T12⟩),
  (93, ⟨1, 8, false, [.nilFunc], [], 0, 0, 0, 5, false, [none], none⟩),
  (94, ⟨1, 8, false, [.nilFunc], [], 0, 0, 0, 5, false, [none], none⟩),
  (95, ⟨4, 48, true, [.slice none 0 0, .int .i64 0, .int .i64 0, .int .i64 0], [(0, 2), (2, 1), (3, 1)], 0, 0, 0, 1, false, [some (.slice T9), some (.int .i64), some (.int .i64), some (.int .i64)], some T13⟩),
  (96, ⟨4, 48, true, [.slice none 0 0, .int .i64 0, .int .i64 0, .int .i64 0], [(0, 2), (2, 1), (3, 1)], 0, 0, 0, 1, false, [some (.slice T9), some (.int .i64), some (.int .i64), some (.int .i64)], some T13⟩),
  (97, ⟨1, 24, false, [.slice none 0 0], [], 101, 4, 0, 3, false, [some (.slice T1)], some (.slice T1)⟩),
  (99, ⟨1, 8, false, [.nilFunc], [], 0, 0, 0, 5, false, [none], none⟩),
  (100, ⟨4, 32, true, [.int .i64 0, .int .i64 0, .int .i64 0, .int .i64 0], [(0, 1), (1, 1), (2, 1), (3, 1)], 0, 0, 0, 1, false, [some (.int .i64), some (.int .i64), some (.int .i64), some (.int .i64)], some T1⟩),
  (101, ⟨4, 32, true, [.int .i64 0, .int .i64 0, .int .i64 0, .int .i64 0], [(0, 1), (1, 1), (2, 1), (3, 1)], 0, 0, 0, 1, true, [some (.int .i64), some (.int .i64), some (.int .i64), some (.int .i64)], some T1⟩),
  (102, ⟨1, 8, false, [.nilFunc], [], 0, 0, 0, 5, false, [none], none⟩),
  (103, ⟨1, 8, false, [.nilFunc], [], 0, 0, 0, 5, false, [none], none⟩),
  (104, ⟨1, 8, false, [.nilFunc], [], 0, 0, 0, 5, false, [none], none⟩),
  (105, ⟨1, 8, false, [.nilFunc], [], 0, 0, 0, 5, false, [none], none⟩),
  (106, ⟨1, 8, false, [.nilFunc], [], 0, 0, 0, 5, false, [none], none⟩),
  (107, ⟨1, 24, false, [.slice none 0 0], [], 72, 2, 0, 3, false, [some (.slice T10)], some (.slice T10)⟩),
  (108, ⟨1, 24, false, [.slice none 0 0], [], 112, 3, 0, 3, false, [some (.slice T11)], some (.slice T11)⟩),
  (110, ⟨1, 8, false, [.nilFunc], [], 0, 0, 0, 5, false, [none], none⟩),
  (111, ⟨3, 24, true, [.int .i64 0, .int .i64 0, .int .i64 0], [(0, 1), (1, 2)], 0, 0, 0, 1, false, [some (.int .i64), some (.int .i64), some (.int .i64)], some T11⟩),
  (112, ⟨3, 24, true, [.int .i64 0, .int .i64 0, .int .i64 0], [(0, 1), (1, 2)], 0, 0, 0, 1, true, [some (.int .i64), some (.int .i64), some (.int .i64)], some T11⟩),
  (113, ⟨1, 8, false, [.nilFunc], [], 0, 0, 0, 5, false, [none], none⟩),
  (115, ⟨1, 8, false, [.nilFunc], [], 0, 0, 0, 5, false, [none], none⟩),
  (116, ⟨1, 8, false, [.nilFunc], [], 0, 0, 0, 5, false, [none], none⟩),
  (117, ⟨1, 8, false, [.pointer none], [], 0, 0, 0, 6, false, [none], none⟩),
  (119, ⟨1, 8, false, [.nilFunc], [], 0, 0, 0, 5, false, [none], none⟩),
  (120, ⟨1, 8, false, [.nilFunc], [], 0, 0, 0, 5, false, [none], none⟩),
  (121, ⟨1, 8, false, [.nilFunc], [], 0, 0, 0, 5, false, [none], none⟩),
  (122, ⟨1, 8, false, [.nilFunc], [], 0, 0, 0, 5, false, [none], none⟩),
  (123, ⟨1, 8, false, [.nilFunc], [], 0, 0, 0, 5, false, [none], none⟩),
  (124, ⟨1, 8, false, [.nilFunc], [], 0, 0, 0, 5, false, [none], none⟩),
  (125, ⟨1, 8, false, [.nilFunc], [], 0, 0, 0, 5, false, [none], none⟩),
  (126, ⟨1, 8, false, [.nilFunc], [], 0, 0, 0, 5, false, [none], none⟩),
  (127, ⟨1, 8, false, [.nilFunc], [], 0, 0, 0, 5, false, [none], none⟩),
  (128, ⟨1, 8, false, [.nilFunc], [], 0, 0, 0, 5, false, [none], none⟩),
  (129, ⟨1, 8, false, [.nilFunc], [], 0, 0, 0, 5, false, [none], none⟩),
  (130, ⟨9, 72, true, [.int .i64 0, .int .i64 0, .int .i64 0, .bool false, .int .i64 0, .int .i64 0, .int .i64 0, .int .i64 0, .int .i64 0], [(0, 9)], 0, 0, 0, 1, false, [some (.int .i64), some (.int .i64), some (.int .i64), some (.bool), some (.int .i64), some (.int .i64), some (.int .i64), some (.int .i64), some (.int .i64)], some T2⟩),
  (131, ⟨9, 72, true, [.int .i64 0, .int .i64 0, .int .i64 0, .bool false, .int .i64 0, .int .i64 0, .int .i64 0, .int .i64 0, .int .i64 0], [(0, 9)], 0, 0, 0, 1, false, [some (.int .i64), some (.int .i64), some (.int .i64), some (.bool), some (.int .i64), some (.int .i64), some (.int .i64), some (.int .i64), some (.int .i64)], some T2⟩),
  (132, ⟨1, 8, false, [.nilFunc], [], 0, 0, 0, 5, false, [none], none⟩),
  (133, ⟨1, 8, false, [.nilFunc], [], 0, 0, 0, 5, false, [none], none⟩),
  (134, ⟨1, 8, false, [.nilFunc], [], 0, 0, 0, 5, false, [none], none⟩),
  (135, ⟨3, 56, true, [.slice none 0 0, .slice none 0 0, .bool false], [(0, 1), (1, 1), (2, 1)], 0, 0, 0, 1, false, [some (.slice (.int .i64)), some (.slice (.int .i64)), some (.bool)], some T7⟩),
  (136, ⟨3, 56, true, [.slice none 0 0, .slice none 0 0, .bool false], [(0, 1), (1, 1), (2, 1)], 0, 0, 0, 1, false, [some (.slice (.int .i64)), some (.slice (.int .i64)), some (.bool)], some T7⟩),
  (137, ⟨1, 8, false, [.nilFunc], [], 0, 0, 0, 5, false, [none], none⟩),
  (138, ⟨1, 8, false, [.int .i64 0], [], 0, 0, 0, 10, false, [some (.int .i64)], some (.int .i64)⟩),
  (139, ⟨1, 8, false, [.nilFunc], [], 0, 0, 0, 5, false, [none], none⟩),
  (140, ⟨1, 8, false, [.nilFunc], [], 0, 0, 0, 5, false, [none], none⟩),
  (141, ⟨1, 8, false, [.nilFunc], [], 0, 0, 0, 5, false, [none], none⟩),
  (142, ⟨1, 8, false, [.nilFunc], [], 0, 0, 0, 5, false, [none], none⟩),
  (143, ⟨1, 8, false, [.nilFunc], [], 0, 0, 0, 5, false, [none], none⟩),
  (144, ⟨1, 8, false, [.nilFunc], [], 0, 0, 0, 5, false, [none], none⟩),
  (145, ⟨1, 8, false, [.nilFunc], [], 0, 0, 0, 5, false, [none], none⟩),
  (146, ⟨1, 8, false, [.nilFunc], [], 0, 0, 0, 5, false, [none], none⟩),
  (148, ⟨1, 8, false, [.nilFunc], [], 0, 0, 0, 5, false, [none], none⟩),
  (149, ⟨1, 8, false, [.nilFunc], [], 0, 0, 0, 5, false, [none], none⟩),
  (150, ⟨1, 8, false, [.nilFunc], [], 0, 0, 0, 5, false, [none], none⟩),
  (151, ⟨1, 8, false, [.nilFunc], [], 0, 0, 0, 5, false, [none], none⟩),
  (152, ⟨1, 8, false, [.nilFunc], [], 0, 0, 0, 5, false, [none], none⟩),
  (153, ⟨1, 8, false, [.nilFunc], [], 0, 0, 0, 5, false, [none], none⟩),
  (154, ⟨1, 8, false, [.nilFunc], [], 0, 0, 0, 5, false, [none], none⟩),
  (155, ⟨1, 8, false, [.nilFunc], [], 0, 0, 0, 5, false, [none], none⟩),
  (156, ⟨1, 8, false, [.nilFunc], [], 0, 0, 0, 5, false, [none], none⟩),
  (157, ⟨1, 8, false, [.nilFunc], [], 0, 0, 0, 5, false, [none], none⟩),
  (158, ⟨1, 8, false, [.nilFunc], [], 0, 0, 0, 5, false, [none], none⟩),
  (159, ⟨1, 8, false, [.nilFunc], [], 0, 0, 0, 5, false, [none], none⟩),
  (160, ⟨8, 112, true, [.int .i64 0, .int .i64 0, .int .i64 0, .int .i64 0, .int .i64 0, .slice none 0 0, .slice none 0 0, .slice none 0 0], [(0, 6), (6, 1), (7, 1)], 0, 0, 0, 1, false, [some (.int .i64), some (.int .i64), some (.int .i64), some (.int .i64), some (.int .i64), some (.slice T2), some (.slice T4), some (.slice (.int .i64))], some T14⟩),
  (161, ⟨8, 112, true, [.int .i64 0, .int .i64 0, .int .i64 0, .int .i64 0, .int .i64 0, .slice none 0 0, .slice none 0 0, .slice none 0 0], [(0, 6), (6, 1), (7, 1)], 0, 0, 0, 1, false, [some (.int .i64), some (.int .i64), some (.int .i64), some (.int .i64), some (.int .i64), some (.slice T2), some (.slice T4), some (.slice (.int .i64))], some T14⟩),
  (162, ⟨1, 8, false, [.nilFunc], [], 0, 0, 0, 5, false, [none], none⟩),
  (163, ⟨1, 8, false, [.nilFunc], [], 0, 0, 0, 5, false, [none], none⟩),
  (164, ⟨1, 8, false, [.nilFunc], [], 0, 0, 0, 5, false, [none], none⟩),
  (165, ⟨1, 8, false, [.nilFunc], [], 0, 0, 0, 5, false, [none], none⟩),
  (166, ⟨1, 8, false, [.nilFunc], [], 0, 0, 0, 5, false, [none], none⟩),
  (167, ⟨1, 8, false, [.nilFunc], [], 0, 0, 0, 5, false, [none], none⟩),
  (168, ⟨1, 8, false, [.nilFunc], [], 0, 0, 0, 5, false, [none], none⟩),
  (169, ⟨1, 8, false, [.nilFunc], [], 0, 0, 0, 5, false, [none], none⟩),
  (170, ⟨1, 8, false, [.nilFunc], [], 0, 0, 0, 5, false, [none], none⟩),
  (171, ⟨1, 8, false, [.nilFunc], [], 0, 0, 0, 5, false, [none], none⟩),
  (172, ⟨1, 8, false, [.nilFunc], [], 0, 0, 0, 5, false, [none], none⟩),
  (173, ⟨1, 8, false, [.nilFunc], [], 0, 0, 0, 5, false, [none], none⟩),
  (174, ⟨1, 8, false, [.nilFunc], [], 0, 0, 0, 5, false, [none], none⟩),
  (175, ⟨1, 8, false, [.nilFunc], [], 0, 0, 0, 5, false, [none], none⟩),
  (176, ⟨1, 8, false, [.nilFunc], [], 0, 0, 0, 5, false, [none], none⟩),
  (177, ⟨1, 8, false, [.nilFunc], [], 0, 0, 0, 5, false, [none], none⟩),
  (178, ⟨1, 8, false, [.nilFunc], [], 0, 0, 0, 5, false, [none], none⟩),
  (179, ⟨1, 8, false, [.nilFunc], [], 0, 0, 0, 5, false, [none], none⟩),
  (180, ⟨1, 8, false, [.nilFunc], [], 0, 0, 0, 5, false, [none], none⟩),
  (181, ⟨1, 8, false, [.nilFunc], [], 0, 0, 0, 5, false, [none], none⟩),
  (182, ⟨1, 8, false, [.nilFunc], [], 0, 0, 0, 5, false, [none], none⟩),
  (183, ⟨1, 8, false, [.nilFunc], [], 0, 0, 0, 5, false, [none], none⟩),
  (184, ⟨1, 8, false, [.nilFunc], [], 0, 0, 0, 5, false, [none], none⟩),
  (185, ⟨1, 8, false, [.nilFunc], [], 0, 0, 0, 5, false, [none], none⟩),
  (186, ⟨1, 8, false, [.nilFunc], [], 0, 0, 0, 5, false, [none], none⟩),
  (187, ⟨1, 8, false, [.nilFunc], [], 0, 0, 0, 5, false, [none], none⟩),
  (188, ⟨1, 8, false, [.nilFunc], [], 0, 0, 0, 5, false, [none], none⟩),
  (189, ⟨1, 24, false, [.slice none 0 0], [], 67, 2, 0, 3, false, [some (.slice T6)], some (.slice T6)⟩),
  (190, ⟨1, 8, false, [.nilFunc], [], 0, 0, 0, 5, false, [none], none⟩),
  (191, ⟨1, 8, false, [.nilFunc], [], 0, 0, 0, 5, false, [none], none⟩),
  (194, ⟨0, 0, true, [], [], 16, 1, 0, 2, false, [], none⟩),
  (195, ⟨0, 0, true, [], [(0, 0)], 0, 0, 0, 1, false, [], none⟩),
  (196, ⟨0, 0, true, [], [(0, 0)], 0, 0, 0, 1, false, [], none⟩),
  (197, ⟨1, 4, false, [.int .u32 0], [], 0, 0, 0, 12, false, [some (.int .u32)], some (.int .u32)⟩),
  (198, ⟨1, 1, false, [.int .u8 0], [], 0, 0, 0, 12, false, [some (.int .u8)], some (.int .u8)⟩),
  (199, ⟨1, 1, false, [.int .u8 0], [], 0, 0, 0, 12, false, [some (.int .u8)], some (.int .u8)⟩),
  (200, ⟨1, 8, false, [.nilFunc], [], 0, 0, 0, 5, false, [none], none⟩),
  (201, ⟨1, 8, false, [.pointer none], [], 0, 0, 0, 6, false, [none], none⟩),
  (202, ⟨1, 4, false, [.int .i32 0], [], 0, 0, 0, 12, false, [some (.int .i32)], some (.int .i32)⟩),
  (203, ⟨1, 4, false, [.int .i32 0], [], 0, 0, 0, 12, false, [some (.int .i32)], some (.int .i32)⟩),
  (204, ⟨11, 48, true, [.int .u64 0, .int .u64 0, .int .u32 0, .int .u8 0, .int .u8 0, .int .u8 0, .int .u8 0, .nilFunc, .pointer none, .int .i32 0, .int .i32 0], [(0, 1), (1, 1), (2, 1), (3, 1), (4, 1), (5, 1), (6, 1), (7, 1), (8, 1), (9, 1), (10, 1)], 0, 0, 0, 1, false, [some (.int .u64), some (.int .u64), some (.int .u32), some (.int .u8), some (.int .u8), some (.int .u8), some (.int .u8), none, none, some (.int .i32), some (.int .i32)], none⟩),
  (205, ⟨11, 48, true, [.int .u64 0, .int .u64 0, .int .u32 0, .int .u8 0, .int .u8 0, .int .u8 0, .int .u8 0, .nilFunc, .pointer none, .int .i32 0, .int .i32 0], [(0, 1), (1, 1), (2, 1), (3, 1), (4, 1), (5, 1), (6, 1), (7, 1), (8, 1), (9, 1), (10, 1)], 0, 0, 0, 1, false, [some (.int .u64), some (.int .u64), some (.int .u32), some (.int .u8), some (.int .u8), some (.int .u8), some (.int .u8), none, none, some (.int .i32), some (.int .i32)], none⟩)]
def tab (t : Nat) : Option TI := findTI t tabL
end Go.VM

/-
The program of the seat: its table of types; what a walk of one of its functions is.
-/
set_option linter.unusedVariables false
set_option linter.unusedSimpArgs false
namespace Go.VM
open Go.RowKit Go.Proofs

theorem kinds_int : ∀ {n : Nat} {us : List Value}, kindsOK us (List.replicate n (.int .i64 0)) = true → ∃ xs : List Int, us = xs.map (.int .i64) ∧ xs.length = n
  | 0, [], _ => ⟨[], rfl, rfl⟩
  | 0, _ :: _, h => by simp [kindsOK] at h
  | n + 1, [], h => by simp [List.replicate, kindsOK] at h
  | n + 1, u :: r, h => by
    simp only [List.replicate] at h
    cases u with
    | int k x =>
      simp only [kindsOK] at h
      split at h
      · rename_i hk
        obtain ⟨xs, h1, h2⟩ := kinds_int h
        have : k = .i64 := by simpa using hk
        subst this
        exact ⟨x :: xs, by simp [h1], by simp [h2]⟩
      · cases h
    | _ => simp [kindsOK] at h

theorem tab_chk : (tabL.all fun x => chkTI Try.prog x.1 x.2) = true := by decide +kernel
theorem mixed : Try.prog.follows .mixedOrders = true := by kernel_rfl


theorem eqB2 (t : Nat) (hg : Try.prog.eqGuardType Try.prog.depth t = false)
    (h : ∀ (a b c d : Int) (w : World), (Op.equalIn 10000 t (.agg #[.int .i64 a, .int .i64 b]) (.agg #[.int .i64 c, .int .i64 d])).run Try.prog w = .ok (a == c && b == d) w) : EqOK Try.prog t [.int .i64 0, .int .i64 0] := by
  refine ⟨fun us vs hu hv w => ?_, hg⟩
  obtain ⟨xs, rfl, hx⟩ := kinds_int (n := 2) hu
  obtain ⟨ys, rfl, hy⟩ := kinds_int (n := 2) hv
  match xs, ys, hx, hy with
  | [a, b], [c, d], _, _ => exact ⟨_, h a b c d w, by simp⟩
theorem eqB3 (t : Nat) (hg : Try.prog.eqGuardType Try.prog.depth t = false)
    (h : ∀ (a b e c d f : Int) (w : World), (Op.equalIn 10000 t (.agg #[.int .i64 a, .int .i64 b, .int .i64 e]) (.agg #[.int .i64 c, .int .i64 d, .int .i64 f])).run Try.prog w = .ok (a == c && b == d && e == f) w) : EqOK Try.prog t [.int .i64 0, .int .i64 0, .int .i64 0] := by
  refine ⟨fun us vs hu hv w => ?_, hg⟩
  obtain ⟨xs, rfl, hx⟩ := kinds_int (n := 3) hu
  obtain ⟨ys, rfl, hy⟩ := kinds_int (n := 3) hv
  match xs, ys, hx, hy with
  | [a, b, e], [c, d, f], _, _ => exact ⟨_, h a b e c d f w, by simp [and_assoc]⟩
theorem eqB4 (t : Nat) (hg : Try.prog.eqGuardType Try.prog.depth t = false)
    (h : ∀ (a b e g c d f k : Int) (w : World), (Op.equalIn 10000 t (.agg #[.int .i64 a, .int .i64 b, .int .i64 e, .int .i64 g]) (.agg #[.int .i64 c, .int .i64 d, .int .i64 f, .int .i64 k])).run Try.prog w = .ok (a == c && b == d && e == f && g == k) w) : EqOK Try.prog t [.int .i64 0, .int .i64 0, .int .i64 0, .int .i64 0] := by
  refine ⟨fun us vs hu hv w => ?_, hg⟩
  obtain ⟨xs, rfl, hx⟩ := kinds_int (n := 4) hu
  obtain ⟨ys, rfl, hy⟩ := kinds_int (n := 4) hv
  match xs, ys, hx, hy with
  | [a, b, e, g], [c, d, f, k], _, _ => exact ⟨_, h a b e g c d f k w, by simp [and_assoc]⟩

theorem eq39 : EqOK Try.prog 39 [.int .i64 0, .int .i64 0] := eqB2 39 (by kernel_rfl) fun a b c d w => by
  rw [show (10000 : Nat) = 9999 + 1 from rfl, Op.equalIn]
  simp only [Sem.run_bind, run_underlying Try.underlying39, Result.andThen_ok]
  simp only [Std.Legacy.Range.forIn_eq_forIn_range', Std.Legacy.Range.size, Nat.sub_zero, Nat.add_sub_cancel, Nat.div_one, List.range'_succ, List.range'_zero, List.forIn_cons, List.forIn_nil]
  go_simp
  by_cases h1 : a = c <;> by_cases h2 : b = d <;> simp [h1, h2]
theorem in39 (n : Nat) (a b c d : Int) (w : World) : (Op.equalIn (n + 2) 39 (.agg #[.int .i64 a, .int .i64 b]) (.agg #[.int .i64 c, .int .i64 d])).run Try.prog w = .ok (a == c && b == d) w := by
  rw [Op.equalIn]
  simp only [Sem.run_bind, run_underlying Try.underlying39, Result.andThen_ok]
  simp only [Std.Legacy.Range.forIn_eq_forIn_range', Std.Legacy.Range.size, Nat.sub_zero, Nat.add_sub_cancel, Nat.div_one, List.range'_succ, List.range'_zero, List.forIn_cons, List.forIn_nil]
  go_simp
  by_cases h1 : a = c <;> by_cases h2 : b = d <;> simp [h1, h2]
theorem eq67 : EqOK Try.prog 67 [.int .i64 0, .int .i64 0] := eqB2 67 (by kernel_rfl) fun a b c d w => by
  have hS : Try.prog.underlying 67 = some (.struct (Try.prog.fieldsOf 67)) := by kernel_rfl
  rw [show (10000 : Nat) = 9999 + 1 from rfl, run_equalIn_agg w 9999 67 _ _ hS (by kernel_rfl)]
  simp only [Program.fieldsOf, Try.underlying67]
  go_simp
  by_cases h1 : a = c <;> by_cases h2 : b = d <;> simp [h1, h2]
theorem eq101 : EqOK Try.prog 101 [.int .i64 0, .int .i64 0, .int .i64 0, .int .i64 0] := eqB4 101 (by kernel_rfl) fun a b e g c d f k w => by
  have hS : Try.prog.underlying 101 = some (.struct (Try.prog.fieldsOf 101)) := by kernel_rfl
  rw [show (10000 : Nat) = 9999 + 1 from rfl, run_equalIn_agg w 9999 101 _ _ hS (by kernel_rfl)]
  simp only [Program.fieldsOf, Try.underlying101]
  go_simp
  by_cases h1 : a = c <;> by_cases h2 : b = d <;> by_cases h3 : e = f <;> by_cases h4 : g = k <;> simp [h1, h2, h3, h4]
theorem eq112 : EqOK Try.prog 112 [.int .i64 0, .int .i64 0, .int .i64 0] := eqB3 112 (by kernel_rfl) fun a b e c d f w => by
  have hS : Try.prog.underlying 112 = some (.struct (Try.prog.fieldsOf 112)) := by kernel_rfl
  rw [show (10000 : Nat) = 9999 + 1 from rfl, run_equalIn_agg w 9999 112 _ _ hS (by kernel_rfl)]
  simp only [Program.fieldsOf, Try.underlying112]
  go_simp
  by_cases h1 : a = c <;> by_cases h2 : b = d <;> by_cases h3 : e = f <;> simp [h1, h2, h3]

theorem tabOK : TabOK tab Try.prog := tabOK_of tab_chk fun x hx he => by
  have : (x.1 = 39 ∧ x.2.zero = [.int .i64 0, .int .i64 0]) ∨ (x.1 = 67 ∧ x.2.zero = [.int .i64 0, .int .i64 0]) ∨ (x.1 = 101 ∧ x.2.zero = [.int .i64 0, .int .i64 0, .int .i64 0, .int .i64 0]) ∨ (x.1 = 112 ∧ x.2.zero = [.int .i64 0, .int .i64 0, .int .i64 0]) := by
    have h : (tabL.all fun x => !x.2.eq || (Nat.beq x.1 39 && veqL x.2.zero [.int .i64 0, .int .i64 0]) || (Nat.beq x.1 67 && veqL x.2.zero [.int .i64 0, .int .i64 0]) || (Nat.beq x.1 101 && veqL x.2.zero [.int .i64 0, .int .i64 0, .int .i64 0, .int .i64 0]) || (Nat.beq x.1 112 && veqL x.2.zero [.int .i64 0, .int .i64 0, .int .i64 0])) = true := by decide +kernel
    have := List.all_eq_true.1 h x hx
    simp only [he, Bool.or_eq_true, Bool.and_eq_true, Bool.not_true, Bool.false_eq_true, false_or] at this
    rcases this with ((⟨h1, h2⟩ | ⟨h1, h2⟩) | ⟨h1, h2⟩) | ⟨h1, h2⟩
    · exact .inl ⟨Nat.eq_of_beq_eq_true h1, veqL_eq h2⟩
    · exact .inr (.inl ⟨Nat.eq_of_beq_eq_true h1, veqL_eq h2⟩)
    · exact .inr (.inr (.inl ⟨Nat.eq_of_beq_eq_true h1, veqL_eq h2⟩))
    · exact .inr (.inr (.inr ⟨Nat.eq_of_beq_eq_true h1, veqL_eq h2⟩))
  rcases this with ⟨h1, h2⟩ | ⟨h1, h2⟩ | ⟨h1, h2⟩ | ⟨h1, h2⟩ <;> rw [h1, h2]
  · exact eq39
  · exact eq67
  · exact eq101
  · exact eq112

/-- The program, as a walk knows it. -/
structure IsP (P : Program) : Prop where
  tab : TabOK tab P
  mixed : P.follows .mixedOrders = true
  fn : ∀ k : Nat, P.funcs[k]? = Try.prog.funcs[k]?
theorem isP : IsP Try.prog := ⟨tabOK, mixed, fun _ => rfl⟩

/-- The name of a function that the model stands in for. -/
def named (fn : Func) : Bool := !(fn.name == "runtime.NumGoroutine")
theorem IsP.enters {P : Program} (h : IsP P) {f : FuncId} {fn : Func} {c : Code} (hf : Try.prog.funcs[f]? = some fn) (hn : (fn.name == "runtime.NumGoroutine") = false) (hb : fn.body = some c) : Enters P f :=
  fun args w => enters_of (by rw [h.fn]; exact hf) hn hb args w

end Go.VM

namespace Go.VM
def code (f : Func) : Code := f.body.getD .skip
abbrev D0 := (Int × (Int × (Bool × Int)))
def z0 : D0 := ((0 : Int), ((0 : Int), (false, (0 : Int))))
abbrev D1 := (Int × (Int × (Int × Int)))
def z1 : D1 := ((0 : Int), ((0 : Int), ((0 : Int), (0 : Int))))
abbrev D2 := (Int × (Int × (Int × (Bool × (Int × (Int × (Int × (Int × Int))))))))
def z2 : D2 := ((0 : Int), ((0 : Int), ((0 : Int), (false, ((0 : Int), ((0 : Int), ((0 : Int), ((0 : Int), (0 : Int)))))))))
abbrev D3 := (Int × (Int × (Int × (Int × (Int × (List (Int × (Int × (Int × (Bool × (Int × (Int × (Int × (Int × Int))))))))))))))
def z3 : D3 := ((0 : Int), ((0 : Int), ((0 : Int), ((0 : Int), ((0 : Int), ([] : List (Int × (Int × (Int × (Bool × (Int × (Int × (Int × (Int × Int))))))))))))))
abbrev D5 := (Int × (Int × (Int × (Int × (Int × ((List (Int × (Int × (Int × (Bool × (Int × (Int × (Int × (Int × Int))))))))) × (List (List Int))))))))
def z5 : D5 := ((0 : Int), ((0 : Int), ((0 : Int), ((0 : Int), ((0 : Int), (([] : List (Int × (Int × (Int × (Bool × (Int × (Int × (Int × (Int × Int))))))))), ([] : List (List Int))))))))
abbrev D6 := (Int × Int)
def z6 : D6 := ((0 : Int), (0 : Int))
abbrev D7 := ((List Int) × ((List Int) × Bool))
def z7 : D7 := (([] : List Int), (([] : List Int), false))
abbrev D8 := ((List ((List Int) × ((List Int) × Bool))) × (List (Int × Int)))
def z8 : D8 := (([] : List ((List Int) × ((List Int) × Bool))), ([] : List (Int × Int)))
abbrev D9 := (Int × (Int × Bool))
def z9 : D9 := ((0 : Int), ((0 : Int), false))
abbrev D10 := ((List (Int × (Int × Bool))) × Int)
def z10 : D10 := (([] : List (Int × (Int × Bool))), (0 : Int))
abbrev D11 := (Int × (Int × Int))
def z11 : D11 := ((0 : Int), ((0 : Int), (0 : Int)))
abbrev D12 := ((List Int) × (List Int))
def z12 : D12 := (([] : List Int), ([] : List Int))
abbrev D13 := ((List (Int × (Int × Bool))) × (Int × (Int × Int)))
def z13 : D13 := (([] : List (Int × (Int × Bool))), ((0 : Int), ((0 : Int), (0 : Int))))
abbrev D14 := (Int × (Int × (Int × (Int × (Int × ((List (Int × (Int × (Int × (Bool × (Int × (Int × (Int × (Int × Int))))))))) × ((List (List Int)) × (List Int))))))))
def z14 : D14 := ((0 : Int), ((0 : Int), ((0 : Int), ((0 : Int), ((0 : Int), (([] : List (Int × (Int × (Int × (Bool × (Int × (Int × (Int × (Int × Int))))))))), (([] : List (List Int)), ([] : List Int))))))))
/-- What an iterator yields: what its acceptor accepts. -/
noncomputable def itF {α : Type} (acc : α → Option Unit) : Option α :=
  @dite _ (∃ l, acc l = some ()) (Classical.propDecidable _) (fun h => some (Classical.choose h)) fun _ => none
theorem itF_spec {α : Type} {acc : α → Option Unit} {l : α} (h : itF acc = some l) : acc l = some () := by
  unfold itF at h
  split at h
  · rename_i hx
    injection h with h
    rw [← h]
    exact Classical.choose_spec hx
  · cases h
theorem itF_eq {α : Type} {acc : α → Option Unit} {l : α} (h : acc l = some ()) (hu : ∀ q, acc q = some () → q = l) : itF acc = some l := by
  unfold itF
  rw [dif_pos ⟨l, h⟩, hu _ (Classical.choose_spec (⟨l, h⟩ : ∃ l, acc l = some ()))]
end Go.VM
