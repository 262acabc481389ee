/- What is proved here: the machine's table of the types of the program (no statement of the seat). -/
import Derived.Test.YthcfbeckhgngiaaDoorM6
namespace Go.Proofs.YthcfbeckhgngiaaDoor.M
open Go Go.RowKit

def tyL : List (Nat × TI) :=
  [(2, .mk false 1 [] [.v (.int .i64 0)] 0 0 0 [] (some .i64) 3 []),
   (3, .mk false 1 [] [.v (.int .i64 0)] 0 0 0 [] (some .i64) 3 []),
   (4, .mk false 1 [] [.v (.bool false)] 0 0 0 [] none 1 []),
   (5, .mk false 1 [] [.v (.int .u8 0)] 0 0 0 [] (some .u8) 3 []),
   (6, .mk false 1 [] [.v (.int .u8 0)] 0 0 0 [] (some .u8) 3 []),
   (7, .mk true 4 [(0, false, 1), (1, false, 1), (2, false, 1), (3, false, 1)] [.v (.int .i64 0), .v (.int .i64 0), .v (.bool false), .v (.int .u8 0)] 0 0 0 [] none 5 [0, 0, 2, 0]),
   (8, .mk true 4 [(0, false, 1), (1, false, 1), (2, false, 1), (3, false, 1)] [.v (.int .i64 0), .v (.int .i64 0), .v (.bool false), .v (.int .u8 0)] 0 0 0 [] none 5 [0, 0, 2, 0]),
   (9, .mk false 1 [] [.v (.string ⟨#[]⟩)] 0 0 0 [] none 2 []),
   (10, .mk false 1 [] [.v (.string ⟨#[]⟩)] 0 0 0 [] none 2 []),
   (11, .mk false 1 [] [.v (.string ⟨#[]⟩)] 0 0 0 [] none 2 []),
   (12, .mk false 1 [] [.v (.int .u64 0)] 0 0 0 [] (some .u64) 3 []),
   (13, .mk true 2 [(0, false, 1), (1, false, 1)] [.v (.string ⟨#[]⟩), .v (.int .u64 0)] 0 0 0 [] none 5 []),
   (14, .mk true 2 [(0, false, 1), (1, false, 1)] [.v (.string ⟨#[]⟩), .v (.int .u64 0)] 0 0 0 [] none 5 []),
   (15, .mk false 1 [] [.v (.pointer none)] 0 0 0 [] none 0 []),
   (16, .mk false 1 [] [.v (.pointer none)] 0 0 0 [] none 0 []),
   (17, .mk false 1 [] [.v (.pointer none)] 0 0 0 [] none 0 []),
   (18, .mk true 1 [(0, false, 1)] [.v (.pointer none)] 0 0 0 [] none 5 []),
   (19, .mk true 1 [(0, false, 1)] [.v (.pointer none)] 0 0 0 [] none 5 []),
   (20, .mk false 1 [] [.v .nilIface] 0 0 0 [] none 0 []),
   (21, .mk false 1 [] [.v (.int .i32 0)] 0 0 0 [] (some .i32) 3 []),
   (22, .mk false 1 [] [.e0] 42 6 56 [.v (.int .i64 0), .v (.int .i64 0), .e0, .v (.int .i64 0), .v (.bool false), .v (.bool false)] none 4 []),
   (23, .mk false 1 [] [.v (.int .i64 0)] 0 0 0 [] (some .i64) 3 []),
   (34, .mk false 1 [] [.v (.pointer none)] 0 0 0 [] none 0 []),
   (38, .mk false 1 [] [.e0] 9 1 16 [.v (.string ⟨#[]⟩)] none 4 []),
   (41, .mk true 6 [(0, false, 1), (1, false, 1), (2, false, 1), (3, false, 1), (4, false, 1), (5, false, 1)] [.v (.int .i64 0), .v (.int .i64 0), .e0, .v (.int .i64 0), .v (.bool false), .v (.bool false)] 0 0 0 [] none 5 []),
   (42, .mk true 6 [(0, false, 1), (1, false, 1), (2, false, 1), (3, false, 1), (4, false, 1), (5, false, 1)] [.v (.int .i64 0), .v (.int .i64 0), .e0, .v (.int .i64 0), .v (.bool false), .v (.bool false)] 0 0 0 [] none 5 []),
   (49, .mk false 1 [] [.v (.pointer none)] 0 0 0 [] none 0 []),
   (50, .mk false 1 [] [.e0] 5 1 1 [.v (.int .u8 0)] none 4 []),
   (51, .mk true 2 [(0, false, 1), (1, false, 1)] [.v (.pointer none), .e0] 0 0 0 [] none 5 []),
   (52, .mk true 2 [(0, false, 1), (1, false, 1)] [.v (.pointer none), .e0] 0 0 0 [] none 5 []),
   (53, .mk false 1 [] [.v .nilIface] 0 0 0 [] none 0 []),
   (54, .mk false 1 [] [.v .nilIface] 0 0 0 [] none 0 []),
   (68, .mk true 2 [(0, false, 1), (1, false, 1)] [.e0, .v (.int .i64 0)] 0 0 0 [] none 5 []),
   (69, .mk true 2 [(0, false, 1), (1, false, 1)] [.e0, .v (.int .i64 0)] 0 0 0 [] none 5 []),
   (74, .mk false 1 [] [.v (.pointer none)] 0 0 0 [] none 0 []),
   (81, .mk false 1 [] [.e0] 84 3 24 [.v (.int .i64 0), .v (.int .i64 0), .v (.int .i64 0)] none 4 []),
   (83, .mk true 3 [(0, false, 1), (1, false, 1), (2, false, 1)] [.v (.int .i64 0), .v (.int .i64 0), .v (.int .i64 0)] 0 0 0 [] none 5 [0, 0, 0]),
   (84, .mk true 3 [(0, false, 1), (1, false, 1), (2, false, 1)] [.v (.int .i64 0), .v (.int .i64 0), .v (.int .i64 0)] 0 0 0 [] none 5 [0, 0, 0]),
   (86, .mk false 1 [] [.v (.pointer none)] 0 0 0 [] none 0 []),
   (96, .mk false 1 [] [.v (.pointer none)] 0 0 0 [] none 0 []),
   (102, .mk true 256 [] [.v (.int .u8 0), .v (.int .u8 0), .v (.int .u8 0), .v (.int .u8 0), .v (.int .u8 0), .v (.int .u8 0), .v (.int .u8 0), .v (.int .u8 0), .v (.int .u8 0), .v (.int .u8 0), .v (.int .u8 0), .v (.int .u8 0), .v (.int .u8 0), .v (.int .u8 0), .v (.int .u8 0), .v (.int .u8 0), .v (.int .u8 0), .v (.int .u8 0), .v (.int .u8 0), .v (.int .u8 0), .v (.int .u8 0), .v (.int .u8 0), .v (.int .u8 0), .v (.int .u8 0), .v (.int .u8 0), .v (.int .u8 0), .v (.int .u8 0), .v (.int .u8 0), .v (.int .u8 0), .v (.int .u8 0), .v (.int .u8 0), .v (.int .u8 0), .v (.int .u8 0), .v (.int .u8 0), .v (.int .u8 0), .v (.int .u8 0), .v (.int .u8 0), .v (.int .u8 0), .v (.int .u8 0), .v (.int .u8 0), .v (.int .u8 0), .v (.int .u8 0), .v (.int .u8 0), .v (.int .u8 0), .v (.int .u8 0), .v (.int .u8 0), .v (.int .u8 0), .v (.int .u8 0), .v (.int .u8 0), .v (.int .u8 0), .v (.int .u8 0), .v (.int .u8 0), .v (.int .u8 0), .v (.int .u8 0), .v (.int .u8 0), .v (.int .u8 0), .v (.int .u8 0), .v (.int .u8 0), .v (.int .u8 0), .v (.int .u8 0), .v (.int .u8 0), .v (.int .u8 0), .v (.int .u8 0), .v (.int .u8 0), .v (.int .u8 0), .v (.int .u8 0), .v (.int .u8 0), .v (.int .u8 0), .v (.int .u8 0), .v (.int .u8 0), .v (.int .u8 0), .v (.int .u8 0), .v (.int .u8 0), .v (.int .u8 0), .v (.int .u8 0), .v (.int .u8 0), .v (.int .u8 0), .v (.int .u8 0), .v (.int .u8 0), .v (.int .u8 0), .v (.int .u8 0), .v (.int .u8 0), .v (.int .u8 0), .v (.int .u8 0), .v (.int .u8 0), .v (.int .u8 0), .v (.int .u8 0), .v (.int .u8 0), .v (.int .u8 0), .v (.int .u8 0), .v (.int .u8 0), .v (.int .u8 0), .v (.int .u8 0), .v (.int .u8 0), .v (.int .u8 0), .v (.int .u8 0), .v (.int .u8 0), .v (.int .u8 0), .v (.int .u8 0), .v (.int .u8 0), .v (.int .u8 0), .v (.int .u8 0), .v (.int .u8 0), .v (.int .u8 0), .v (.int .u8 0), .v (.int .u8 0), .v (.int .u8 0), .v (.int .u8 0), .v (.int .u8 0), .v (.int .u8 0), .v (.int .u8 0), .v (.int .u8 0), .v (.int .u8 0), .v (.int .u8 0), .v (.int .u8 0), .v (.int .u8 0), .v (.int .u8 0), .v (.int .u8 0), .v (.int .u8 0), .v (.int .u8 0), .v (.int .u8 0), .v (.int .u8 0), .v (.int .u8 0), .v (.int .u8 0), .v (.int .u8 0), .v (.int .u8 0), .v (.int .u8 0), .v (.int .u8 0), .v (.int .u8 0), .v (.int .u8 0), .v (.int .u8 0), .v (.int .u8 0), .v (.int .u8 0), .v (.int .u8 0), .v (.int .u8 0), .v (.int .u8 0), .v (.int .u8 0), .v (.int .u8 0), .v (.int .u8 0), .v (.int .u8 0), .v (.int .u8 0), .v (.int .u8 0), .v (.int .u8 0), .v (.int .u8 0), .v (.int .u8 0), .v (.int .u8 0), .v (.int .u8 0), .v (.int .u8 0), .v (.int .u8 0), .v (.int .u8 0), .v (.int .u8 0), .v (.int .u8 0), .v (.int .u8 0), .v (.int .u8 0), .v (.int .u8 0), .v (.int .u8 0), .v (.int .u8 0), .v (.int .u8 0), .v (.int .u8 0), .v (.int .u8 0), .v (.int .u8 0), .v (.int .u8 0), .v (.int .u8 0), .v (.int .u8 0), .v (.int .u8 0), .v (.int .u8 0), .v (.int .u8 0), .v (.int .u8 0), .v (.int .u8 0), .v (.int .u8 0), .v (.int .u8 0), .v (.int .u8 0), .v (.int .u8 0), .v (.int .u8 0), .v (.int .u8 0), .v (.int .u8 0), .v (.int .u8 0), .v (.int .u8 0), .v (.int .u8 0), .v (.int .u8 0), .v (.int .u8 0), .v (.int .u8 0), .v (.int .u8 0), .v (.int .u8 0), .v (.int .u8 0), .v (.int .u8 0), .v (.int .u8 0), .v (.int .u8 0), .v (.int .u8 0), .v (.int .u8 0), .v (.int .u8 0), .v (.int .u8 0), .v (.int .u8 0), .v (.int .u8 0), .v (.int .u8 0), .v (.int .u8 0), .v (.int .u8 0), .v (.int .u8 0), .v (.int .u8 0), .v (.int .u8 0), .v (.int .u8 0), .v (.int .u8 0), .v (.int .u8 0), .v (.int .u8 0), .v (.int .u8 0), .v (.int .u8 0), .v (.int .u8 0), .v (.int .u8 0), .v (.int .u8 0), .v (.int .u8 0), .v (.int .u8 0), .v (.int .u8 0), .v (.int .u8 0), .v (.int .u8 0), .v (.int .u8 0), .v (.int .u8 0), .v (.int .u8 0), .v (.int .u8 0), .v (.int .u8 0), .v (.int .u8 0), .v (.int .u8 0), .v (.int .u8 0), .v (.int .u8 0), .v (.int .u8 0), .v (.int .u8 0), .v (.int .u8 0), .v (.int .u8 0), .v (.int .u8 0), .v (.int .u8 0), .v (.int .u8 0), .v (.int .u8 0), .v (.int .u8 0), .v (.int .u8 0), .v (.int .u8 0), .v (.int .u8 0), .v (.int .u8 0), .v (.int .u8 0), .v (.int .u8 0), .v (.int .u8 0), .v (.int .u8 0), .v (.int .u8 0), .v (.int .u8 0), .v (.int .u8 0), .v (.int .u8 0), .v (.int .u8 0), .v (.int .u8 0), .v (.int .u8 0), .v (.int .u8 0), .v (.int .u8 0), .v (.int .u8 0), .v (.int .u8 0), .v (.int .u8 0), .v (.int .u8 0), .v (.int .u8 0), .v (.int .u8 0), .v (.int .u8 0)] 0 0 0 [] none 0 []),
   (103, .mk true 2 [(0, false, 1), (1, false, 1)] [.v (.int .u8 0), .v (.int .u8 0)] 0 0 0 [] none 5 [0, 0]),
   (104, .mk true 2 [(0, false, 1), (1, false, 1)] [.v (.int .u8 0), .v (.int .u8 0)] 0 0 0 [] none 5 [0, 0]),
   (105, .mk true 32 [] [.v (.int .u8 0), .v (.int .u8 0), .v (.int .u8 0), .v (.int .u8 0), .v (.int .u8 0), .v (.int .u8 0), .v (.int .u8 0), .v (.int .u8 0), .v (.int .u8 0), .v (.int .u8 0), .v (.int .u8 0), .v (.int .u8 0), .v (.int .u8 0), .v (.int .u8 0), .v (.int .u8 0), .v (.int .u8 0), .v (.int .u8 0), .v (.int .u8 0), .v (.int .u8 0), .v (.int .u8 0), .v (.int .u8 0), .v (.int .u8 0), .v (.int .u8 0), .v (.int .u8 0), .v (.int .u8 0), .v (.int .u8 0), .v (.int .u8 0), .v (.int .u8 0), .v (.int .u8 0), .v (.int .u8 0), .v (.int .u8 0), .v (.int .u8 0)] 0 0 0 [] none 0 []),
   (106, .mk false 1 [] [.v (.int .u64 0)] 0 0 0 [] (some .u64) 3 []),
   (107, .mk true 24 [] [.v (.int .u8 0), .v (.int .u8 0), .v (.int .u8 0), .v (.int .u8 0), .v (.int .u8 0), .v (.int .u8 0), .v (.int .u8 0), .v (.int .u8 0), .v (.int .u8 0), .v (.int .u8 0), .v (.int .u8 0), .v (.int .u8 0), .v (.int .u8 0), .v (.int .u8 0), .v (.int .u8 0), .v (.int .u8 0), .v (.int .u8 0), .v (.int .u8 0), .v (.int .u8 0), .v (.int .u8 0), .v (.int .u8 0), .v (.int .u8 0), .v (.int .u8 0), .v (.int .u8 0)] 0 0 0 [] none 0 []),
   (108, .mk false 1 [] [.v (.int .u64 0)] 0 0 0 [] (some .u64) 3 []),
   (121, .mk true 20 [] [.v (.int .u64 0), .v (.int .u64 0), .v (.int .u64 0), .v (.int .u64 0), .v (.int .u64 0), .v (.int .u64 0), .v (.int .u64 0), .v (.int .u64 0), .v (.int .u64 0), .v (.int .u64 0), .v (.int .u64 0), .v (.int .u64 0), .v (.int .u64 0), .v (.int .u64 0), .v (.int .u64 0), .v (.int .u64 0), .v (.int .u64 0), .v (.int .u64 0), .v (.int .u64 0), .v (.int .u64 0)] 0 0 0 [] none 0 []),
   (122, .mk false 1 [] [.v (.int .u32 0)] 0 0 0 [] (some .u32) 3 []),
   (123, .mk true 65 [] [.v (.int .u8 0), .v (.int .u8 0), .v (.int .u8 0), .v (.int .u8 0), .v (.int .u8 0), .v (.int .u8 0), .v (.int .u8 0), .v (.int .u8 0), .v (.int .u8 0), .v (.int .u8 0), .v (.int .u8 0), .v (.int .u8 0), .v (.int .u8 0), .v (.int .u8 0), .v (.int .u8 0), .v (.int .u8 0), .v (.int .u8 0), .v (.int .u8 0), .v (.int .u8 0), .v (.int .u8 0), .v (.int .u8 0), .v (.int .u8 0), .v (.int .u8 0), .v (.int .u8 0), .v (.int .u8 0), .v (.int .u8 0), .v (.int .u8 0), .v (.int .u8 0), .v (.int .u8 0), .v (.int .u8 0), .v (.int .u8 0), .v (.int .u8 0), .v (.int .u8 0), .v (.int .u8 0), .v (.int .u8 0), .v (.int .u8 0), .v (.int .u8 0), .v (.int .u8 0), .v (.int .u8 0), .v (.int .u8 0), .v (.int .u8 0), .v (.int .u8 0), .v (.int .u8 0), .v (.int .u8 0), .v (.int .u8 0), .v (.int .u8 0), .v (.int .u8 0), .v (.int .u8 0), .v (.int .u8 0), .v (.int .u8 0), .v (.int .u8 0), .v (.int .u8 0), .v (.int .u8 0), .v (.int .u8 0), .v (.int .u8 0), .v (.int .u8 0), .v (.int .u8 0), .v (.int .u8 0), .v (.int .u8 0), .v (.int .u8 0), .v (.int .u8 0), .v (.int .u8 0), .v (.int .u8 0), .v (.int .u8 0), .v (.int .u8 0)] 0 0 0 [] none 0 []),
   (131, .mk true 32 [] [.v (.int .u8 0), .v (.int .u8 0), .v (.int .u8 0), .v (.int .u8 0), .v (.int .u8 0), .v (.int .u8 0), .v (.int .u8 0), .v (.int .u8 0), .v (.int .u8 0), .v (.int .u8 0), .v (.int .u8 0), .v (.int .u8 0), .v (.int .u8 0), .v (.int .u8 0), .v (.int .u8 0), .v (.int .u8 0), .v (.int .u8 0), .v (.int .u8 0), .v (.int .u8 0), .v (.int .u8 0), .v (.int .u8 0), .v (.int .u8 0), .v (.int .u8 0), .v (.int .u8 0), .v (.int .u8 0), .v (.int .u8 0), .v (.int .u8 0), .v (.int .u8 0), .v (.int .u8 0), .v (.int .u8 0), .v (.int .u8 0), .v (.int .u8 0)] 0 0 0 [] none 0 []),
   (132, .mk true 64 [] [.v (.int .u8 0), .v (.int .u8 0), .v (.int .u8 0), .v (.int .u8 0), .v (.int .u8 0), .v (.int .u8 0), .v (.int .u8 0), .v (.int .u8 0), .v (.int .u8 0), .v (.int .u8 0), .v (.int .u8 0), .v (.int .u8 0), .v (.int .u8 0), .v (.int .u8 0), .v (.int .u8 0), .v (.int .u8 0), .v (.int .u8 0), .v (.int .u8 0), .v (.int .u8 0), .v (.int .u8 0), .v (.int .u8 0), .v (.int .u8 0), .v (.int .u8 0), .v (.int .u8 0), .v (.int .u8 0), .v (.int .u8 0), .v (.int .u8 0), .v (.int .u8 0), .v (.int .u8 0), .v (.int .u8 0), .v (.int .u8 0), .v (.int .u8 0), .v (.int .u8 0), .v (.int .u8 0), .v (.int .u8 0), .v (.int .u8 0), .v (.int .u8 0), .v (.int .u8 0), .v (.int .u8 0), .v (.int .u8 0), .v (.int .u8 0), .v (.int .u8 0), .v (.int .u8 0), .v (.int .u8 0), .v (.int .u8 0), .v (.int .u8 0), .v (.int .u8 0), .v (.int .u8 0), .v (.int .u8 0), .v (.int .u8 0), .v (.int .u8 0), .v (.int .u8 0), .v (.int .u8 0), .v (.int .u8 0), .v (.int .u8 0), .v (.int .u8 0), .v (.int .u8 0), .v (.int .u8 0), .v (.int .u8 0), .v (.int .u8 0), .v (.int .u8 0), .v (.int .u8 0), .v (.int .u8 0), .v (.int .u8 0)] 0 0 0 [] none 0 []),
   (133, .mk true 4 [(0, false, 1), (1, false, 1), (2, false, 1), (3, false, 1)] [.v (.pointer none), .v (.pointer none), .v (.pointer none), .v (.string ⟨#[]⟩)] 0 0 0 [] none 5 []),
   (134, .mk true 4 [(0, false, 1), (1, false, 1), (2, false, 1), (3, false, 1)] [.v (.pointer none), .v (.pointer none), .v (.pointer none), .v (.string ⟨#[]⟩)] 0 0 0 [] none 5 []),
   (135, .mk true 0 [] [] 0 0 0 [] none 0 []),
   (138, .mk false 1 [] [.v (.int .u8 0)] 0 0 0 [] (some .u8) 3 []),
   (139, .mk false 1 [] [.v (.int .u8 0)] 0 0 0 [] (some .u8) 3 []),
   (141, .mk false 1 [] [.v (.int .i32 0)] 0 0 0 [] (some .i32) 3 []),
   (142, .mk false 1 [] [.v (.int .i32 0)] 0 0 0 [] (some .i32) 3 []),
   (143, .mk true 11 [(0, false, 1), (1, false, 1), (2, false, 1), (3, false, 1), (4, false, 1), (5, false, 1), (6, false, 1), (7, false, 1), (8, false, 1), (9, false, 1), (10, false, 1)] [.v (.int .u64 0), .v (.int .u64 0), .v (.int .u32 0), .v (.int .u8 0), .v (.int .u8 0), .v (.int .u8 0), .v (.int .u8 0), .v .nilFunc, .v (.pointer none), .v (.int .i32 0), .v (.int .i32 0)] 0 0 0 [] none 5 []),
   (144, .mk true 11 [(0, false, 1), (1, false, 1), (2, false, 1), (3, false, 1), (4, false, 1), (5, false, 1), (6, false, 1), (7, false, 1), (8, false, 1), (9, false, 1), (10, false, 1)] [.v (.int .u64 0), .v (.int .u64 0), .v (.int .u32 0), .v (.int .u8 0), .v (.int .u8 0), .v (.int .u8 0), .v (.int .u8 0), .v .nilFunc, .v (.pointer none), .v (.int .i32 0), .v (.int .i32 0)] 0 0 0 [] none 5 [])]

theorem tyL_ok : tyL.map (fun p => tyOf Tryd.prog p.1) = tyL.map (fun p => some p.2) := by kernel_rfl

def ty (t : TypeId) : Option TI := mget tyL t

theorem ty_ok : ∀ t ti, ty t = some ti → tyOf Tryd.prog t = some ti := tyTab_ok tyL_ok

end Go.Proofs.YthcfbeckhgngiaaDoor.M
