/- What is proved here: the machine's table of the types of the program (no statement of the seat). -/
import Derived.Test.YtlnflhmepnbcmaaDoorM6
namespace Go.Proofs.YtlnflhmepnbcmaaDoor.M
open Go Go.RowKit

def tyL : List (Nat × TI) :=
  [(2, .mk false 1 [] [.v (.int .i64 0)] 0 0 0 [] (some .i64) 3 []),
   (3, .mk false 1 [] [.v (.int .i64 0)] 0 0 0 [] (some .i64) 3 []),
   (4, .mk false 1 [] [.v (.bool false)] 0 0 0 [] none 1 []),
   (5, .mk false 1 [] [.v (.int .u8 0)] 0 0 0 [] (some .u8) 3 []),
   (6, .mk false 1 [] [.v (.int .u8 0)] 0 0 0 [] (some .u8) 3 []),
   (7, .mk true 4 [(0, false, 1), (1, false, 1), (2, false, 1), (3, false, 1)] [.v (.int .i64 0), .v (.int .i64 0), .v (.bool false), .v (.int .u8 0)] 0 0 0 [] none 5 [0, 0, 2, 0]),
   (8, .mk true 4 [(0, false, 1), (1, false, 1), (2, false, 1), (3, false, 1)] [.v (.int .i64 0), .v (.int .i64 0), .v (.bool false), .v (.int .u8 0)] 0 0 0 [] none 5 [0, 0, 2, 0]),
   (9, .mk false 1 [] [.v (.string ⟨#[]⟩)] 0 0 0 [] none 2 []),
   (10, .mk false 1 [] [.v (.string ⟨#[]⟩)] 0 0 0 [] none 2 []),
   (11, .mk false 1 [] [.v (.string ⟨#[]⟩)] 0 0 0 [] none 2 []),
   (12, .mk false 1 [] [.v (.int .u64 0)] 0 0 0 [] (some .u64) 3 []),
   (13, .mk true 2 [(0, false, 1), (1, false, 1)] [.v (.string ⟨#[]⟩), .v (.int .u64 0)] 0 0 0 [] none 5 []),
   (14, .mk true 2 [(0, false, 1), (1, false, 1)] [.v (.string ⟨#[]⟩), .v (.int .u64 0)] 0 0 0 [] none 5 []),
   (15, .mk false 1 [] [.v (.pointer none)] 0 0 0 [] none 0 []),
   (16, .mk false 1 [] [.v (.pointer none)] 0 0 0 [] none 0 []),
   (17, .mk false 1 [] [.v (.pointer none)] 0 0 0 [] none 0 []),
   (18, .mk true 1 [(0, false, 1)] [.v (.pointer none)] 0 0 0 [] none 5 []),
   (19, .mk true 1 [(0, false, 1)] [.v (.pointer none)] 0 0 0 [] none 5 []),
   (20, .mk false 1 [] [.v .nilIface] 0 0 0 [] none 0 []),
   (21, .mk false 1 [] [.v (.int .i32 0)] 0 0 0 [] (some .i32) 3 []),
   (22, .mk false 1 [] [.e0] 9 1 16 [.v (.string ⟨#[]⟩)] none 4 []),
   (23, .mk false 1 [] [.v (.int .i64 0)] 0 0 0 [] (some .i64) 3 []),
   (29, .mk false 1 [] [.e0] 67 6 56 [.v (.int .i64 0), .v (.int .i64 0), .e0, .v (.int .i64 0), .v (.bool false), .v (.bool false)] none 4 []),
   (30, .mk false 1 [] [.e0] 35 3 24 [.v (.int .i64 0), .v (.int .i64 0), .v (.int .i64 0)] none 4 []),
   (34, .mk true 3 [(0, false, 1), (1, false, 1), (2, false, 1)] [.v (.int .i64 0), .v (.int .i64 0), .v (.int .i64 0)] 0 0 0 [] none 5 [0, 0, 0]),
   (35, .mk true 3 [(0, false, 1), (1, false, 1), (2, false, 1)] [.v (.int .i64 0), .v (.int .i64 0), .v (.int .i64 0)] 0 0 0 [] none 5 [0, 0, 0]),
   (37, .mk false 1 [] [.e0] 3 1 8 [.v (.int .i64 0)] none 4 []),
   (38, .mk false 1 [] [.e0] 29 1 24 [.e0] none 4 []),
   (56, .mk false 1 [] [.e0] 59 3 24 [.v (.int .i64 0), .v (.int .i64 0), .v (.int .i64 0)] none 4 []),
   (58, .mk true 3 [(0, false, 1), (1, false, 1), (2, false, 1)] [.v (.int .i64 0), .v (.int .i64 0), .v (.int .i64 0)] 0 0 0 [] none 5 [0, 0, 0]),
   (59, .mk true 3 [(0, false, 1), (1, false, 1), (2, false, 1)] [.v (.int .i64 0), .v (.int .i64 0), .v (.int .i64 0)] 0 0 0 [] none 5 [0, 0, 0]),
   (61, .mk false 1 [] [.e0] 37 1 24 [.e0] none 4 []),
   (66, .mk true 6 [(0, false, 1), (1, false, 1), (2, false, 1), (3, false, 1), (4, false, 1), (5, false, 1)] [.v (.int .i64 0), .v (.int .i64 0), .e0, .v (.int .i64 0), .v (.bool false), .v (.bool false)] 0 0 0 [] none 5 []),
   (67, .mk true 6 [(0, false, 1), (1, false, 1), (2, false, 1), (3, false, 1), (4, false, 1), (5, false, 1)] [.v (.int .i64 0), .v (.int .i64 0), .e0, .v (.int .i64 0), .v (.bool false), .v (.bool false)] 0 0 0 [] none 5 []),
   (82, .mk false 1 [] [.v (.pointer none)] 0 0 0 [] none 0 []),
   (83, .mk false 1 [] [.e0] 5 1 1 [.v (.int .u8 0)] none 4 []),
   (84, .mk true 2 [(0, false, 1), (1, false, 1)] [.v (.pointer none), .e0] 0 0 0 [] none 5 []),
   (85, .mk true 2 [(0, false, 1), (1, false, 1)] [.v (.pointer none), .e0] 0 0 0 [] none 5 []),
   (87, .mk false 1 [] [.v .nilIface] 0 0 0 [] none 0 []),
   (88, .mk false 1 [] [.v .nilIface] 0 0 0 [] none 0 []),
   (94, .mk false 1 [] [.e0] 23 1 8 [.v (.int .i64 0)] none 4 []),
   (99, .mk true 256 [] [.v (.int .u8 0), .v (.int .u8 0), .v (.int .u8 0), .v (.int .u8 0), .v (.int .u8 0), .v (.int .u8 0), .v (.int .u8 0), .v (.int .u8 0), .v (.int .u8 0), .v (.int .u8 0), .v (.int .u8 0), .v (.int .u8 0), .v (.int .u8 0), .v (.int .u8 0), .v (.int .u8 0), .v (.int .u8 0), .v (.int .u8 0), .v (.int .u8 0), .v (.int .u8 0), .v (.int .u8 0), .v (.int .u8 0), .v (.int .u8 0), .v (.int .u8 0), .v (.int .u8 0), .v (.int .u8 0), .v (.int .u8 0), .v (.int .u8 0), .v (.int .u8 0), .v (.int .u8 0), .v (.int .u8 0), .v (.int .u8 0), .v (.int .u8 0), .v (.int .u8 0), .v (.int .u8 0), .v (.int .u8 0), .v (.int .u8 0), .v (.int .u8 0), .v (.int .u8 0), .v (.int .u8 0), .v (.int .u8 0), .v (.int .u8 0), .v (.int .u8 0), .v (.int .u8 0), .v (.int .u8 0), .v (.int .u8 0), .v (.int .u8 0), .v (.int .u8 0), .v (.int .u8 0), .v (.int .u8 0), .v (.int .u8 0), .v (.int .u8 0), .v (.int .u8 0), .v (.int .u8 0), .v (.int .u8 0), .v (.int .u8 0), .v (.int .u8 0), .v (.int .u8 0), .v (.int .u8 0), .v (.int .u8 0), .v (.int .u8 0), .v (.int .u8 0), .v (.int .u8 0), .v (.int .u8 0), .v (.int .u8 0), .v (.int .u8 0), .v (.int .u8 0), .v (.int .u8 0), .v (.int .u8 0), .v (.int .u8 0), .v (.int .u8 0), .v (.int .u8 0), .v (.int .u8 0), .v (.int .u8 0), .v (.int .u8 0), .v (.int .u8 0), .v (.int .u8 0), .v (.int .u8 0), .v (.int .u8 0), .v (.int .u8 0), .v (.int .u8 0), .v (.int .u8 0), .v (.int .u8 0), .v (.int .u8 0), .v (.int .u8 0), .v (.int .u8 0), .v (.int .u8 0), .v (.int .u8 0), .v (.int .u8 0), .v (.int .u8 0), .v (.int .u8 0), .v (.int .u8 0), .v (.int .u8 0), .v (.int .u8 0), .v (.int .u8 0), .v (.int .u8 0), .v (.int .u8 0), .v (.int .u8 0), .v (.int .u8 0), .v (.int .u8 0), .v (.int .u8 0), .v (.int .u8 0), .v (.int .u8 0), .v (.int .u8 0), .v (.int .u8 0), .v (.int .u8 0), .v (.int .u8 0), .v (.int .u8 0), .v (.int .u8 0), .v (.int .u8 0), .v (.int .u8 0), .v (.int .u8 0), .v (.int .u8 0), .v (.int .u8 0), .v (.int .u8 0), .v (.int .u8 0), .v (.int .u8 0), .v (.int .u8 0), .v (.int .u8 0), .v (.int .u8 0), .v (.int .u8 0), .v (.int .u8 0), .v (.int .u8 0), .v (.int .u8 0), .v (.int .u8 0), .v (.int .u8 0), .v (.int .u8 0), .v (.int .u8 0), .v (.int .u8 0), .v (.int .u8 0), .v (.int .u8 0), .v (.int .u8 0), .v (.int .u8 0), .v (.int .u8 0), .v (.int .u8 0), .v (.int .u8 0), .v (.int .u8 0), .v (.int .u8 0), .v (.int .u8 0), .v (.int .u8 0), .v (.int .u8 0), .v (.int .u8 0), .v (.int .u8 0), .v (.int .u8 0), .v (.int .u8 0), .v (.int .u8 0), .v (.int .u8 0), .v (.int .u8 0), .v (.int .u8 0), .v (.int .u8 0), .v (.int .u8 0), .v (.int .u8 0), .v (.int .u8 0), .v (.int .u8 0), .v (.int .u8 0), .v (.int .u8 0), .v (.int .u8 0), .v (.int .u8 0), .v (.int .u8 0), .v (.int .u8 0), .v (.int .u8 0), .v (.int .u8 0), .v (.int .u8 0), .v (.int .u8 0), .v (.int .u8 0), .v (.int .u8 0), .v (.int .u8 0), .v (.int .u8 0), .v (.int .u8 0), .v (.int .u8 0), .v (.int .u8 0), .v (.int .u8 0), .v (.int .u8 0), .v (.int .u8 0), .v (.int .u8 0), .v (.int .u8 0), .v (.int .u8 0), .v (.int .u8 0), .v (.int .u8 0), .v (.int .u8 0), .v (.int .u8 0), .v (.int .u8 0), .v (.int .u8 0), .v (.int .u8 0), .v (.int .u8 0), .v (.int .u8 0), .v (.int .u8 0), .v (.int .u8 0), .v (.int .u8 0), .v (.int .u8 0), .v (.int .u8 0), .v (.int .u8 0), .v (.int .u8 0), .v (.int .u8 0), .v (.int .u8 0), .v (.int .u8 0), .v (.int .u8 0), .v (.int .u8 0), .v (.int .u8 0), .v (.int .u8 0), .v (.int .u8 0), .v (.int .u8 0), .v (.int .u8 0), .v (.int .u8 0), .v (.int .u8 0), .v (.int .u8 0), .v (.int .u8 0), .v (.int .u8 0), .v (.int .u8 0), .v (.int .u8 0), .v (.int .u8 0), .v (.int .u8 0), .v (.int .u8 0), .v (.int .u8 0), .v (.int .u8 0), .v (.int .u8 0), .v (.int .u8 0), .v (.int .u8 0), .v (.int .u8 0), .v (.int .u8 0), .v (.int .u8 0), .v (.int .u8 0), .v (.int .u8 0), .v (.int .u8 0), .v (.int .u8 0), .v (.int .u8 0), .v (.int .u8 0), .v (.int .u8 0), .v (.int .u8 0), .v (.int .u8 0), .v (.int .u8 0), .v (.int .u8 0), .v (.int .u8 0), .v (.int .u8 0), .v (.int .u8 0), .v (.int .u8 0), .v (.int .u8 0), .v (.int .u8 0), .v (.int .u8 0), .v (.int .u8 0), .v (.int .u8 0), .v (.int .u8 0), .v (.int .u8 0), .v (.int .u8 0), .v (.int .u8 0), .v (.int .u8 0), .v (.int .u8 0), .v (.int .u8 0), .v (.int .u8 0), .v (.int .u8 0), .v (.int .u8 0), .v (.int .u8 0), .v (.int .u8 0), .v (.int .u8 0), .v (.int .u8 0), .v (.int .u8 0), .v (.int .u8 0)] 0 0 0 [] none 0 []),
   (100, .mk true 2 [(0, false, 1), (1, false, 1)] [.v (.int .u8 0), .v (.int .u8 0)] 0 0 0 [] none 5 [0, 0]),
   (101, .mk true 2 [(0, false, 1), (1, false, 1)] [.v (.int .u8 0), .v (.int .u8 0)] 0 0 0 [] none 5 [0, 0]),
   (102, .mk true 32 [] [.v (.int .u8 0), .v (.int .u8 0), .v (.int .u8 0), .v (.int .u8 0), .v (.int .u8 0), .v (.int .u8 0), .v (.int .u8 0), .v (.int .u8 0), .v (.int .u8 0), .v (.int .u8 0), .v (.int .u8 0), .v (.int .u8 0), .v (.int .u8 0), .v (.int .u8 0), .v (.int .u8 0), .v (.int .u8 0), .v (.int .u8 0), .v (.int .u8 0), .v (.int .u8 0), .v (.int .u8 0), .v (.int .u8 0), .v (.int .u8 0), .v (.int .u8 0), .v (.int .u8 0), .v (.int .u8 0), .v (.int .u8 0), .v (.int .u8 0), .v (.int .u8 0), .v (.int .u8 0), .v (.int .u8 0), .v (.int .u8 0), .v (.int .u8 0)] 0 0 0 [] none 0 []),
   (103, .mk false 1 [] [.v (.int .u64 0)] 0 0 0 [] (some .u64) 3 []),
   (105, .mk false 1 [] [.v (.pointer none)] 0 0 0 [] none 0 []),
   (109, .mk false 1 [] [.v (.int .u64 0)] 0 0 0 [] (some .u64) 3 []),
   (114, .mk false 1 [] [.v (.pointer none)] 0 0 0 [] none 0 []),
   (117, .mk false 1 [] [.v (.int .u32 0)] 0 0 0 [] (some .u32) 3 []),
   (121, .mk true 4 [(0, false, 1), (1, false, 1), (2, false, 1), (3, false, 1)] [.v (.pointer none), .v (.pointer none), .v (.pointer none), .v (.string ⟨#[]⟩)] 0 0 0 [] none 5 []),
   (122, .mk true 4 [(0, false, 1), (1, false, 1), (2, false, 1), (3, false, 1)] [.v (.pointer none), .v (.pointer none), .v (.pointer none), .v (.string ⟨#[]⟩)] 0 0 0 [] none 5 []),
   (123, .mk true 0 [] [] 0 0 0 [] none 0 []),
   (127, .mk false 1 [] [.v (.int .u8 0)] 0 0 0 [] (some .u8) 3 []),
   (128, .mk false 1 [] [.v (.int .u8 0)] 0 0 0 [] (some .u8) 3 []),
   (130, .mk false 1 [] [.v (.int .i32 0)] 0 0 0 [] (some .i32) 3 []),
   (131, .mk false 1 [] [.v (.int .i32 0)] 0 0 0 [] (some .i32) 3 []),
   (132, .mk true 11 [(0, false, 1), (1, false, 1), (2, false, 1), (3, false, 1), (4, false, 1), (5, false, 1), (6, false, 1), (7, false, 1), (8, false, 1), (9, false, 1), (10, false, 1)] [.v (.int .u64 0), .v (.int .u64 0), .v (.int .u32 0), .v (.int .u8 0), .v (.int .u8 0), .v (.int .u8 0), .v (.int .u8 0), .v .nilFunc, .v (.pointer none), .v (.int .i32 0), .v (.int .i32 0)] 0 0 0 [] none 5 []),
   (133, .mk true 11 [(0, false, 1), (1, false, 1), (2, false, 1), (3, false, 1), (4, false, 1), (5, false, 1), (6, false, 1), (7, false, 1), (8, false, 1), (9, false, 1), (10, false, 1)] [.v (.int .u64 0), .v (.int .u64 0), .v (.int .u32 0), .v (.int .u8 0), .v (.int .u8 0), .v (.int .u8 0), .v (.int .u8 0), .v .nilFunc, .v (.pointer none), .v (.int .i32 0), .v (.int .i32 0)] 0 0 0 [] none 5 [])]

theorem tyL_ok : tyL.map (fun p => tyOf Tryd.prog p.1) = tyL.map (fun p => some p.2) := by kernel_rfl

def ty (t : TypeId) : Option TI := mget tyL t

theorem ty_ok : ∀ t ti, ty t = some ti → tyOf Tryd.prog t = some ti := tyTab_ok tyL_ok

end Go.Proofs.YtlnflhmepnbcmaaDoor.M
