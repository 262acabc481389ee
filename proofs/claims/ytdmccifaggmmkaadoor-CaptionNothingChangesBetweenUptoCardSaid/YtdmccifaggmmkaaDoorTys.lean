/- What is proved here: the machine's table of the types of the program (no statement of the seat). -/
import Derived.Test.YtdmccifaggmmkaaDoorM6
namespace Go.Proofs.YtdmccifaggmmkaaDoor.M
open Go Go.RowKit

def tyL : List (Nat × TI) :=
  [(2, .mk false 1 [] [.v (.int .i64 0)] 0 0 0 [] (some .i64) 3 []),
   (3, .mk false 1 [] [.v (.int .i64 0)] 0 0 0 [] (some .i64) 3 []),
   (4, .mk false 1 [] [.v (.bool false)] 0 0 0 [] none 1 []),
   (5, .mk false 1 [] [.v (.int .u8 0)] 0 0 0 [] (some .u8) 3 []),
   (6, .mk false 1 [] [.v (.int .u8 0)] 0 0 0 [] (some .u8) 3 []),
   (7, .mk true 4 [(0, false, 1), (1, false, 1), (2, false, 1), (3, false, 1)] [.v (.int .i64 0), .v (.int .i64 0), .v (.bool false), .v (.int .u8 0)] 0 0 0 [] none 5 [0, 0, 2, 0]),
   (8, .mk true 4 [(0, false, 1), (1, false, 1), (2, false, 1), (3, false, 1)] [.v (.int .i64 0), .v (.int .i64 0), .v (.bool false), .v (.int .u8 0)] 0 0 0 [] none 5 [0, 0, 2, 0]),
   (9, .mk false 1 [] [.v (.string ⟨#[]⟩)] 0 0 0 [] none 2 []),
   (10, .mk false 1 [] [.v (.string ⟨#[]⟩)] 0 0 0 [] none 2 []),
   (11, .mk false 1 [] [.v (.string ⟨#[]⟩)] 0 0 0 [] none 2 []),
   (12, .mk false 1 [] [.v (.int .u64 0)] 0 0 0 [] (some .u64) 3 []),
   (13, .mk true 2 [(0, false, 1), (1, false, 1)] [.v (.string ⟨#[]⟩), .v (.int .u64 0)] 0 0 0 [] none 5 []),
   (14, .mk true 2 [(0, false, 1), (1, false, 1)] [.v (.string ⟨#[]⟩), .v (.int .u64 0)] 0 0 0 [] none 5 []),
   (15, .mk false 1 [] [.v (.pointer none)] 0 0 0 [] none 0 []),
   (16, .mk false 1 [] [.v (.pointer none)] 0 0 0 [] none 0 []),
   (17, .mk false 1 [] [.v (.pointer none)] 0 0 0 [] none 0 []),
   (18, .mk true 1 [(0, false, 1)] [.v (.pointer none)] 0 0 0 [] none 5 []),
   (19, .mk true 1 [(0, false, 1)] [.v (.pointer none)] 0 0 0 [] none 5 []),
   (20, .mk false 1 [] [.v .nilIface] 0 0 0 [] none 0 []),
   (21, .mk false 1 [] [.v (.int .i32 0)] 0 0 0 [] (some .i32) 3 []),
   (22, .mk false 1 [] [.e0] 35 2 24 [.v (.int .i64 0), .v (.string ⟨#[]⟩)] none 4 []),
   (23, .mk false 1 [] [.e0] 32 6 56 [.v (.int .i64 0), .v (.int .i64 0), .e0, .v (.int .i64 0), .v (.bool false), .v (.bool false)] none 4 []),
   (24, .mk false 1 [] [.v (.int .i64 0)] 0 0 0 [] (some .i64) 3 []),
   (30, .mk false 1 [] [.e0] 9 1 16 [.v (.string ⟨#[]⟩)] none 4 []),
   (31, .mk true 6 [(0, false, 1), (1, false, 1), (2, false, 1), (3, false, 1), (4, false, 1), (5, false, 1)] [.v (.int .i64 0), .v (.int .i64 0), .e0, .v (.int .i64 0), .v (.bool false), .v (.bool false)] 0 0 0 [] none 5 []),
   (32, .mk true 6 [(0, false, 1), (1, false, 1), (2, false, 1), (3, false, 1), (4, false, 1), (5, false, 1)] [.v (.int .i64 0), .v (.int .i64 0), .e0, .v (.int .i64 0), .v (.bool false), .v (.bool false)] 0 0 0 [] none 5 []),
   (34, .mk true 2 [(0, false, 1), (1, false, 1)] [.v (.int .i64 0), .v (.string ⟨#[]⟩)] 0 0 0 [] none 5 [0, 1]),
   (35, .mk true 2 [(0, false, 1), (1, false, 1)] [.v (.int .i64 0), .v (.string ⟨#[]⟩)] 0 0 0 [] none 5 [0, 1]),
   (37, .mk false 1 [] [.e0] 3 1 8 [.v (.int .i64 0)] none 4 []),
   (63, .mk false 1 [] [.e0] 65 3 24 [.v (.int .i64 0), .v (.int .i64 0), .v (.int .i64 0)] none 4 []),
   (64, .mk true 3 [(0, false, 1), (1, false, 1), (2, false, 1)] [.v (.int .i64 0), .v (.int .i64 0), .v (.int .i64 0)] 0 0 0 [] none 5 [0, 0, 0]),
   (65, .mk true 3 [(0, false, 1), (1, false, 1), (2, false, 1)] [.v (.int .i64 0), .v (.int .i64 0), .v (.int .i64 0)] 0 0 0 [] none 5 [0, 0, 0]),
   (67, .mk false 1 [] [.v (.pointer none)] 0 0 0 [] none 0 []),
   (68, .mk false 1 [] [.e0] 5 1 1 [.v (.int .u8 0)] none 4 []),
   (69, .mk true 2 [(0, false, 1), (1, false, 1)] [.v (.pointer none), .e0] 0 0 0 [] none 5 []),
   (70, .mk true 2 [(0, false, 1), (1, false, 1)] [.v (.pointer none), .e0] 0 0 0 [] none 5 []),
   (72, .mk false 1 [] [.v .nilIface] 0 0 0 [] none 0 []),
   (73, .mk false 1 [] [.v .nilIface] 0 0 0 [] none 0 []),
   (79, .mk false 1 [] [.v (.int .u64 0)] 0 0 0 [] (some .u64) 3 []),
   (82, .mk false 1 [] [.v (.pointer none)] 0 0 0 [] none 0 []),
   (84, .mk false 1 [] [.v (.int .i64 0)] 0 0 0 [] (some .i64) 3 []),
   (93, .mk false 1 [] [.v (.int .u32 0)] 0 0 0 [] (some .u32) 3 []),
   (95, .mk false 1 [] [.v (.int .u64 0)] 0 0 0 [] (some .u64) 3 []),
   (97, .mk true 256 [] [.v (.int .u8 0), .v (.int .u8 0), .v (.int .u8 0), .v (.int .u8 0), .v (.int .u8 0), .v (.int .u8 0), .v (.int .u8 0), .v (.int .u8 0), .v (.int .u8 0), .v (.int .u8 0), .v (.int .u8 0), .v (.int .u8 0), .v (.int .u8 0), .v (.int .u8 0), .v (.int .u8 0), .v (.int .u8 0), .v (.int .u8 0), .v (.int .u8 0), .v (.int .u8 0), .v (.int .u8 0), .v (.int .u8 0), .v (.int .u8 0), .v (.int .u8 0), .v (.int .u8 0), .v (.int .u8 0), .v (.int .u8 0), .v (.int .u8 0), .v (.int .u8 0), .v (.int .u8 0), .v (.int .u8 0), .v (.int .u8 0), .v (.int .u8 0), .v (.int .u8 0), .v (.int .u8 0), .v (.int .u8 0), .v (.int .u8 0), .v (.int .u8 0), .v (.int .u8 0), .v (.int .u8 0), .v (.int .u8 0), .v (.int .u8 0), .v (.int .u8 0), .v (.int .u8 0), .v (.int .u8 0), .v (.int .u8 0), .v (.int .u8 0), .v (.int .u8 0), .v (.int .u8 0), .v (.int .u8 0), .v (.int .u8 0), .v (.int .u8 0), .v (.int .u8 0), .v (.int .u8 0), .v (.int .u8 0), .v (.int .u8 0), .v (.int .u8 0), .v (.int .u8 0), .v (.int .u8 0), .v (.int .u8 0), .v (.int .u8 0), .v (.int .u8 0), .v (.int .u8 0), .v (.int .u8 0), .v (.int .u8 0), .v (.int .u8 0), .v (.int .u8 0), .v (.int .u8 0), .v (.int .u8 0), .v (.int .u8 0), .v (.int .u8 0), .v (.int .u8 0), .v (.int .u8 0), .v (.int .u8 0), .v (.int .u8 0), .v (.int .u8 0), .v (.int .u8 0), .v (.int .u8 0), .v (.int .u8 0), .v (.int .u8 0), .v (.int .u8 0), .v (.int .u8 0), .v (.int .u8 0), .v (.int .u8 0), .v (.int .u8 0), .v (.int .u8 0), .v (.int .u8 0), .v (.int .u8 0), .v (.int .u8 0), .v (.int .u8 0), .v (.int .u8 0), .v (.int .u8 0), .v (.int .u8 0), .v (.int .u8 0), .v (.int .u8 0), .v (.int .u8 0), .v (.int .u8 0), .v (.int .u8 0), .v (.int .u8 0), .v (.int .u8 0), .v (.int .u8 0), .v (.int .u8 0), .v (.int .u8 0), .v (.int .u8 0), .v (.int .u8 0), .v (.int .u8 0), .v (.int .u8 0), .v (.int .u8 0), .v (.int .u8 0), .v (.int .u8 0), .v (.int .u8 0), .v (.int .u8 0), .v (.int .u8 0), .v (.int .u8 0), .v (.int .u8 0), .v (.int .u8 0), .v (.int .u8 0), .v (.int .u8 0), .v (.int .u8 0), .v (.int .u8 0), .v (.int .u8 0), .v (.int .u8 0), .v (.int .u8 0), .v (.int .u8 0), .v (.int .u8 0), .v (.int .u8 0), .v (.int .u8 0), .v (.int .u8 0), .v (.int .u8 0), .v (.int .u8 0), .v (.int .u8 0), .v (.int .u8 0), .v (.int .u8 0), .v (.int .u8 0), .v (.int .u8 0), .v (.int .u8 0), .v (.int .u8 0), .v (.int .u8 0), .v (.int .u8 0), .v (.int .u8 0), .v (.int .u8 0), .v (.int .u8 0), .v (.int .u8 0), .v (.int .u8 0), .v (.int .u8 0), .v (.int .u8 0), .v (.int .u8 0), .v (.int .u8 0), .v (.int .u8 0), .v (.int .u8 0), .v (.int .u8 0), .v (.int .u8 0), .v (.int .u8 0), .v (.int .u8 0), .v (.int .u8 0), .v (.int .u8 0), .v (.int .u8 0), .v (.int .u8 0), .v (.int .u8 0), .v (.int .u8 0), .v (.int .u8 0), .v (.int .u8 0), .v (.int .u8 0), .v (.int .u8 0), .v (.int .u8 0), .v (.int .u8 0), .v (.int .u8 0), .v (.int .u8 0), .v (.int .u8 0), .v (.int .u8 0), .v (.int .u8 0), .v (.int .u8 0), .v (.int .u8 0), .v (.int .u8 0), .v (.int .u8 0), .v (.int .u8 0), .v (.int .u8 0), .v (.int .u8 0), .v (.int .u8 0), .v (.int .u8 0), .v (.int .u8 0), .v (.int .u8 0), .v (.int .u8 0), .v (.int .u8 0), .v (.int .u8 0), .v (.int .u8 0), .v (.int .u8 0), .v (.int .u8 0), .v (.int .u8 0), .v (.int .u8 0), .v (.int .u8 0), .v (.int .u8 0), .v (.int .u8 0), .v (.int .u8 0), .v (.int .u8 0), .v (.int .u8 0), .v (.int .u8 0), .v (.int .u8 0), .v (.int .u8 0), .v (.int .u8 0), .v (.int .u8 0), .v (.int .u8 0), .v (.int .u8 0), .v (.int .u8 0), .v (.int .u8 0), .v (.int .u8 0), .v (.int .u8 0), .v (.int .u8 0), .v (.int .u8 0), .v (.int .u8 0), .v (.int .u8 0), .v (.int .u8 0), .v (.int .u8 0), .v (.int .u8 0), .v (.int .u8 0), .v (.int .u8 0), .v (.int .u8 0), .v (.int .u8 0), .v (.int .u8 0), .v (.int .u8 0), .v (.int .u8 0), .v (.int .u8 0), .v (.int .u8 0), .v (.int .u8 0), .v (.int .u8 0), .v (.int .u8 0), .v (.int .u8 0), .v (.int .u8 0), .v (.int .u8 0), .v (.int .u8 0), .v (.int .u8 0), .v (.int .u8 0), .v (.int .u8 0), .v (.int .u8 0), .v (.int .u8 0), .v (.int .u8 0), .v (.int .u8 0), .v (.int .u8 0), .v (.int .u8 0), .v (.int .u8 0), .v (.int .u8 0), .v (.int .u8 0), .v (.int .u8 0), .v (.int .u8 0), .v (.int .u8 0), .v (.int .u8 0), .v (.int .u8 0), .v (.int .u8 0), .v (.int .u8 0), .v (.int .u8 0), .v (.int .u8 0), .v (.int .u8 0), .v (.int .u8 0), .v (.int .u8 0), .v (.int .u8 0), .v (.int .u8 0), .v (.int .u8 0)] 0 0 0 [] none 0 []),
   (98, .mk true 2 [(0, false, 1), (1, false, 1)] [.v (.int .u8 0), .v (.int .u8 0)] 0 0 0 [] none 5 [0, 0]),
   (99, .mk true 2 [(0, false, 1), (1, false, 1)] [.v (.int .u8 0), .v (.int .u8 0)] 0 0 0 [] none 5 [0, 0]),
   (100, .mk true 32 [] [.v (.int .u8 0), .v (.int .u8 0), .v (.int .u8 0), .v (.int .u8 0), .v (.int .u8 0), .v (.int .u8 0), .v (.int .u8 0), .v (.int .u8 0), .v (.int .u8 0), .v (.int .u8 0), .v (.int .u8 0), .v (.int .u8 0), .v (.int .u8 0), .v (.int .u8 0), .v (.int .u8 0), .v (.int .u8 0), .v (.int .u8 0), .v (.int .u8 0), .v (.int .u8 0), .v (.int .u8 0), .v (.int .u8 0), .v (.int .u8 0), .v (.int .u8 0), .v (.int .u8 0), .v (.int .u8 0), .v (.int .u8 0), .v (.int .u8 0), .v (.int .u8 0), .v (.int .u8 0), .v (.int .u8 0), .v (.int .u8 0), .v (.int .u8 0)] 0 0 0 [] none 0 []),
   (104, .mk false 1 [] [.v (.pointer none)] 0 0 0 [] none 0 []),
   (107, .mk false 1 [] [.v (.int .u64 0)] 0 0 0 [] (some .u64) 3 []),
   (111, .mk false 1 [] [.v (.pointer none)] 0 0 0 [] none 0 []),
   (114, .mk false 1 [] [.v (.pointer none)] 0 0 0 [] none 0 []),
   (119, .mk true 4 [(0, false, 1), (1, false, 1), (2, false, 1), (3, false, 1)] [.v (.pointer none), .v (.pointer none), .v (.pointer none), .v (.string ⟨#[]⟩)] 0 0 0 [] none 5 []),
   (120, .mk true 4 [(0, false, 1), (1, false, 1), (2, false, 1), (3, false, 1)] [.v (.pointer none), .v (.pointer none), .v (.pointer none), .v (.string ⟨#[]⟩)] 0 0 0 [] none 5 []),
   (121, .mk true 0 [] [] 0 0 0 [] none 0 []),
   (125, .mk false 1 [] [.v (.int .u8 0)] 0 0 0 [] (some .u8) 3 []),
   (126, .mk false 1 [] [.v (.int .u8 0)] 0 0 0 [] (some .u8) 3 []),
   (128, .mk false 1 [] [.v (.int .i32 0)] 0 0 0 [] (some .i32) 3 []),
   (129, .mk false 1 [] [.v (.int .i32 0)] 0 0 0 [] (some .i32) 3 []),
   (130, .mk true 11 [(0, false, 1), (1, false, 1), (2, false, 1), (3, false, 1), (4, false, 1), (5, false, 1), (6, false, 1), (7, false, 1), (8, false, 1), (9, false, 1), (10, false, 1)] [.v (.int .u64 0), .v (.int .u64 0), .v (.int .u32 0), .v (.int .u8 0), .v (.int .u8 0), .v (.int .u8 0), .v (.int .u8 0), .v .nilFunc, .v (.pointer none), .v (.int .i32 0), .v (.int .i32 0)] 0 0 0 [] none 5 []),
   (131, .mk true 11 [(0, false, 1), (1, false, 1), (2, false, 1), (3, false, 1), (4, false, 1), (5, false, 1), (6, false, 1), (7, false, 1), (8, false, 1), (9, false, 1), (10, false, 1)] [.v (.int .u64 0), .v (.int .u64 0), .v (.int .u32 0), .v (.int .u8 0), .v (.int .u8 0), .v (.int .u8 0), .v (.int .u8 0), .v .nilFunc, .v (.pointer none), .v (.int .i32 0), .v (.int .i32 0)] 0 0 0 [] none 5 [])]

theorem tyL_ok : tyL.map (fun p => tyOf Tryd.prog p.1) = tyL.map (fun p => some p.2) := by kernel_rfl

def ty (t : TypeId) : Option TI := mget tyL t

theorem ty_ok : ∀ t ti, ty t = some ti → tyOf Tryd.prog t = some ti := tyTab_ok tyL_ok

end Go.Proofs.YtdmccifaggmmkaaDoor.M
