/- What is proved here: the machine's table of the types of the program (no statement of the seat). -/
import Derived.Test.YtnkaadiofjoacaaM6
namespace Go.Proofs.Ytnkaadiofjoacaa.M
open Go Go.RowKit

def tyL : List (Nat × TI) :=
  [(2, .mk false 1 [] [.v (.int .i64 0)] 0 0 0 [] (some .i64) 3 []),
   (3, .mk false 1 [] [.v (.int .i64 0)] 0 0 0 [] (some .i64) 3 []),
   (4, .mk false 1 [] [.v (.bool false)] 0 0 0 [] none 1 []),
   (5, .mk false 1 [] [.v (.int .u8 0)] 0 0 0 [] (some .u8) 3 []),
   (6, .mk false 1 [] [.v (.int .u8 0)] 0 0 0 [] (some .u8) 3 []),
   (7, .mk true 4 [(0, false, 1), (1, false, 1), (2, false, 1), (3, false, 1)] [.v (.int .i64 0), .v (.int .i64 0), .v (.bool false), .v (.int .u8 0)] 0 0 0 [] none 5 [0, 0, 2, 0]),
   (8, .mk true 4 [(0, false, 1), (1, false, 1), (2, false, 1), (3, false, 1)] [.v (.int .i64 0), .v (.int .i64 0), .v (.bool false), .v (.int .u8 0)] 0 0 0 [] none 5 [0, 0, 2, 0]),
   (9, .mk false 1 [] [.v (.string ⟨#[]⟩)] 0 0 0 [] none 2 []),
   (10, .mk false 1 [] [.v (.string ⟨#[]⟩)] 0 0 0 [] none 2 []),
   (11, .mk false 1 [] [.v (.string ⟨#[]⟩)] 0 0 0 [] none 2 []),
   (12, .mk false 1 [] [.v (.int .u64 0)] 0 0 0 [] (some .u64) 3 []),
   (13, .mk true 2 [(0, false, 1), (1, false, 1)] [.v (.string ⟨#[]⟩), .v (.int .u64 0)] 0 0 0 [] none 5 []),
   (14, .mk true 2 [(0, false, 1), (1, false, 1)] [.v (.string ⟨#[]⟩), .v (.int .u64 0)] 0 0 0 [] none 5 []),
   (15, .mk false 1 [] [.v (.pointer none)] 0 0 0 [] none 0 []),
   (16, .mk false 1 [] [.v (.pointer none)] 0 0 0 [] none 0 []),
   (17, .mk false 1 [] [.v (.pointer none)] 0 0 0 [] none 0 []),
   (18, .mk true 1 [(0, false, 1)] [.v (.pointer none)] 0 0 0 [] none 5 []),
   (19, .mk true 1 [(0, false, 1)] [.v (.pointer none)] 0 0 0 [] none 5 []),
   (20, .mk false 1 [] [.v .nilIface] 0 0 0 [] none 0 []),
   (21, .mk false 1 [] [.v (.int .i32 0)] 0 0 0 [] (some .i32) 3 []),
   (22, .mk false 1 [] [.e0] 38 5 48 [.v (.string ⟨#[]⟩), .v (.int .i64 0), .v (.int .i64 0), .v (.int .i64 0), .v (.int .i64 0)] none 4 []),
   (23, .mk true 2 [(0, false, 1), (1, false, 1)] [.v (.int .i64 0), .v (.int .i64 0)] 0 0 0 [] none 5 [0, 0]),
   (24, .mk true 2 [(0, false, 1), (1, false, 1)] [.v (.int .i64 0), .v (.int .i64 0)] 0 0 0 [] none 5 [0, 0]),
   (25, .mk false 1 [] [.e0] 30 2 16 [.v (.int .i64 0), .v (.int .i64 0)] none 4 []),
   (26, .mk false 1 [] [.v (.int .i64 0)] 0 0 0 [] (some .i64) 3 []),
   (29, .mk true 2 [(0, false, 1), (1, false, 1)] [.v (.int .i64 0), .v (.int .i64 0)] 0 0 0 [] none 5 [0, 0]),
   (30, .mk true 2 [(0, false, 1), (1, false, 1)] [.v (.int .i64 0), .v (.int .i64 0)] 0 0 0 [] none 5 [0, 0]),
   (35, .mk false 1 [] [.e0] 9 1 16 [.v (.string ⟨#[]⟩)] none 4 []),
   (37, .mk true 5 [(0, false, 1), (1, false, 1), (2, false, 1), (3, false, 1), (4, false, 1)] [.v (.string ⟨#[]⟩), .v (.int .i64 0), .v (.int .i64 0), .v (.int .i64 0), .v (.int .i64 0)] 0 0 0 [] none 5 [1, 0, 0, 0, 0]),
   (38, .mk true 5 [(0, false, 1), (1, false, 1), (2, false, 1), (3, false, 1), (4, false, 1)] [.v (.string ⟨#[]⟩), .v (.int .i64 0), .v (.int .i64 0), .v (.int .i64 0), .v (.int .i64 0)] 0 0 0 [] none 5 [1, 0, 0, 0, 0]),
   (45, .mk true 8 [(0, false, 1), (1, false, 1), (2, false, 1), (3, false, 1), (4, false, 1), (5, false, 1), (6, false, 1), (7, false, 1)] [.v (.int .i64 0), .v (.int .i64 0), .v (.int .i64 0), .v (.int .i64 0), .v (.int .i64 0), .v (.int .i64 0), .v (.int .i64 0), .v (.bool false)] 0 0 0 [] none 5 [0, 0, 0, 0, 0, 0, 0, 2]),
   (46, .mk true 8 [(0, false, 1), (1, false, 1), (2, false, 1), (3, false, 1), (4, false, 1), (5, false, 1), (6, false, 1), (7, false, 1)] [.v (.int .i64 0), .v (.int .i64 0), .v (.int .i64 0), .v (.int .i64 0), .v (.int .i64 0), .v (.int .i64 0), .v (.int .i64 0), .v (.bool false)] 0 0 0 [] none 5 [0, 0, 0, 0, 0, 0, 0, 2]),
   (49, .mk true 2 [(0, false, 1), (1, false, 1)] [.v (.int .i64 0), .v (.int .i64 0)] 0 0 0 [] none 5 [0, 0]),
   (50, .mk true 2 [(0, false, 1), (1, false, 1)] [.v (.int .i64 0), .v (.int .i64 0)] 0 0 0 [] none 5 [0, 0]),
   (51, .mk true 8 [(0, false, 1), (1, false, 1), (2, false, 1), (3, false, 1), (4, true, 2), (6, true, 2)] [.v (.int .i64 0), .v (.int .i64 0), .v (.int .i64 0), .v (.int .i64 0), .v (.int .i64 0), .v (.int .i64 0), .v (.int .i64 0), .v (.int .i64 0)] 0 0 0 [] none 5 [0, 0, 0, 0, 0, 0, 0, 0]),
   (52, .mk true 8 [(0, false, 1), (1, false, 1), (2, false, 1), (3, false, 1), (4, true, 2), (6, true, 2)] [.v (.int .i64 0), .v (.int .i64 0), .v (.int .i64 0), .v (.int .i64 0), .v (.int .i64 0), .v (.int .i64 0), .v (.int .i64 0), .v (.int .i64 0)] 0 0 0 [] none 5 [0, 0, 0, 0, 0, 0, 0, 0]),
   (59, .mk false 1 [] [.e0] 64 3 32 [.v (.string ⟨#[]⟩), .v (.int .i64 0), .v (.int .i64 0)] none 4 []),
   (63, .mk true 3 [(0, false, 1), (1, false, 1), (2, false, 1)] [.v (.string ⟨#[]⟩), .v (.int .i64 0), .v (.int .i64 0)] 0 0 0 [] none 5 [1, 0, 0]),
   (64, .mk true 3 [(0, false, 1), (1, false, 1), (2, false, 1)] [.v (.string ⟨#[]⟩), .v (.int .i64 0), .v (.int .i64 0)] 0 0 0 [] none 5 [1, 0, 0]),
   (67, .mk false 1 [] [.e0] 70 7 64 [.v (.string ⟨#[]⟩), .v (.int .i64 0), .v (.int .i64 0), .v (.int .i64 0), .v (.int .i64 0), .v (.int .i64 0), .v (.int .i64 0)] none 4 []),
   (69, .mk true 7 [(0, true, 5), (5, true, 2)] [.v (.string ⟨#[]⟩), .v (.int .i64 0), .v (.int .i64 0), .v (.int .i64 0), .v (.int .i64 0), .v (.int .i64 0), .v (.int .i64 0)] 0 0 0 [] none 5 [1, 0, 0, 0, 0, 0, 0]),
   (70, .mk true 7 [(0, true, 5), (5, true, 2)] [.v (.string ⟨#[]⟩), .v (.int .i64 0), .v (.int .i64 0), .v (.int .i64 0), .v (.int .i64 0), .v (.int .i64 0), .v (.int .i64 0)] 0 0 0 [] none 5 [1, 0, 0, 0, 0, 0, 0]),
   (75, .mk false 1 [] [.e0] 3 1 8 [.v (.int .i64 0)] none 4 []),
   (81, .mk false 1 [] [.e0] 24 2 16 [.v (.int .i64 0), .v (.int .i64 0)] none 4 []),
   (84, .mk false 1 [] [.unk] 0 0 0 [] none 0 []),
   (92, .mk false 1 [] [.v (.int .u64 0)] 0 0 0 [] (some .u64) 3 []),
   (95, .mk false 1 [] [.e0] 75 1 24 [.e0] none 4 []),
   (98, .mk false 1 [] [.v (.int .i64 0)] 0 0 0 [] (some .i64) 3 []),
   (107, .mk false 1 [] [.v (.int .u32 0)] 0 0 0 [] (some .u32) 3 []),
   (109, .mk false 1 [] [.v (.int .u64 0)] 0 0 0 [] (some .u64) 3 []),
   (111, .mk false 1 [] [.v (.int .u64 0)] 0 0 0 [] (some .u64) 3 []),
   (115, .mk false 1 [] [.v (.pointer none)] 0 0 0 [] none 0 []),
   (118, .mk false 1 [] [.v (.pointer none)] 0 0 0 [] none 0 []),
   (122, .mk true 4 [(0, false, 1), (1, false, 1), (2, false, 1), (3, false, 1)] [.v (.pointer none), .v (.pointer none), .v (.pointer none), .v (.string ⟨#[]⟩)] 0 0 0 [] none 5 []),
   (123, .mk true 4 [(0, false, 1), (1, false, 1), (2, false, 1), (3, false, 1)] [.v (.pointer none), .v (.pointer none), .v (.pointer none), .v (.string ⟨#[]⟩)] 0 0 0 [] none 5 []),
   (124, .mk true 0 [] [] 0 0 0 [] none 0 []),
   (128, .mk false 1 [] [.v (.int .u8 0)] 0 0 0 [] (some .u8) 3 []),
   (129, .mk false 1 [] [.v (.int .u8 0)] 0 0 0 [] (some .u8) 3 []),
   (131, .mk false 1 [] [.v (.pointer none)] 0 0 0 [] none 0 []),
   (132, .mk false 1 [] [.v (.int .i32 0)] 0 0 0 [] (some .i32) 3 []),
   (133, .mk false 1 [] [.v (.int .i32 0)] 0 0 0 [] (some .i32) 3 []),
   (134, .mk true 11 [(0, false, 1), (1, false, 1), (2, false, 1), (3, false, 1), (4, false, 1), (5, false, 1), (6, false, 1), (7, false, 1), (8, false, 1), (9, false, 1), (10, false, 1)] [.v (.int .u64 0), .v (.int .u64 0), .v (.int .u32 0), .v (.int .u8 0), .v (.int .u8 0), .v (.int .u8 0), .v (.int .u8 0), .v .nilFunc, .v (.pointer none), .v (.int .i32 0), .v (.int .i32 0)] 0 0 0 [] none 5 []),
   (135, .mk true 11 [(0, false, 1), (1, false, 1), (2, false, 1), (3, false, 1), (4, false, 1), (5, false, 1), (6, false, 1), (7, false, 1), (8, false, 1), (9, false, 1), (10, false, 1)] [.v (.int .u64 0), .v (.int .u64 0), .v (.int .u32 0), .v (.int .u8 0), .v (.int .u8 0), .v (.int .u8 0), .v (.int .u8 0), .v .nilFunc, .v (.pointer none), .v (.int .i32 0), .v (.int .i32 0)] 0 0 0 [] none 5 []),
   (136, .mk false 1 [] [.v (.pointer none)] 0 0 0 [] none 0 [])]

theorem tyL_ok : tyL.map (fun p => tyOf Try.prog p.1) = tyL.map (fun p => some p.2) := by kernel_rfl

def ty (t : TypeId) : Option TI := mget tyL t

theorem ty_ok : ∀ t ti, ty t = some ti → tyOf Try.prog t = some ti := tyTab_ok tyL_ok

end Go.Proofs.Ytnkaadiofjoacaa.M
