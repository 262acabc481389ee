/- What is proved here: the machine's table of the types of the program (no statement of the seat). -/
import Derived.Test.YtlnflhmepnbcmaaM6
namespace Go.Proofs.Ytlnflhmepnbcmaa.M
open Go Go.RowKit

def tyL : List (Nat × TI) :=
  [(2, .mk false 1 [] [.v (.int .i64 0)] 0 0 0 [] (some .i64) 3 []),
   (3, .mk false 1 [] [.v (.int .i64 0)] 0 0 0 [] (some .i64) 3 []),
   (4, .mk false 1 [] [.v (.bool false)] 0 0 0 [] none 1 []),
   (5, .mk false 1 [] [.v (.int .u8 0)] 0 0 0 [] (some .u8) 3 []),
   (6, .mk false 1 [] [.v (.int .u8 0)] 0 0 0 [] (some .u8) 3 []),
   (7, .mk true 4 [(0, false, 1), (1, false, 1), (2, false, 1), (3, false, 1)] [.v (.int .i64 0), .v (.int .i64 0), .v (.bool false), .v (.int .u8 0)] 0 0 0 [] none 5 [0, 0, 2, 0]),
   (8, .mk true 4 [(0, false, 1), (1, false, 1), (2, false, 1), (3, false, 1)] [.v (.int .i64 0), .v (.int .i64 0), .v (.bool false), .v (.int .u8 0)] 0 0 0 [] none 5 [0, 0, 2, 0]),
   (9, .mk false 1 [] [.v (.string ⟨#[]⟩)] 0 0 0 [] none 2 []),
   (10, .mk false 1 [] [.v (.string ⟨#[]⟩)] 0 0 0 [] none 2 []),
   (11, .mk false 1 [] [.v (.string ⟨#[]⟩)] 0 0 0 [] none 2 []),
   (12, .mk false 1 [] [.v (.int .u64 0)] 0 0 0 [] (some .u64) 3 []),
   (13, .mk true 2 [(0, false, 1), (1, false, 1)] [.v (.string ⟨#[]⟩), .v (.int .u64 0)] 0 0 0 [] none 5 []),
   (14, .mk true 2 [(0, false, 1), (1, false, 1)] [.v (.string ⟨#[]⟩), .v (.int .u64 0)] 0 0 0 [] none 5 []),
   (15, .mk false 1 [] [.v (.pointer none)] 0 0 0 [] none 0 []),
   (16, .mk false 1 [] [.v (.pointer none)] 0 0 0 [] none 0 []),
   (17, .mk false 1 [] [.v (.pointer none)] 0 0 0 [] none 0 []),
   (18, .mk true 1 [(0, false, 1)] [.v (.pointer none)] 0 0 0 [] none 5 []),
   (19, .mk true 1 [(0, false, 1)] [.v (.pointer none)] 0 0 0 [] none 5 []),
   (20, .mk false 1 [] [.v .nilIface] 0 0 0 [] none 0 []),
   (21, .mk false 1 [] [.v (.int .i32 0)] 0 0 0 [] (some .i32) 3 []),
   (22, .mk false 1 [] [.e0] 29 5 48 [.v (.string ⟨#[]⟩), .v (.int .i64 0), .v (.int .i64 0), .v (.int .i64 0), .v (.int .i64 0)] none 4 []),
   (23, .mk false 1 [] [.v (.int .i64 0)] 0 0 0 [] (some .i64) 3 []),
   (28, .mk true 5 [(0, false, 1), (1, false, 1), (2, false, 1), (3, false, 1), (4, false, 1)] [.v (.string ⟨#[]⟩), .v (.int .i64 0), .v (.int .i64 0), .v (.int .i64 0), .v (.int .i64 0)] 0 0 0 [] none 5 [1, 0, 0, 0, 0]),
   (29, .mk true 5 [(0, false, 1), (1, false, 1), (2, false, 1), (3, false, 1), (4, false, 1)] [.v (.string ⟨#[]⟩), .v (.int .i64 0), .v (.int .i64 0), .v (.int .i64 0), .v (.int .i64 0)] 0 0 0 [] none 5 [1, 0, 0, 0, 0]),
   (30, .mk false 1 [] [.e0] 35 3 32 [.v (.string ⟨#[]⟩), .v (.int .i64 0), .v (.int .i64 0)] none 4 []),
   (34, .mk true 3 [(0, false, 1), (1, false, 1), (2, false, 1)] [.v (.string ⟨#[]⟩), .v (.int .i64 0), .v (.int .i64 0)] 0 0 0 [] none 5 [1, 0, 0]),
   (35, .mk true 3 [(0, false, 1), (1, false, 1), (2, false, 1)] [.v (.string ⟨#[]⟩), .v (.int .i64 0), .v (.int .i64 0)] 0 0 0 [] none 5 [1, 0, 0]),
   (37, .mk true 2 [(0, false, 1), (1, false, 1)] [.v (.int .i64 0), .v (.int .i64 0)] 0 0 0 [] none 5 [0, 0]),
   (38, .mk true 2 [(0, false, 1), (1, false, 1)] [.v (.int .i64 0), .v (.int .i64 0)] 0 0 0 [] none 5 [0, 0]),
   (39, .mk true 2 [(0, false, 1), (1, false, 1)] [.v (.int .i64 0), .v (.int .i64 0)] 0 0 0 [] none 5 [0, 0]),
   (40, .mk true 2 [(0, false, 1), (1, false, 1)] [.v (.int .i64 0), .v (.int .i64 0)] 0 0 0 [] none 5 [0, 0]),
   (41, .mk true 8 [(0, false, 1), (1, false, 1), (2, false, 1), (3, false, 1), (4, true, 2), (6, true, 2)] [.v (.int .i64 0), .v (.int .i64 0), .v (.int .i64 0), .v (.int .i64 0), .v (.int .i64 0), .v (.int .i64 0), .v (.int .i64 0), .v (.int .i64 0)] 0 0 0 [] none 5 [0, 0, 0, 0, 0, 0, 0, 0]),
   (42, .mk true 8 [(0, false, 1), (1, false, 1), (2, false, 1), (3, false, 1), (4, true, 2), (6, true, 2)] [.v (.int .i64 0), .v (.int .i64 0), .v (.int .i64 0), .v (.int .i64 0), .v (.int .i64 0), .v (.int .i64 0), .v (.int .i64 0), .v (.int .i64 0)] 0 0 0 [] none 5 [0, 0, 0, 0, 0, 0, 0, 0]),
   (55, .mk false 1 [] [.e0] 3 1 8 [.v (.int .i64 0)] none 4 []),
   (58, .mk false 1 [] [.e0] 60 7 64 [.v (.string ⟨#[]⟩), .v (.int .i64 0), .v (.int .i64 0), .v (.int .i64 0), .v (.int .i64 0), .v (.int .i64 0), .v (.int .i64 0)] none 4 []),
   (59, .mk true 7 [(0, true, 5), (5, true, 2)] [.v (.string ⟨#[]⟩), .v (.int .i64 0), .v (.int .i64 0), .v (.int .i64 0), .v (.int .i64 0), .v (.int .i64 0), .v (.int .i64 0)] 0 0 0 [] none 5 [1, 0, 0, 0, 0, 0, 0]),
   (60, .mk true 7 [(0, true, 5), (5, true, 2)] [.v (.string ⟨#[]⟩), .v (.int .i64 0), .v (.int .i64 0), .v (.int .i64 0), .v (.int .i64 0), .v (.int .i64 0), .v (.int .i64 0)] 0 0 0 [] none 5 [1, 0, 0, 0, 0, 0, 0]),
   (63, .mk true 8 [(0, false, 1), (1, false, 1), (2, false, 1), (3, false, 1), (4, false, 1), (5, false, 1), (6, false, 1), (7, false, 1)] [.v (.int .i64 0), .v (.int .i64 0), .v (.int .i64 0), .v (.int .i64 0), .v (.int .i64 0), .v (.int .i64 0), .v (.int .i64 0), .v (.bool false)] 0 0 0 [] none 5 [0, 0, 0, 0, 0, 0, 0, 2]),
   (64, .mk true 8 [(0, false, 1), (1, false, 1), (2, false, 1), (3, false, 1), (4, false, 1), (5, false, 1), (6, false, 1), (7, false, 1)] [.v (.int .i64 0), .v (.int .i64 0), .v (.int .i64 0), .v (.int .i64 0), .v (.int .i64 0), .v (.int .i64 0), .v (.int .i64 0), .v (.bool false)] 0 0 0 [] none 5 [0, 0, 0, 0, 0, 0, 0, 2]),
   (70, .mk false 1 [] [.e0] 23 1 8 [.v (.int .i64 0)] none 4 []),
   (71, .mk false 1 [] [.e0] 22 1 24 [.e0] none 4 []),
   (81, .mk false 1 [] [.v (.int .u64 0)] 0 0 0 [] (some .u64) 3 []),
   (85, .mk false 1 [] [.v (.int .i64 0)] 0 0 0 [] (some .i64) 3 []),
   (94, .mk false 1 [] [.v (.int .u32 0)] 0 0 0 [] (some .u32) 3 []),
   (96, .mk false 1 [] [.v (.int .u64 0)] 0 0 0 [] (some .u64) 3 []),
   (98, .mk false 1 [] [.v (.int .u64 0)] 0 0 0 [] (some .u64) 3 []),
   (102, .mk false 1 [] [.v (.pointer none)] 0 0 0 [] none 0 []),
   (105, .mk false 1 [] [.v (.pointer none)] 0 0 0 [] none 0 []),
   (109, .mk true 4 [(0, false, 1), (1, false, 1), (2, false, 1), (3, false, 1)] [.v (.pointer none), .v (.pointer none), .v (.pointer none), .v (.string ⟨#[]⟩)] 0 0 0 [] none 5 []),
   (110, .mk true 4 [(0, false, 1), (1, false, 1), (2, false, 1), (3, false, 1)] [.v (.pointer none), .v (.pointer none), .v (.pointer none), .v (.string ⟨#[]⟩)] 0 0 0 [] none 5 []),
   (111, .mk true 0 [] [] 0 0 0 [] none 0 []),
   (115, .mk false 1 [] [.v (.int .u8 0)] 0 0 0 [] (some .u8) 3 []),
   (116, .mk false 1 [] [.v (.int .u8 0)] 0 0 0 [] (some .u8) 3 []),
   (118, .mk false 1 [] [.v (.pointer none)] 0 0 0 [] none 0 []),
   (119, .mk false 1 [] [.v (.int .i32 0)] 0 0 0 [] (some .i32) 3 []),
   (120, .mk false 1 [] [.v (.int .i32 0)] 0 0 0 [] (some .i32) 3 []),
   (121, .mk true 11 [(0, false, 1), (1, false, 1), (2, false, 1), (3, false, 1), (4, false, 1), (5, false, 1), (6, false, 1), (7, false, 1), (8, false, 1), (9, false, 1), (10, false, 1)] [.v (.int .u64 0), .v (.int .u64 0), .v (.int .u32 0), .v (.int .u8 0), .v (.int .u8 0), .v (.int .u8 0), .v (.int .u8 0), .v .nilFunc, .v (.pointer none), .v (.int .i32 0), .v (.int .i32 0)] 0 0 0 [] none 5 []),
   (122, .mk true 11 [(0, false, 1), (1, false, 1), (2, false, 1), (3, false, 1), (4, false, 1), (5, false, 1), (6, false, 1), (7, false, 1), (8, false, 1), (9, false, 1), (10, false, 1)] [.v (.int .u64 0), .v (.int .u64 0), .v (.int .u32 0), .v (.int .u8 0), .v (.int .u8 0), .v (.int .u8 0), .v (.int .u8 0), .v .nilFunc, .v (.pointer none), .v (.int .i32 0), .v (.int .i32 0)] 0 0 0 [] none 5 []),
   (123, .mk false 1 [] [.v (.pointer none)] 0 0 0 [] none 0 [])]

theorem tyL_ok : tyL.map (fun p => tyOf Try.prog p.1) = tyL.map (fun p => some p.2) := by kernel_rfl

def ty (t : TypeId) : Option TI := mget tyL t

theorem ty_ok : ∀ t ti, ty t = some ti → tyOf Try.prog t = some ti := tyTab_ok tyL_ok

end Go.Proofs.Ytlnflhmepnbcmaa.M
