/-
  Part of the proof of StreamReadsUptoSaid: A closed run: the program formats.
-/
import Derived.Test.YtgidhbelekicbaaGreatSm
import Derived.KernelRfl
set_option linter.unusedVariables false
namespace Go.Proofs
open Go.Eng
noncomputable def m25a : Memo := ⟨25, [.pointer (some ⟨9, 0, none⟩), .agg ⟨[.int .i64 20, .int .i64 3, .int .i64 9]⟩], [(7, .map []),
 (8, .map []),
 (9, .cells ([.int .i64 20, .map (some 7), .slice none 0 0, .map (some 8), .bool true, .int .i64 (-1), .int .i64 0, .int .i64 0]) 147 0)], 12, .tuple ⟨[.pointer (some ⟨463, 0, none⟩), .int .i64 0]⟩,
 [(7, .map [(.int .i64 2, .agg ⟨[.int .u8 66] ++ rp (.int .u8 0) 12 ++ [.int .u8 16] ++ rp (.int .u8 0) 494 ++ [.int .u8 223, .int .u8 21, .int .u8 206, .int .u8 53]⟩), (.int .i64 0, .agg ⟨[.int .u8 67, .int .u8 79, .int .u8 80, .int .u8 49] ++ rp (.int .u8 0) 8 ++ [.int .u8 20, .int .u8 0, .int .u8 0, .int .u8 0, .int .u8 3, .int .u8 9, .int .u8 0, .int .u8 0, .int .u8 0, .int .u8 1] ++ rp (.int .u8 0) 486 ++ [.int .u8 16, .int .u8 191, .int .u8 81, .int .u8 98]⟩)]),
 (8, .map []),
 (9, .cells ([.int .i64 20, .map (some 7), .slice none 0 0, .map (some 8), .bool true, .int .i64 (-1), .int .i64 4, .int .i64 3]) 147 0),
 (19, .cells (rp (.int .i64 0) 16) 3 0),
 (20, .cells (rp (.bool false) 16) 4 0),
 (21, .cells ([.int .i64 9, .slice (some ⟨19, 0, none⟩) 16 16, .slice (some ⟨20, 0, none⟩) 16 16, .pointer (some ⟨22, 0, none⟩), .int .i64 0, .int .i64 16, .int .i64 0, .int .i64 0, .int .i64 0, .slice none 0 0, .int .i64 0]) 263 0),
 (22, .cells ([.slice (some ⟨308, 0, none⟩) 1 4613937818241073153]) 438 0),
 (308, .cells ([.int .i64 1, .int .i64 16]) 440 3),
 (309, .map []),
 (310, .cells ([.pointer (some ⟨21, 0, none⟩), .map (some 309), .slice none 0 0, .int .i64 0]) 198 0),
 (463, .cells ([.pointer (some ⟨9, 0, none⟩), .pointer (some ⟨310, 0, none⟩), .int .i64 20, .int .i64 3, .int .i64 9, .slice none 0 0, .int .i64 1, .int .i64 0, .bool false, .int .i64 0]) 105 0)], 464⟩
theorem m25a_c : chkR m25a (ev (envS smK) 20000 (.call m25a.f m25a.args ⟨puts m25a.pre .lf, m25a.nx⟩)) = true := by kernel_rfl
theorem m25a_ok : MemoOk m25a := memo_of sndK (by kernel_rfl) (by kernel_rfl) m25a_c
noncomputable def m25b : Memo := ⟨25, [.pointer (some ⟨5822, 0, none⟩), .agg ⟨[.int .i64 20, .int .i64 3, .int .i64 9]⟩], [(5820, .map []),
 (5821, .map []),
 (5822, .cells ([.int .i64 20, .map (some 5820), .slice none 0 0, .map (some 5821), .bool true, .int .i64 (-1), .int .i64 0, .int .i64 0]) 147 0)], 5825, .tuple ⟨[.pointer (some ⟨6276, 0, none⟩), .int .i64 0]⟩,
 [(5820, .map [(.int .i64 2, .agg ⟨[.int .u8 66] ++ rp (.int .u8 0) 12 ++ [.int .u8 16] ++ rp (.int .u8 0) 494 ++ [.int .u8 223, .int .u8 21, .int .u8 206, .int .u8 53]⟩), (.int .i64 0, .agg ⟨[.int .u8 67, .int .u8 79, .int .u8 80, .int .u8 49] ++ rp (.int .u8 0) 8 ++ [.int .u8 20, .int .u8 0, .int .u8 0, .int .u8 0, .int .u8 3, .int .u8 9, .int .u8 0, .int .u8 0, .int .u8 0, .int .u8 1] ++ rp (.int .u8 0) 486 ++ [.int .u8 16, .int .u8 191, .int .u8 81, .int .u8 98]⟩)]),
 (5821, .map []),
 (5822, .cells ([.int .i64 20, .map (some 5820), .slice none 0 0, .map (some 5821), .bool true, .int .i64 (-1), .int .i64 4, .int .i64 3]) 147 0),
 (5832, .cells (rp (.int .i64 0) 16) 3 0),
 (5833, .cells (rp (.bool false) 16) 4 0),
 (5834, .cells ([.int .i64 9, .slice (some ⟨5832, 0, none⟩) 16 16, .slice (some ⟨5833, 0, none⟩) 16 16, .pointer (some ⟨5835, 0, none⟩), .int .i64 0, .int .i64 16, .int .i64 0, .int .i64 0, .int .i64 0, .slice none 0 0, .int .i64 0]) 263 0),
 (5835, .cells ([.slice (some ⟨6121, 0, none⟩) 1 4613937818241073153]) 438 0),
 (6121, .cells ([.int .i64 1, .int .i64 16]) 440 3),
 (6122, .map []),
 (6123, .cells ([.pointer (some ⟨5834, 0, none⟩), .map (some 6122), .slice none 0 0, .int .i64 0]) 198 0),
 (6276, .cells ([.pointer (some ⟨5822, 0, none⟩), .pointer (some ⟨6123, 0, none⟩), .int .i64 20, .int .i64 3, .int .i64 9, .slice none 0 0, .int .i64 1, .int .i64 0, .bool false, .int .i64 0]) 105 0)], 6277⟩
theorem m25b_c : chkR m25b (ev (envS smK) 20000 (.call m25b.f m25b.args ⟨puts m25b.pre .lf, m25b.nx⟩)) = true := by kernel_rfl
theorem m25b_ok : MemoOk m25b := memo_of sndK (by kernel_rfl) (by kernel_rfl) m25b_c
end Go.Proofs
