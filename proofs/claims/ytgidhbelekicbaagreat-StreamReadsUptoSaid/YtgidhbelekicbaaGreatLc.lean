/-
  Part of the proof of StreamReadsUptoSaid: A closed run: both worlds are played.
-/
import Derived.Test.YtgidhbelekicbaaGreatLa
import Derived.Test.YtgidhbelekicbaaGreatLb
import Derived.KernelRfl
set_option linter.unusedVariables false
namespace Go.Proofs
open Go.Eng
theorem mcons {m : Memo} {r : List Memo} (h : MemoOk m) (hr : ∀ x ∈ r, MemoOk x) : ∀ x ∈ m :: r, MemoOk x := fun x hx => by
 rcases List.mem_cons.1 hx with rfl | hx
 ·exact h
 ·exact hr x hx
noncomputable def smP := smM [m25a, m26a, m25b, m26b]
theorem sndP : ∀ n, Sound Tryz.prog (envS smP) (ev (envS smP) n) := sndM (mcons m25a_ok (mcons m26a_ok (mcons m25b_ok (mcons m26b_ok (fun _ h => by cases h)))))
noncomputable def m15a : Memo := ⟨15, [.agg ⟨[.int .i64 20, .int .i64 3, .int .i64 9, .slice (some ⟨5, 0, none⟩) 3 3]⟩], [(1, .cells ([.int .u8 97]) 5 0),
 (2, .cells ([.int .u8 49]) 5 0),
 (3, .cells ([.int .u8 98]) 5 0),
 (4, .cells ([.int .u8 50, .int .u8 50]) 5 0),
 (5, .cells ([.int .i64 4, .int .i64 0, .slice none 0 0, .slice none 0 0, .int .i64 0, .int .i64 1, .slice (some ⟨1, 0, none⟩) 1 1, .slice (some ⟨2, 0, none⟩) 1 1, .int .i64 0, .int .i64 1, .slice (some ⟨3, 0, none⟩) 1 1, .slice (some ⟨4, 0, none⟩) 2 2]) 48 0)], 6, .tuple ⟨[.pointer (some ⟨463, 0, none⟩), .pointer (some ⟨5327, 0, none⟩), .bool true]⟩,
 [(1, .cells ([.int .u8 97]) 5 0),
 (2, .cells ([.int .u8 49]) 5 0),
 (3, .cells ([.int .u8 98]) 5 0),
 (4, .cells ([.int .u8 50, .int .u8 50]) 5 0),
 (5, .cells ([.int .i64 4, .int .i64 0, .slice none 0 0, .slice none 0 0, .int .i64 0, .int .i64 1, .slice (some ⟨1, 0, none⟩) 1 1, .slice (some ⟨2, 0, none⟩) 1 1, .int .i64 0, .int .i64 1, .slice (some ⟨3, 0, none⟩) 1 1, .slice (some ⟨4, 0, none⟩) 2 2]) 48 0),
 (7, .map [(.int .i64 2, .agg ⟨[.int .u8 66] ++ rp (.int .u8 0) 12 ++ [.int .u8 16] ++ rp (.int .u8 0) 494 ++ [.int .u8 223, .int .u8 21, .int .u8 206, .int .u8 53]⟩), (.int .i64 0, .agg ⟨[.int .u8 67, .int .u8 79, .int .u8 80, .int .u8 49] ++ rp (.int .u8 0) 8 ++ [.int .u8 20, .int .u8 0, .int .u8 0, .int .u8 0, .int .u8 3, .int .u8 9, .int .u8 0, .int .u8 0, .int .u8 0, .int .u8 1] ++ rp (.int .u8 0) 486 ++ [.int .u8 16, .int .u8 191, .int .u8 81, .int .u8 98]⟩)]),
 (8, .map []),
 (9, .cells ([.int .i64 20, .map (some 7), .slice none 0 0, .map (some 8), .bool true, .int .i64 (-1), .int .i64 4, .int .i64 3]) 147 0),
 (19, .cells ([.int .i64 1] ++ rp (.int .i64 0) 15) 3 0),
 (20, .cells (rp (.bool false) 16) 4 0),
 (21, .cells ([.int .i64 9, .slice (some ⟨19, 0, none⟩) 16 16, .slice (some ⟨20, 0, none⟩) 16 16, .pointer (some ⟨22, 0, none⟩), .int .i64 0, .int .i64 15, .int .i64 0, .int .i64 1, .int .i64 0, .slice (some ⟨5393, 0, none⟩) 1 4612811918334230529, .int .i64 0]) 263 0),
 (22, .cells ([.slice (some ⟨5391, 0, none⟩) 1 4613937818241073153]) 438 0),
 (309, .map [(.int .i64 1, .agg ⟨[.int .i64 1, .int .i64 0, .slice (some ⟨5626, 0, none⟩) 2 4616189618054758402, .slice none 0 0, .int .i64 0]⟩)]),
 (310, .cells ([.pointer (some ⟨21, 0, none⟩), .map (some 309), .slice (some ⟨5642, 0, none⟩) 2 4613937818241073154, .int .i64 0]) 198 0),
 (463, .cells ([.pointer (some ⟨9, 0, none⟩), .pointer (some ⟨310, 0, none⟩), .int .i64 20, .int .i64 3, .int .i64 9, .slice (some ⟨5331, 0, none⟩) 1 4616189618054758401, .int .i64 2, .int .i64 0, .bool false, .int .i64 0]) 105 0),
 (5331, .cells ([.int .i64 1, .int .i64 1, .int .i64 1, .int .i64 2]) 172 5),
 (5378, .cells ([.pointer (some ⟨21, 0, none⟩)]) 194 0),
 (5379, .cells ([.int .i64 1]) 3 0),
 (5380, .cells ([.int .i64 1]) 3 0),
 (5391, .cells ([.int .i64 2, .int .i64 16]) 440 3),
 (5393, .cells ([.func (.func 405) ⟨[]⟩ ⟨[.pointer (some ⟨5378, 0, none⟩), .pointer (some ⟨5379, 0, none⟩), .pointer (some ⟨5380, 0, none⟩)]⟩]) 415 2),
 (5397, .cells ([.slice (some ⟨5400, 0, none⟩) 1 4612811918334230529, .slice (some ⟨5402, 0, none⟩) 1 4612811918334230529, .int .i64 0, .int .i64 1]) 240 5),
 (5400, .cells ([.int .u8 97]) 5 2),
 (5402, .cells ([.int .u8 49]) 5 2),
 (5406, .cells ([.int .i64 1, .int .i64 0, .int .i64 0, .slice none 0 0, .slice none 0 0, .int .i64 0, .bool false]) 377 8),
 (5626, .cells ([.slice (some ⟨5629, 0, none⟩) 1 4612811918334230529, .slice (some ⟨5631, 0, none⟩) 1 4612811918334230529, .int .i64 0, .int .i64 1, .slice (some ⟨5634, 0, none⟩) 1 4612811918334230529, .slice (some ⟨5636, 0, none⟩) 2 4612811918334230530, .int .i64 0, .int .i64 2]) 240 5),
 (5629, .cells ([.int .u8 97]) 5 2),
 (5631, .cells ([.int .u8 49]) 5 2),
 (5634, .cells ([.int .u8 98]) 5 2),
 (5636, .cells ([.int .u8 50, .int .u8 50]) 5 2),
 (5640, .cells ([.int .i64 1, .int .i64 1, .int .i64 0, .slice (some ⟨5397, 0, none⟩) 1 4616189618054758401, .slice none 0 0, .int .i64 0, .bool true]) 377 8),
 (5642, .cells ([.int .i64 0, .slice (some ⟨5406, 0, none⟩) 1 4619567317775286273, .int .i64 1, .slice (some ⟨5640, 0, none⟩) 1 4619567317775286273]) 307 3)], 5819⟩
theorem m15a_c : chkR m15a (ev (envS smP) 20000 (.call m15a.f m15a.args ⟨puts m15a.pre .lf, m15a.nx⟩)) = true := by kernel_rfl
theorem m15a_ok : MemoOk m15a := memo_of sndP (by kernel_rfl) (by kernel_rfl) m15a_c
noncomputable def m15b : Memo := ⟨15, [.agg ⟨[.int .i64 20, .int .i64 3, .int .i64 9, .slice none 0 0]⟩], [], 5819, .tuple ⟨[.pointer (some ⟨6276, 0, none⟩), .pointer (some ⟨11140, 0, none⟩), .bool true]⟩,
 [(5820, .map [(.int .i64 2, .agg ⟨[.int .u8 66] ++ rp (.int .u8 0) 12 ++ [.int .u8 16] ++ rp (.int .u8 0) 494 ++ [.int .u8 223, .int .u8 21, .int .u8 206, .int .u8 53]⟩), (.int .i64 0, .agg ⟨[.int .u8 67, .int .u8 79, .int .u8 80, .int .u8 49] ++ rp (.int .u8 0) 8 ++ [.int .u8 20, .int .u8 0, .int .u8 0, .int .u8 0, .int .u8 3, .int .u8 9, .int .u8 0, .int .u8 0, .int .u8 0, .int .u8 1] ++ rp (.int .u8 0) 486 ++ [.int .u8 16, .int .u8 191, .int .u8 81, .int .u8 98]⟩)]),
 (5821, .map []),
 (5822, .cells ([.int .i64 20, .map (some 5820), .slice none 0 0, .map (some 5821), .bool true, .int .i64 (-1), .int .i64 4, .int .i64 3]) 147 0),
 (5832, .cells (rp (.int .i64 0) 16) 3 0),
 (5833, .cells (rp (.bool false) 16) 4 0),
 (5834, .cells ([.int .i64 9, .slice (some ⟨5832, 0, none⟩) 16 16, .slice (some ⟨5833, 0, none⟩) 16 16, .pointer (some ⟨5835, 0, none⟩), .int .i64 0, .int .i64 16, .int .i64 0, .int .i64 0, .int .i64 0, .slice none 0 0, .int .i64 0]) 263 0),
 (5835, .cells ([.slice (some ⟨6121, 0, none⟩) 1 4613937818241073153]) 438 0),
 (6121, .cells ([.int .i64 1, .int .i64 16]) 440 3),
 (6122, .map []),
 (6123, .cells ([.pointer (some ⟨5834, 0, none⟩), .map (some 6122), .slice none 0 0, .int .i64 0]) 198 0),
 (6276, .cells ([.pointer (some ⟨5822, 0, none⟩), .pointer (some ⟨6123, 0, none⟩), .int .i64 20, .int .i64 3, .int .i64 9, .slice none 0 0, .int .i64 1, .int .i64 0, .bool false, .int .i64 0]) 105 0)], 11141⟩
theorem m15b_c : chkR m15b (ev (envS smP) 20000 (.call m15b.f m15b.args ⟨puts m15b.pre .lf, m15b.nx⟩)) = true := by kernel_rfl
theorem m15b_ok : MemoOk m15b := memo_of sndP (by kernel_rfl) (by kernel_rfl) m15b_c
end Go.Proofs
