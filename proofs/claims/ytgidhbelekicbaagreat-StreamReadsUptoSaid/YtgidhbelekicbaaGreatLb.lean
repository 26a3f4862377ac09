/-
  Part of the proof of StreamReadsUptoSaid: A closed run: the document formats.
-/
import Derived.Test.YtgidhbelekicbaaGreatSm
import Derived.KernelRfl
set_option linter.unusedVariables false
namespace Go.Proofs
open Go.Eng
noncomputable def m26a : Memo := ⟨26, [.pointer (some ⟨11, 0, none⟩), .agg ⟨[.int .i64 20, .int .i64 3, .int .i64 9]⟩], [(10, .cells (rp (.int .u8 0) 10240) 5 0),
 (11, .cells ([.slice (some ⟨10, 0, none⟩) 10240 10240, .slice none 0 0, .bool true, .int .i64 (-1), .int .i64 0, .int .i64 0]) 135 0)], 464, .tuple ⟨[.pointer (some ⟨5327, 0, none⟩), .int .i64 0]⟩,
 [(10, .cells ([.int .u8 67, .int .u8 79, .int .u8 80, .int .u8 49] ++ rp (.int .u8 0) 8 ++ [.int .u8 20, .int .u8 0, .int .u8 0, .int .u8 0, .int .u8 3, .int .u8 9, .int .u8 0, .int .u8 0, .int .u8 0, .int .u8 1] ++ rp (.int .u8 0) 486 ++ [.int .u8 16, .int .u8 191, .int .u8 81, .int .u8 98] ++ rp (.int .u8 0) 512 ++ [.int .u8 66] ++ rp (.int .u8 0) 12 ++ [.int .u8 16] ++ rp (.int .u8 0) 494 ++ [.int .u8 223, .int .u8 21, .int .u8 206, .int .u8 53] ++ rp (.int .u8 0) 8704) 5 0),
 (11, .cells ([.slice (some ⟨10, 0, none⟩) 10240 10240, .slice none 0 0, .bool true, .int .i64 (-1), .int .i64 4, .int .i64 3]) 135 0),
 (472, .cells ([.int .i64 9, .slice (some ⟨564, 0, none⟩) 16 4612811918334230544, .slice (some ⟨566, 0, none⟩) 16 4612811918334230544, .slice (some ⟨568, 0, none⟩) 16 4617315517961601040, .slice none 0 0, .int .i64 0, .bool true]) 84 0),
 (564, .cells (rp (.int .i64 0) 16) 3 2),
 (566, .cells (rp (.bool false) 16) 4 2),
 (568, .cells ([.int .i64 0, .int .i64 0, .slice none 0 0, .slice none 0 0, .int .i64 0, .int .i64 0, .int .i64 0, .slice none 0 0, .slice none 0 0, .int .i64 0, .int .i64 0, .int .i64 0, .slice none 0 0, .slice none 0 0, .int .i64 0, .int .i64 0, .int .i64 0, .slice none 0 0, .slice none 0 0, .int .i64 0, .int .i64 0, .int .i64 0, .slice none 0 0, .slice none 0 0, .int .i64 0, .int .i64 0, .int .i64 0, .slice none 0 0, .slice none 0 0, .int .i64 0, .int .i64 0, .int .i64 0, .slice none 0 0, .slice none 0 0, .int .i64 0, .int .i64 0, .int .i64 0, .slice none 0 0, .slice none 0 0, .int .i64 0, .int .i64 0, .int .i64 0, .slice none 0 0, .slice none 0 0, .int .i64 0, .int .i64 0, .int .i64 0, .slice none 0 0, .slice none 0 0, .int .i64 0, .int .i64 0, .int .i64 0, .slice none 0 0, .slice none 0 0, .int .i64 0, .int .i64 0, .int .i64 0, .slice none 0 0, .slice none 0 0, .int .i64 0, .int .i64 0, .int .i64 0, .slice none 0 0, .slice none 0 0, .int .i64 0, .int .i64 0, .int .i64 0, .slice none 0 0, .slice none 0 0, .int .i64 0, .int .i64 0, .int .i64 0, .slice none 0 0, .slice none 0 0, .int .i64 0, .int .i64 0, .int .i64 0, .slice none 0 0, .slice none 0 0, .int .i64 0]) 270 6),
 (5327, .cells ([.pointer (some ⟨11, 0, none⟩), .int .i64 20, .int .i64 3, .int .i64 9, .slice none 0 0, .int .i64 1, .int .i64 0, .pointer (some ⟨472, 0, none⟩), .bool false, .int .i64 0]) 88 0)], 5328⟩
theorem m26a_c : chkR m26a (ev (envS smK) 20000 (.call m26a.f m26a.args ⟨puts m26a.pre .lf, m26a.nx⟩)) = true := by kernel_rfl
theorem m26a_ok : MemoOk m26a := memo_of sndK (by kernel_rfl) (by kernel_rfl) m26a_c
noncomputable def m26b : Memo := ⟨26, [.pointer (some ⟨5824, 0, none⟩), .agg ⟨[.int .i64 20, .int .i64 3, .int .i64 9]⟩], [(5823, .cells (rp (.int .u8 0) 10240) 5 0),
 (5824, .cells ([.slice (some ⟨5823, 0, none⟩) 10240 10240, .slice none 0 0, .bool true, .int .i64 (-1), .int .i64 0, .int .i64 0]) 135 0)], 6277, .tuple ⟨[.pointer (some ⟨11140, 0, none⟩), .int .i64 0]⟩,
 [(5823, .cells ([.int .u8 67, .int .u8 79, .int .u8 80, .int .u8 49] ++ rp (.int .u8 0) 8 ++ [.int .u8 20, .int .u8 0, .int .u8 0, .int .u8 0, .int .u8 3, .int .u8 9, .int .u8 0, .int .u8 0, .int .u8 0, .int .u8 1] ++ rp (.int .u8 0) 486 ++ [.int .u8 16, .int .u8 191, .int .u8 81, .int .u8 98] ++ rp (.int .u8 0) 512 ++ [.int .u8 66] ++ rp (.int .u8 0) 12 ++ [.int .u8 16] ++ rp (.int .u8 0) 494 ++ [.int .u8 223, .int .u8 21, .int .u8 206, .int .u8 53] ++ rp (.int .u8 0) 8704) 5 0),
 (5824, .cells ([.slice (some ⟨5823, 0, none⟩) 10240 10240, .slice none 0 0, .bool true, .int .i64 (-1), .int .i64 4, .int .i64 3]) 135 0),
 (6285, .cells ([.int .i64 9, .slice (some ⟨6377, 0, none⟩) 16 4612811918334230544, .slice (some ⟨6379, 0, none⟩) 16 4612811918334230544, .slice (some ⟨6381, 0, none⟩) 16 4617315517961601040, .slice none 0 0, .int .i64 0, .bool true]) 84 0),
 (6377, .cells (rp (.int .i64 0) 16) 3 2),
 (6379, .cells (rp (.bool false) 16) 4 2),
 (6381, .cells ([.int .i64 0, .int .i64 0, .slice none 0 0, .slice none 0 0, .int .i64 0, .int .i64 0, .int .i64 0, .slice none 0 0, .slice none 0 0, .int .i64 0, .int .i64 0, .int .i64 0, .slice none 0 0, .slice none 0 0, .int .i64 0, .int .i64 0, .int .i64 0, .slice none 0 0, .slice none 0 0, .int .i64 0, .int .i64 0, .int .i64 0, .slice none 0 0, .slice none 0 0, .int .i64 0, .int .i64 0, .int .i64 0, .slice none 0 0, .slice none 0 0, .int .i64 0, .int .i64 0, .int .i64 0, .slice none 0 0, .slice none 0 0, .int .i64 0, .int .i64 0, .int .i64 0, .slice none 0 0, .slice none 0 0, .int .i64 0, .int .i64 0, .int .i64 0, .slice none 0 0, .slice none 0 0, .int .i64 0, .int .i64 0, .int .i64 0, .slice none 0 0, .slice none 0 0, .int .i64 0, .int .i64 0, .int .i64 0, .slice none 0 0, .slice none 0 0, .int .i64 0, .int .i64 0, .int .i64 0, .slice none 0 0, .slice none 0 0, .int .i64 0, .int .i64 0, .int .i64 0, .slice none 0 0, .slice none 0 0, .int .i64 0, .int .i64 0, .int .i64 0, .slice none 0 0, .slice none 0 0, .int .i64 0, .int .i64 0, .int .i64 0, .slice none 0 0, .slice none 0 0, .int .i64 0, .int .i64 0, .int .i64 0, .slice none 0 0, .slice none 0 0, .int .i64 0]) 270 6),
 (11140, .cells ([.pointer (some ⟨5824, 0, none⟩), .int .i64 20, .int .i64 3, .int .i64 9, .slice none 0 0, .int .i64 1, .int .i64 0, .pointer (some ⟨6285, 0, none⟩), .bool false, .int .i64 0]) 88 0)], 11141⟩
theorem m26b_c : chkR m26b (ev (envS smK) 20000 (.call m26b.f m26b.args ⟨puts m26b.pre .lf, m26b.nx⟩)) = true := by kernel_rfl
theorem m26b_ok : MemoOk m26b := memo_of sndK (by kernel_rfl) (by kernel_rfl) m26b_c
end Go.Proofs
