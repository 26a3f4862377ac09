/-
  Part of the proof of StreamReadsUptoSaid: What the facts of the row say of the program.
-/
import Derived.Test.YtgidhbelekicbaaGreatRows
import Derived.JoinedCond
set_option linter.unusedVariables false
namespace Go.Proofs.YtgidhbelekicbaaGreat.streamReads
open Go
abbrev cc := Rows.streamReadsUptoRow
abbrev ss := (Rows.OpenSpec.upto Rows.streamReadsSpec).bare
def reached : List Nat := [3, 4, 6, 7, 19, 40, 42, 41, 92, 94, 93, 161, 91, 160, 43, 95, 162, 44, 97, 98, 96, 163, 45, 46, 99, 165, 164, 236, 100, 166, 238, 227, 237, 318, 167, 168, 239, 101, 102, 169, 240, 47, 8, 20, 49, 103, 170, 241, 48, 22, 57, 50, 104, 51, 105, 171, 107, 52, 53, 54, 106, 55, 56, 9, 10, 11, 21, 12, 13, 14, 5, 15, 23, 58, 24, 59, 25, 60, 108, 109, 172, 242, 173, 110, 111, 112, 174, 243, 244, 302, 357, 367, 368, 406, 420, 421, 428, 407, 408, 422, 365, 373, 114, 178, 113, 175, 245, 246, 247, 77, 83, 151, 248, 319, 82, 152, 249, 150, 80, 177, 176, 115, 179, 215, 297, 116, 180, 250, 251, 27, 181, 252, 320, 253, 61, 117, 26, 62, 118, 182, 119, 120, 183, 121, 123, 187, 122, 184, 254, 255, 256, 321, 322, 380, 323, 324, 186, 185, 124, 188, 257, 189, 258, 125, 190, 259, 260, 191, 261, 63, 28, 29, 64, 127, 128, 157, 229, 230, 312, 313, 374, 308, 278, 231, 159, 235, 154, 193, 156, 228, 310, 311, 372, 194, 262, 263, 325, 381, 382, 363, 326, 327, 383, 358, 404, 419, 405, 328, 384, 291, 195, 264, 329, 330, 385, 265, 331, 332, 196, 266, 267, 211, 294, 295, 359, 360, 361, 197, 268, 275, 345, 346, 293, 333, 386, 411, 412, 424, 430, 378, 269, 126, 89, 192, 87, 155, 65, 129, 198, 130, 199, 208, 200, 270, 334, 335, 303, 296, 271, 336, 387, 388, 389, 390, 369, 337, 338, 339, 391, 394, 272, 288, 212, 352, 353, 400, 214, 209, 213, 210, 285, 340, 392, 413, 393, 414, 425, 341, 273, 287, 342, 274, 286, 343, 344, 144, 201, 131, 66, 132, 133, 202, 276, 203, 277, 279, 280, 347, 395, 396, 415, 416, 283, 281, 348, 349, 282, 351, 399, 397, 398, 284, 350, 204, 67, 134, 205, 206, 289, 354, 401, 402, 417, 426, 356, 403, 418, 427, 355, 290, 68, 38, 135, 136, 207, 292, 137, 69, 138, 139, 140, 70, 141, 142, 143, 71, 72, 73, 74, 146, 220, 145, 216, 217, 218, 298, 301, 366, 362, 299, 300, 364, 219, 75, 148, 224, 147, 221, 222, 304, 305, 371, 409, 370, 223, 306, 16, 30, 31, 76, 149, 90, 158, 232, 233, 314, 375, 316, 377, 379, 315, 376, 317, 410, 423, 429, 234, 226, 309, 225, 307, 78, 79, 153, 81, 18, 39, 32, 84, 85, 17, 33, 35, 36, 37, 88, 34, 86]
theorem closure_eq : Tryz.prog.closure 3 = reached := by kernel_rfl
theorem a1 : cc.wf (OpenSpec.ofChange ss) = true := by kernel_rfl
theorem a2 : laidOutB Tryz.prog = true := by kernel_rfl
theorem a3 : mapsRowed Tryz.prog = true := by kernel_rfl
theorem a4 : Tryz.f3.params.all (Tryz.prog.readableRec ·) = true := by kernel_rfl
theorem a5 : namedTie Tryz.prog cc.named ss.vars = true := by kernel_rfl
theorem a6 : (cc.stops == []) = true := by kernel_rfl
theorem a7 : (Tryz.prog.stops == []) = true := by kernel_rfl
theorem a8 : (cc.knobs == []) = true := by kernel_rfl
theorem a9 : (Tryz.prog.stopKnobs == []) = true := by kernel_rfl
theorem a10 : (cc.inPlace == Tryz.prog.inPlace 3) = true := by
 unfold Program.inPlace
 rw [closure_eq]
 kernel_rfl
theorem unf : Tryz.prog.unfollowed 3 = true := by
 unfold Program.unfollowed
 rw [closure_eq]
 kernel_rfl
theorem a11 : (cc.unfollowed == Tryz.prog.unfollowed 3) = true := by rw [unf]; rfl
theorem a12 : (cc.recurses == Tryz.prog.recurses 3) = true := by
 unfold Program.recurses
 rw [unf, Bool.true_or]; rfl
theorem a13 : (cc.named == Tryz.prog.varsNamed 3) = true := by
 unfold Program.varsNamed
 rw [closure_eq]
 kernel_rfl
theorem a14 : (cc.maps == (Tryz.f3.params.toList ++ ss.plain.varTypes Tryz.prog).any (Tryz.prog.mapsRec ·)) = true := by kernel_rfl
theorem a15 : (cc.ifaces == (Tryz.f3.params.toList ++ ss.plain.varTypes Tryz.prog).any (Tryz.prog.ifacesRec ·)) = true := by kernel_rfl
theorem a16 : (cc.mapsOut == Tryz.prog.mapsAmong Tryz.f3.resultTypes.toList) = true := by kernel_rfl
theorem a17 : (cc.loops == (Tryz.f3.params.toList ++ ss.plain.varTypes Tryz.prog).any (Tryz.prog.loopsFrom ·)) = true := by kernel_rfl
theorem a18 : (cc.wideKeys == (Tryz.f3.params.toList ++ ss.plain.varTypes Tryz.prog ++ Tryz.f3.resultTypes.toList).any (Tryz.prog.wideKeysFrom ·)) = true := by kernel_rfl
theorem a19 : ss.vars.all (Tryz.prog.varReadable ·) = true := by kernel_rfl
theorem a20 : Tryz.f3.resultTypes.all (fun t => Tryz.prog.readableRec t && decide (t < Tryz.prog.types.size)) = true := by kernel_rfl
theorem a21 : (cc.ifacesOut == Tryz.f3.resultTypes.toList.any (Tryz.prog.ifacesRec ·)) = true := by kernel_rfl
theorem a22 : (cc.loopsOut == Tryz.f3.resultTypes.toList.any (Tryz.prog.loopsFrom ·)) = true := by kernel_rfl
theorem a23 : (cc.plainKeys == Tryz.prog.plainKeys) = true := by kernel_rfl
theorem a24 : cc.shortTexts.isNone = true := by kernel_rfl
theorem a25 : Tryz.prog.stopsHeard = true := by kernel_rfl
theorem a26 : Tryz.prog.mayEnter = true := by kernel_rfl
theorem a27 : (cc.lifted == Tryz.prog.liftsFinal) = true := by kernel_rfl
theorem a28 : (Tryz.prog.make == some cc.make) = true := by kernel_rfl
theorem a29 : (cc.kinds == (if cc.domain.isEmpty then [] else Tryz.f3.params.toList.map fun t => match Tryz.prog.underlying t with | some (.int k) => some k | _ => none)) = true := by kernel_rfl
theorem a30 : (cc.pinned == cc.pinnedBy) = true := by kernel_rfl
theorem a31 : (cc.veiled == (Tryz.f3.params.toList ++ ss.plain.varTypes Tryz.prog ++ Tryz.f3.resultTypes.toList).any (Tryz.prog.veiledRec ·)) = true := by kernel_rfl
theorem a32 : cc.veiledFits Tryz.prog Tryz.f3.params.toList (Tryz.f3.params.toList ++ ss.plain.varTypes Tryz.prog ++ Tryz.f3.resultTypes.toList) = true := by kernel_rfl
end Go.Proofs.YtgidhbelekicbaaGreat.streamReads
