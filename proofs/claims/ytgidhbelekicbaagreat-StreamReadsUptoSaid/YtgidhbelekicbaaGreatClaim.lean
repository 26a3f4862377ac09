/-
 StreamReads answers true of all bytes whose bulk is at most 1048576, and leaves them as they are: the statement, by the call's law in every world (S28) and the kit's reading of arguments.
-/
import Derived.Test.YtgidhbelekicbaaGreatRows
import Derived.WalkKit
import Derived.ProofKit
import Derived.OpenShut
import Derived.JoinedCond
import Derived.ChangeSlices
import Derived.Test.YtgidhbelekicbaaGreatLe
import Derived.Test.YtgidhbelekicbaaGreatFa
set_option linter.unusedVariables false
namespace Go.Proofs.YtgidhbelekicbaaGreat.streamReads
open Go.ChangeShapes Go.WideShapes Go.ChangeAt Go.RowKit Go.Eng
theorem own : ownKnob Tryz.prog.godebug = none := by kernel_rfl
theorem cells5 : Tryz.prog.cellsOf 5 = 1 := by kernel_rfl
/-- The bytes of numbers. -/
def bytesOf (zs : List Int) : List UInt8 := zs.map fun z => UInt8.ofNat z.toNat
theorem wf8 {z : Int} (h : (Lit.int .u8 z).wf = true) : 0 ≤ z ∧ z ≤ 255 := by
 simpa [Lit.wf, IntKind.min, IntKind.max, IntKind.signed, IntKind.bits] using h
theorem bytes_cell {z : Int} (h : (Lit.int .u8 z).wf = true) : bv (UInt8.ofNat z.toNat) = .int .u8 z := by
 obtain ⟨h1, h2⟩ := wf8 h
 unfold bv
 congr 1
 rw [UInt8.toNat_ofNat', Nat.mod_eq_of_lt (by omega)]
 omega
theorem same_kept {W w' : World} (h : Go.Proofs.Same W w') (may : MemPlace → Prop) : W.keptBut w' may := by
 obtain ⟨h1, h2, h3, h4⟩ := h
 refine ⟨h1, h2, fun i hi => ?_⟩
 rw [h4 i hi]
 split
 ·rename_i e1 e2
  rw [e1] at e2
  injection e2 with e2
  injection e2 with e2 e3 e4
  subst e2 e3 e4
  exact ⟨rfl, rfl, rfl, fun _ _ => rfl⟩
 ·rename_i e1 e2
  rw [e1] at e2
  injection e2 with e2
  injection e2 with e2 e3
  subst e2 e3
  exact .inr ⟨rfl, rfl⟩
 ·rfl
theorem same_cell {W w' : World} (h : Go.Proofs.Same W w') {a : Addr} (ha : a.block < W.heap.size) : w'.cell? a = W.cell? a := by
 unfold World.cell?
 rw [h.2.2.2 _ ha]
theorem same_frozen {W w' : World} (h : Go.Proofs.Same W w') {a : Addr} (ha : a.block < W.heap.size) : w'.frozen? a = W.frozen? a := by
 unfold World.frozen?
 rw [h.2.2.2 _ ha]
theorem bulk {H : Type} {zs : List Int} {n : Nat} (hk : Rows.uptoSmall H [.slice (lits .u8 (zs.take n)) (lits .u8 (zs.drop n))] = true) : zs.length ≤ 1048576 := by
 have h : Rows.uptoBulkAll [DataW.slice (lits (H := H) .u8 (zs.take n)) (lits .u8 (zs.drop n))] ≤ 1048576 := of_decide_eq_true hk
 have hl : ∀ l : List Int, Rows.uptoBulkAll (lits (H := H) .u8 l) = l.length := fun l => by
  induction l with
  | nil => rfl
  | cons a r ih => show 1 + Rows.uptoBulkAll (lits .u8 r) = r.length + 1; rw [ih]; omega
 simp only [Rows.uptoBulkAll, Rows.uptoBulk, hl, List.length_take, List.length_drop] at h
 omega
set_option maxRecDepth 100000 in
theorem contract (H : Type) (enc : TypeId × Value → H) (W : World) (base : Nat) (args : Array Value) (ds gs : List (DataW H)) (before : List MemPlace)
  (hval : ∀ (j : Nat) t v, Tryz.f3.params[j]? = some t → args[j]? = some v → Value.okWide Tryz.prog W .any base t v)
  (hW : DataW.Whole enc Tryz.prog Tryz.f3.params.toList Rows.streamReadsSpec.vars false W args.toList ds gs before) (hk : Rows.uptoSmall H (ds ++ gs) = true) :
  Calls Tryz.prog 3 args W fun e W' => ∃ v, e = .returned v ∧ Rows.streamReadsSpec.post enc Tryz.prog Tryz.f3 false true false false W args v W' := by
 have hW' := hW
 obtain ⟨p, q, hA0, hV, rfl, hfz, hnd⟩ := hW
 have hA : DataW.TrodAll enc Tryz.prog W 0 (fun _ => true) true Tryz.f3.params.toList args.toList ds p := hA0
 rw [Tryz.params3] at hA hval
 obtain ⟨v0, vs0, d0, ds0, p0, q0, hargs, rfl, rfl, h0, r0⟩ := trodAll_cons hA
 obtain ⟨rfl, rfl, rfl⟩ := trodAll_nil r0
 obtain rfl : args = #[v0] := by cases args; simp_all
 obtain ⟨rfl, rfl⟩ := trodVars_none hV
 clear hA0
 simp only [List.append_nil] at hW' hk
 have hlt := hW'.lt
 obtain ⟨a0, len, cap, rfl⟩ := okWide_slice Tryz.underlying22 (hval 0 22 v0 rfl rfl)
 obtain ⟨fuel, hf⟩ := h0
 -- what is owed behind the call
 have post : ∀ (W' : World), Go.Proofs.Same W W' → (∀ sp : Nat → Bool, (∀ p ∈ p0, sp p.block = true) → DataW.Trod enc Tryz.prog W' 0 sp true 22 (.slice a0 len cap) d0 p0) →
   ∃ v, Ending.returned (.bool true) = .returned v ∧ Rows.streamReadsSpec.post enc Tryz.prog Tryz.f3 false true false false W #[.slice a0 len cap] v W' := by
  intro W' hs hr
  refine ⟨_, rfl, ⟨[d0], [], p0, [], p0, [], hW', ?_, ?_, rfl, same_kept hs _, fun h => by cases h⟩⟩
  ·exact trodAll_cons_mk (shut_bool Tryz.underlying4 _) trodAll_mk0
  ·have := trodAll_cons_mk (hr (fun b => decide (b < W.heap.size)) (fun p hp => by simpa using hlt p hp)) (trodAll_mk0 (enc := enc) (P := Tryz.prog) (w := W') (base := 0) (spare := fun b => decide (b < W.heap.size)) (held := true))
   rw [List.append_nil] at this
   exact this
 rcases open_ints Tryz.underlying22 Tryz.underlying5 cells5 hf with ⟨hcs, hx⟩ | ⟨a, len', cap', zs, hcs, hb, hl, hm, hz, hx, hcell, hwf⟩
 · -- nothing
  have hcs : [Value.slice a0 len cap] = [.slice none 0 0] := hcs
  injection hcs with hcs _
  injection hcs with e1 e2 e3
  subst e1 e2 e3
  injection hx with e1 e2
  subst e1 e2
  intro cs
  obtain ⟨w', fr, p1, p2, p3⟩ := Go.Proofs.reads_nil (W := W) (v' := .slice none 0 0) (.inl rfl) cs
  obtain ⟨m1, m2, m3, m4, fn, m5, m6⟩ := p2
  exact ⟨.returned (.bool true), w', fr, post w' p3 (fun sp _ => shut_slice_nil Tryz.underlying22), p1, m4, m1, m2, m3, fn, by rw [m4]; exact m5, m6⟩
 ·have hcs : [Value.slice a0 len cap] = [.slice (some a) len' cap'] := hcs
  injection hcs with hcs _
  injection hcs with e1 e2 e3
  subst e1 e2 e3
  injection hx with e1 e2
  subst e1 e2
  have hzl : zs.length = cap := by simpa using hz
  have hbk : zs.length ≤ 1048576 := bulk hk
  have again : ∀ w', Go.Proofs.Same W w' → ∀ sp : Nat → Bool, (∀ p ∈ MemPlace.row a zs.length, sp p.block = true) → DataW.Trod enc Tryz.prog w' 0 sp true 22 (.slice (some a) len cap) (.slice (lits .u8 (zs.take len)) (lits .u8 (zs.drop len))) (MemPlace.row a zs.length) := by
   intro w' hs sp hsp
   rcases Nat.eq_zero_or_pos zs.length with h0 | h0
   ·have hc0 : cap = 0 := by omega
    have hl0 : len = 0 := by omega
    subst hc0 hl0
    have : zs = [] := List.eq_nil_of_length_eq_zero h0
    subst this
    exact ⟨2, shut_ints 0 Tryz.underlying22 Tryz.underlying5 cells5 (Nat.zero_le _) (Nat.le_refl _) hm (by split <;> rfl) (fun i hi => absurd hi (Nat.not_lt_zero i)) (fun n hn => by cases hn)⟩
   ·have hblk : a.block < W.heap.size := hlt (.cell a.block (a.off + 0)) (MemPlace.mem_row.2 ⟨0, h0, rfl⟩)
    have hspa : sp a.block = true := hsp (.cell a.block (a.off + 0)) (MemPlace.mem_row.2 ⟨0, h0, rfl⟩)
    exact ⟨2, shut_ints 0 Tryz.underlying22 Tryz.underlying5 cells5 (Nat.zero_le _) hl hm (by rw [hspa]; exact hzl) (fun i hi => by rw [same_cell hs (by rw [block_add]; exact hblk)]; exact hcell i hi) hwf⟩
  intro cs
  rcases Nat.eq_zero_or_pos cap with h0 | h0
  ·have hl0 : len = 0 := by omega
   subst h0 hl0
   obtain ⟨w', fr, p1, p2, p3⟩ := Go.Proofs.reads_nil (W := W) (v' := .slice (some a) 0 0) (.inr ⟨a, rfl⟩) cs
   obtain ⟨m1, m2, m3, m4, fn, m5, m6⟩ := p2
   exact ⟨.returned (.bool true), w', fr, post w' p3 (again w' p3), p1, m4, m1, m2, m3, fn, by rw [m4]; exact m5, m6⟩
  ·obtain ⟨blk, off, rfl, hat⟩ := Go.ints_at hcell (by omega)
   -- the block
   have h1 := hat 0 (by omega)
   have hblk : blk < W.heap.size := World.block_lt_of_cell? _ _ h1
   obtain ⟨ws, ec, fz, hb⟩ : ∃ ws ec fz, W.heap[blk]? = some (.cells ⟨ws⟩ ec fz) := by
    unfold World.cell? at h1
    split at h1
    ·rename_i cs' ec fz he
     exact ⟨cs'.toList, ec, fz, he⟩
    all_goals cases h1
   have hws : ∀ j, j < zs.length → ws[off + j]? = some (.int .u8 (zs.getD j 0)) := fun j hj => by
    have := hat j hj
    rw [cell_blk hb] at this
    exact this
   have hlast := hws (zs.length - 1) (by omega)
   have hlen : off + zs.length ≤ ws.length := by
    have := (List.getElem?_eq_some_iff.1 hlast).1; omega
   have hbl : (bytesOf (zs.take len)).length = len := by simp [bytesOf]; omega
   have hrow : (ws.drop off).take (bytesOf (zs.take len)).length = strCells (bytesOf (zs.take len)) := by
    rw [hbl]
    apply List.ext_getElem?
    intro j
    rcases Nat.lt_or_ge j len with hj | hj
    ·rw [List.getElem?_take, if_pos hj, List.getElem?_drop, hws j (by omega), strCells_map, bytesOf, List.getElem?_map, List.getElem?_map, List.getElem?_take, if_pos hj, List.getElem?_eq_getElem (show j < zs.length by omega)]
     simp only [Option.map_some]
     rw [bytes_cell (hwf _ (List.getElem_mem _))]
     congr 2
     simp [List.getD, List.getElem?_eq_getElem (show j < zs.length by omega)]
    ·rw [List.getElem?_eq_none (by simp; omega), List.getElem?_eq_none (by rw [strCells_len]; omega)]
   obtain ⟨w', fr, p1, p2, p3⟩ := Go.Proofs.reads_row (l := bytesOf (zs.take len)) (cap := cap) hb (by omega) (by omega) (by omega) hrow cs
   obtain ⟨m1, m2, m3, m4, fn, m5, m6⟩ := p2
   rw [hbl] at p1
   exact ⟨.returned (.bool true), w', fr, post w' p3 (again w' p3), p1, m4, m1, m2, m3, fn, by rw [m4]; exact m5, m6⟩
theorem facts : joinedFacts Tryz.prog 3 Tryz.f3 ss cc = true := by
 unfold joinedFacts
 simp only [Bool.and_eq_true]
 exact ⟨⟨⟨⟨⟨⟨⟨⟨⟨⟨⟨⟨⟨⟨⟨⟨⟨⟨⟨⟨⟨⟨⟨⟨⟨⟨⟨⟨⟨⟨⟨a1, a2⟩, a3⟩, a4⟩, a5⟩, a6⟩, a7⟩, a8⟩, a9⟩, a10⟩, a11⟩, a12⟩, a13⟩, a14⟩, a15⟩, a16⟩, a17⟩, a18⟩, a19⟩, a20⟩, a21⟩, a22⟩, a23⟩, a24⟩, a25⟩, a26⟩, a27⟩, a28⟩, (by kernel_rfl)⟩, a30⟩, a31⟩, a32⟩
set_option maxRecDepth 100000 in
theorem lifted (os : Os) (started : os.Started) (H : Type) (enc : TypeId × Value → H) (F : Stop.Interp) :
  ReturnsInHanded {} Tryz.checked os 3 .any ((Rows.OpenSpec.upto Rows.streamReadsSpec).pre6 enc Tryz.prog Tryz.f3 Rows.streamReadsUptoRow.domain false) (((Rows.OpenSpec.upto Rows.streamReadsSpec).at F).post enc Tryz.prog Tryz.f3 false true false false) := by
 refine returnsInHanded_of_cond (C := Tryz.checked) (s := Rows.OpenSpec.upto Rows.streamReadsSpec) (k := Rows.uptoSmall) rfl own started (by kernel_rfl) Tryz.func3
  (OpenSpec.witness (enc := enc) (C := Tryz.checked) (s := Rows.OpenSpec.upto Rows.streamReadsSpec) (k := Rows.uptoSmall) rfl false ⟨#[], #[.slice none 0 0], []⟩ 8 (by kernel_rfl) (by kernel_rfl) (by kernel_rfl)
   (x := ([.nil], [], [])) (by kernel_rfl) rfl (by kernel_rfl)) ?_
 intro W base args ds gs before hval hW _ hk _
 exact contract H enc W base args ds gs before hval hW hk
theorem proved : Rows.StreamReadsUptoSaid :=
 OpenClaim.holds_of_cond 3 Tryz.f3 rfl rfl rfl rfl rfl rfl rfl ⟨rfl, rfl, rfl, rfl, rfl⟩ rfl rfl rfl rfl rfl (by kernel_rfl) Tryz.func3 facts
  (of_decide_eq_true (by kernel_rfl)) (by unfold Func.isWrapper; first | (rw [if_pos (by decide +kernel)]; kernel_rfl) | (rw [if_neg (by decide +kernel)]; exact ⟨rfl, rfl⟩))
  (fun os started H enc _ F => lifted os started H enc F)
end Go.Proofs.YtgidhbelekicbaaGreat.streamReads
