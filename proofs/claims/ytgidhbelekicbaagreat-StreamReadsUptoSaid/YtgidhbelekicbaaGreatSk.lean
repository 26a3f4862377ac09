/-
  Part of the proof of StreamReadsUptoSaid: Apart.
-/
import Derived.Test.YtgidhbelekicbaaGreatSj
import Derived.Test.YtgidhbelekicbaaGreatEj
set_option linter.unusedVariables false
section
namespace Go.Proofs
open Go.Eng
variable {sm : Nat → Option (List Value → St → Option (Value × St))}
theorem spec14 (hsm : sm 14 = none) (H : Hp) (nx t base : Nat) (u : Value) (ns : List Nat) (hap : ApOk H nx t base u ns) : FnOk (envS sm) 14 [u] H nx (fun v _ nx' => v = .bool true ∧ nx' ≤ nx + 50 * ns.length + 20) (fun _ _ _ => False) := by
 refine FnOk.of (fn := Tryz.f14) hsm rfl rfl rfl ?_
 obtain ⟨vs, c, e, rfl, ht, hvl, htt, htn, hel, hsml, hlen⟩ := hap
 have hT0 : Tab H t base vs ns (M1 0 0) := ⟨⟨e, ht⟩, hvl, htt, fun j v n h1 h2 => (Em.of (hel j v n h1 h2)).le (by unfold M1; split <;> (try split) <;> omega), hsml⟩
 refine WC.seqR (xs := [om 2 (.v (.bool false))]) (by kernel_rfl) ?_
 refine WS.mv rfl rfl ?_
 refine WS.nil ?_
 refine WC.seq ?_
 refine WC.seqR (xs := [om 3 (.v (.int .i64 0))]) (by kernel_rfl) ?_
 refine WS.mv rfl rfl ?_
 refine WS.nil ?_
 refine WC.block ?_
 refine WC.loop (fun m env ds H' nx' => ∃ (i : Nat), m = ns.length - i ∧ SubE [(0, .slice (some ⟨t, 0, none⟩) ns.length c), (3, .int .i64 (i : Int))] env ∧ ds = [] ∧ i ≤ ns.length ∧ Tab H' t base vs ns (M1 i 0) ∧ nx = nx') (fun m env ds H' nx' hI => ?_) (m := ns.length) (⟨0, by omega, (by repeat (first | exact SubE.nil _ | refine SubE.cons rfl ?_)), rfl, Nat.zero_le _, hT0, rfl⟩)
 obtain ⟨i, rfl, hsub, rfl, hi, hT, rfl⟩ := hI
 refine WC.weak (env' := [(0, .slice (some ⟨t, 0, none⟩) ns.length c), (3, .int .i64 (i : Int))]) ?_ hsub (fun _ _ h => h)
 refine WC.seq ?_
 refine WC.seqR (xs := [om 12 (.t 3),
   om 13 (.t 0),
   oq 14 (.p (.len (.t 13))),
   oq 15 (.p (.bin .lss .other false (.t 12) (.t 14)))]) (by kernel_rfl) ?_
 refine WS.mv rfl rfl ?_
 refine WS.mv rfl rfl ?_
 refine WS.c (One.len rfl rfl ?_)
 refine WS.c (One.bin rfl rfl bin_lss rfl ?_)
 refine WS.nil ?_
 refine WC.cond rfl (fun hc1 => ?_) (fun hc1 => ?_)
 ·refine WC.skip ?_
  refine WC.seq ?_
  refine WC.block ?_
  refine WC.seqR (xs := [om 4 (.v (.int .i64 0))]) (by kernel_rfl) ?_
  obtain ⟨a, c', nn, hvi, hni, hns⟩ := hT.at (i := i) (by omega)
  refine WS.mv rfl rfl ?_
  refine WS.nil ?_
  refine WC.block ?_
  refine WC.loop (fun m env ds H' nx' => ∃ (k : Nat), m = nn - k ∧ SubE [(0, .slice (some ⟨t, 0, none⟩) ns.length c), (3, .int .i64 (i : Int)), (4, .int .i64 (k : Int))] env ∧ ds = [] ∧ k ≤ nn ∧ Tab H' t base vs ns (M1 i k) ∧ nx = nx') (fun m env ds H' nx' hI => ?_) (m := nn) (⟨0, by omega, (by repeat (first | exact SubE.nil _ | refine SubE.cons rfl ?_)), rfl, Nat.zero_le _, hT, rfl⟩)
  obtain ⟨k, rfl, hsub, rfl, hkn, hT2, rfl⟩ := hI
  refine WC.weak (env' := [(0, .slice (some ⟨t, 0, none⟩) ns.length c), (3, .int .i64 (i : Int)), (4, .int .i64 (k : Int))]) ?_ hsub (fun _ _ h => h)
  refine WC.seq ?_
  refine WC.seqR (xs := [om 18 (.t 4),
    om 19 (.t 0),
    om 20 (.t 3),
    oq 21 (.p (.iaS 1 (.t 19) (.t 20))),
    oq 22 (.l (.ld none (.t 21))),
    oq 23 (.p (.len (.t 22))),
    oq 24 (.p (.bin .lss .other false (.t 18) (.t 23)))]) (by kernel_rfl) ?_
  refine WS.mv rfl rfl ?_
  refine WS.mv rfl rfl ?_
  refine WS.mv rfl rfl ?_
  refine WS.c (One.iaS rfl rfl rfl (by omega) rfl ?_)
  refine WS.c (One.ld rfl (hT2.cell hvi) rfl ?_)
  refine WS.c (One.len rfl rfl ?_)
  refine WS.c (One.bin rfl rfl bin_lss rfl ?_)
  refine WS.nil ?_
  refine WC.cond rfl (fun hc2 => ?_) (fun hc2 => ?_)
  ·refine WC.skip ?_
   refine WC.seq ?_
   refine WC.block ?_
   refine WC.region (xs := [om 27 (.t 0),
     om 28 (.t 3),
     oq 29 (.p (.iaS 1 (.t 27) (.t 28))),
     oq 30 (.l (.ld none (.t 29))),
     om 31 (.t 4),
     om 32 (.t 3),
     oq 33 (.p (.bin .mul .other true (.t 32) (.v (.int .i64 31)))),
     om 34 (.t 4),
     oq 35 (.p (.bin .mul .other true (.t 34) (.v (.int .i64 7)))),
     oq 36 (.p (.bin .add .other false (.t 33) (.t 35))),
     oq 37 (.p (.bin .add .other true (.t 36) (.v (.int .i64 1)))),
     oq 38 (.p (.cvI .u8 (.t 37))),
     oq 39 (.p (.iaS 1 (.t 30) (.t 31))),
     ⟨none, none, .w (.sto 1 (.t 39) (.t 38))⟩]) (by kernel_rfl) ?_
   refine WS.mv rfl rfl ?_
   refine WS.mv rfl rfl ?_
   refine WS.c (One.iaS rfl rfl rfl (by omega) rfl ?_)
   refine WS.c (One.ld rfl (hT2.cell hvi) rfl ?_)
   refine WS.mv rfl rfl ?_
   refine WS.mv rfl rfl ?_
   refine WS.c (One.bin rfl rfl (bin_mul64 (by omega) (by omega)) rfl ?_)
   refine WS.mv rfl rfl ?_
   refine WS.c (One.bin rfl rfl (bin_mul64 (by omega) (by omega)) rfl ?_)
   refine WS.c (One.bin rfl rfl (bin_add64 (by omega) (by omega)) rfl ?_)
   refine WS.c (One.bin rfl rfl (bin_add64 (by omega) (by omega)) rfl ?_)
   refine WS.c (One.cvI (c := ((UInt8.ofNat (i * 31 + k * 7 + 1)).toNat : Int)) rfl (by rw [show ((i : Int) * 31 + (k : Int) * 7 + 1) = ((i * 31 + k * 7 + 1 : Nat) : Int) by omega]; exact wrap_u8 _) rfl ?_)
   obtain ⟨C, C1, e1, rfl, hCb, hlay, hT3⟩ := hT2.mark hvi hni (by omega)
   refine WS.c (One.iaS rfl rfl rfl (by omega) rfl ?_)
   refine WS.z (One.sto rfl rfl hCb rfl rfl (by rw [Nat.zero_add, Nat.mul_one]; exact hlay) rfl ?_)
   refine WS.nil ?_
   refine WC.region (xs := [om 25 (.t 4),
     oq 26 (.p (.bin .add .other true (.t 25) (.v (.int .i64 1)))),
     om 4 (.t 26)]) (by kernel_rfl) ?_
   refine WS.mv rfl rfl ?_
   refine WS.c (One.bin rfl rfl (bin_add64 (by omega) (by omega)) rfl ?_)
   refine WS.mv rfl rfl ?_
   refine WS.nil ?_
   refine ⟨_, ?_, k + 1, rfl, (by repeat (first | exact SubE.nil _ | refine SubE.cons rfl ?_)), rfl, by omega, hT3, rfl⟩
   omega
  ·refine WC.exit ?_
   refine WC.region (xs := [om 16 (.t 3),
     oq 17 (.p (.bin .add .other true (.t 16) (.v (.int .i64 1)))),
     om 3 (.t 17)]) (by kernel_rfl) ?_
   refine WS.mv rfl rfl ?_
   refine WS.c (One.bin rfl rfl (bin_add64 (by omega) (by omega)) rfl ?_)
   refine WS.mv rfl rfl ?_
   refine WS.nil ?_
   have hk : k = nn := by omega
   subst hk
   refine ⟨_, ?_, i + 1, rfl, (by repeat (first | exact SubE.nil _ | refine SubE.cons rfl ?_)), rfl, by omega, hT2.next hni, rfl⟩
   omega
 ·refine WC.exit ?_
  refine WC.seqR (xs := [om 5 (.v (.slice none 0 0))]) (by kernel_rfl) ?_
  have hk : i = ns.length := by omega
  subst hk
  have hG0 := G2.begin hT.fin htn
  refine WS.mv rfl rfl ?_
  refine WS.nil ?_
  refine WC.seq ?_
  refine WC.seqR (xs := [om 6 (.v (.int .i64 0))]) (by kernel_rfl) ?_
  refine WS.mv rfl rfl ?_
  refine WS.nil ?_
  refine WC.block ?_
  refine WC.loop (fun m env ds H' nx' => ∃ (i : Nat) (sv : Value) (gl : List Value) (x : Nat), m = ns.length - i ∧ SubE [(0, .slice (some ⟨t, 0, none⟩) ns.length c), (5, sv), (6, .int .i64 (i : Int))] env ∧ ds = [] ∧ i ≤ ns.length ∧ nx' = x ∧ G2 H' t base nx x vs ns sv gl i ∧ x ≤ nx + 44 * i) (fun m env ds H' nx' hI => ?_) (m := ns.length) (⟨0, _, _, _, by omega, (by repeat (first | exact SubE.nil _ | refine SubE.cons rfl ?_)), rfl, Nat.zero_le _, rfl, hG0, by omega⟩)
  obtain ⟨i, sv, gl, x, rfl, hsub, rfl, hi2, hnx, hG, hxl⟩ := hI
  refine WC.weak (env' := [(0, .slice (some ⟨t, 0, none⟩) ns.length c), (5, sv), (6, .int .i64 (i : Int))]) ?_ hsub (fun _ _ h => h)
  refine WC.seq ?_
  refine WC.seqR (xs := [om 40 (.t 6),
    om 41 (.t 0),
    oq 42 (.p (.len (.t 41))),
    oq 43 (.p (.bin .lss .other false (.t 40) (.t 42)))]) (by kernel_rfl) ?_
  refine WS.mv rfl rfl ?_
  refine WS.mv rfl rfl ?_
  refine WS.c (One.len rfl rfl ?_)
  refine WS.c (One.bin rfl rfl bin_lss rfl ?_)
  refine WS.nil ?_
  refine WC.cond rfl (fun hc3 => ?_) (fun hc3 => ?_)
  ·refine WC.skip ?_
   refine WC.seq ?_
   refine WC.block ?_
   refine WC.seqR (xs := [om 46 (.t 0),
     om 47 (.t 6),
     oq 48 (.p (.iaS 1 (.t 46) (.t 47))),
     oq 49 (.l (.ld none (.t 48))),
     om 7 (.t 49)]) (by kernel_rfl) ?_
   refine WS.mv rfl rfl ?_
   refine WS.mv rfl rfl ?_
   obtain ⟨a, c', nn, hvi, hni, hns⟩ := hG.tab.at (i := i) (by omega)
   refine WS.c (One.iaS rfl rfl rfl (by omega) rfl ?_)
   refine WS.c (One.ld rfl (hG.tab.cell hvi) rfl ?_)
   refine WS.mv rfl rfl ?_
   refine WS.nil ?_
   refine WC.seq ?_
   refine WC.seqR (xs := [om 8 (.v (.int .i64 0))]) (by kernel_rfl) ?_
   refine WS.mv rfl rfl ?_
   refine WS.nil ?_
   refine WC.block ?_
   refine WC.loop (fun m env ds H' nx' => ∃ (k : Nat) (gv : Value), m = 20 - k ∧ SubE [(0, .slice (some ⟨t, 0, none⟩) ns.length c), (5, sv), (6, .int .i64 (i : Int)), (7, gv), (8, .int .i64 (k : Int))] env ∧ ds = [] ∧ k ≤ 20 ∧ G2 H' t base nx x vs ns sv gl i ∧ Gi H' base x nx' gv i nn (nn + k) ∧ x ≤ nx' ∧ nx' ≤ x + 2 * k) (fun m env ds H' nx' hI => ?_) (m := 20) (⟨0, _, rfl, (by repeat (first | exact SubE.nil _ | refine SubE.cons rfl ?_)), rfl, Nat.zero_le _, hG, Gi.of (hG.tab.em i _ _ hvi hni), by omega, by omega⟩)
   obtain ⟨k, gv, rfl, hsub, rfl, hk20, hG2, hgi, hxn, hxk⟩ := hI
   refine WC.weak (env' := [(0, .slice (some ⟨t, 0, none⟩) ns.length c), (5, sv), (6, .int .i64 (i : Int)), (7, gv), (8, .int .i64 (k : Int))]) ?_ hsub (fun _ _ h => h)
   refine WC.seq ?_
   refine WC.seqR (xs := [om 50 (.t 8),
     oq 51 (.p (.bin .lss .other true (.t 50) (.v (.int .i64 20))))]) (by kernel_rfl) ?_
   refine WS.mv rfl rfl ?_
   refine WS.c (One.bin rfl rfl bin_lss rfl ?_)
   refine WS.nil ?_
   refine WC.cond rfl (fun hc4 => ?_) (fun hc4 => ?_)
   ·refine WC.skip ?_
    refine WC.seq ?_
    refine WC.block ?_
    refine WC.region (xs := [om 54 (.t 7),
      om 55 (.t 6),
      oq 56 (.p (.bin .mul .other true (.t 55) (.v (.int .i64 31)))),
      om 57 (.t 0),
      om 58 (.t 6),
      oq 59 (.p (.iaS 1 (.t 57) (.t 58))),
      oq 60 (.l (.ld none (.t 59))),
      oq 61 (.p (.len (.t 60))),
      om 62 (.t 8),
      oq 63 (.p (.bin .add .other false (.t 61) (.t 62))),
      oq 64 (.p (.bin .mul .other true (.t 63) (.v (.int .i64 7)))),
      oq 65 (.p (.bin .add .other false (.t 56) (.t 64))),
      oq 66 (.p (.bin .add .other true (.t 65) (.v (.int .i64 1)))),
      oq 67 (.p (.cvI .u8 (.t 66))),
      oq 68 (.m (.sl [(.int .u8 0)] 5 1 [(0, 1, (.t 67))])),
      oq 69 (.w (.app 5 [(.int .u8 0)] false (.t 54) (.t 68))),
      om 7 (.t 69)]) (by kernel_rfl) ?_
    refine WS.mv rfl rfl ?_
    refine WS.mv rfl rfl ?_
    refine WS.c (One.bin rfl rfl (bin_mul64 (by omega) (by omega)) rfl ?_)
    refine WS.mv rfl rfl ?_
    refine WS.mv rfl rfl ?_
    refine WS.c (One.iaS rfl rfl rfl (by omega) rfl ?_)
    refine WS.c (One.ld rfl (hG2.tab.cell hvi) rfl ?_)
    refine WS.c (One.len rfl rfl ?_)
    refine WS.mv rfl rfl ?_
    refine WS.c (One.bin rfl rfl (bin_add64 (by omega) (by omega)) rfl ?_)
    refine WS.c (One.bin rfl rfl (bin_mul64 (by omega) (by omega)) rfl ?_)
    refine WS.c (One.bin rfl rfl (bin_add64 (by omega) (by omega)) rfl ?_)
    refine WS.c (One.bin rfl rfl (bin_add64 (by omega) (by omega)) rfl ?_)
    refine WS.c (One.cvI (c := ((UInt8.ofNat (i * 31 + (nn + k) * 7 + 1)).toNat : Int)) rfl (by rw [show ((i : Int) * 31 + ((nn : Int) + (k : Int)) * 7 + 1) = ((i * 31 + (nn + k) * 7 + 1 : Nat) : Int) by omega]; exact wrap_u8 _) rfl ?_)
    refine WS.c (One.sl rfl rfl ?_)
    refine WS.c (One.appAp rfl rfl hG2 hgi hvi hni (by omega) (by omega) hxn rfl ?_)
    intro gv' H1 n1 hG3 hg3 hle1 hle2
    refine WS.mv rfl rfl ?_
    refine WS.nil ?_
    refine WC.region (xs := [om 52 (.t 8),
      oq 53 (.p (.bin .add .other true (.t 52) (.v (.int .i64 1)))),
      om 8 (.t 53)]) (by kernel_rfl) ?_
    refine WS.mv rfl rfl ?_
    refine WS.c (One.bin rfl rfl (bin_add64 (by omega) (by omega)) rfl ?_)
    refine WS.mv rfl rfl ?_
    refine WS.nil ?_
    refine ⟨_, ?_, k + 1, _, rfl, (by repeat (first | exact SubE.nil _ | refine SubE.cons rfl ?_)), rfl, by omega, hG3, hg3, by omega, by omega⟩
    omega
   ·refine WC.exit ?_
    refine WC.region (xs := [om 70 (.t 5),
      om 71 (.t 7),
      oq 72 (.m (.sl [(.slice none 0 0)] 22 1 [(0, 1, (.t 71))])),
      oq 73 (.w (.app 22 [(.slice none 0 0)] false (.t 70) (.t 72))),
      om 5 (.t 73)]) (by kernel_rfl) ?_
    have hk : k = 20 := by omega
    subst hk
    obtain ⟨ga, gc, rfl⟩ := hgi.shape
    refine WS.mv rfl rfl ?_
    refine WS.mv rfl rfl ?_
    refine WS.c (One.sl rfl rfl ?_)
    refine WS.c (G2.add rfl rfl hG2 hgi hni hxn hlen rfl ?_)
    intro sv' H1 hG3
    refine WS.mv rfl rfl ?_
    refine WS.nil ?_
    refine WC.region (xs := [om 44 (.t 6),
      oq 45 (.p (.bin .add .other true (.t 44) (.v (.int .i64 1)))),
      om 6 (.t 45)]) (by kernel_rfl) ?_
    refine WS.mv rfl rfl ?_
    refine WS.c (One.bin rfl rfl (bin_add64 (by omega) (by omega)) rfl ?_)
    refine WS.mv rfl rfl ?_
    refine WS.nil ?_
    refine ⟨_, ?_, i + 1, _, _, _, rfl, (by repeat (first | exact SubE.nil _ | refine SubE.cons rfl ?_)), rfl, by omega, rfl, hG3, by omega⟩
    omega
  ·refine WC.exit ?_
   refine WC.seq ?_
   refine WC.seqR (xs := [om 9 (.v (.int .i64 0))]) (by kernel_rfl) ?_
   have hk : i = ns.length := by omega
   subst hk
   refine WS.mv rfl rfl ?_
   refine WS.nil ?_
   refine WC.block ?_
   refine WC.loop (fun m env ds H' nx' => ∃ (j : Nat), m = ns.length - j ∧ SubE [(0, .slice (some ⟨t, 0, none⟩) ns.length c), (5, sv), (9, .int .i64 (j : Int))] env ∧ ds = [] ∧ j ≤ ns.length ∧ G2 H' t base nx x vs ns sv gl ns.length ∧ nx' ≤ nx + 44 * ns.length) (fun m env ds H' nx' hI => ?_) (m := ns.length) (⟨0, by omega, (by repeat (first | exact SubE.nil _ | refine SubE.cons rfl ?_)), rfl, Nat.zero_le _, hG, by omega⟩)
   obtain ⟨j, rfl, hsub, rfl, hj, hG4, hxl4⟩ := hI
   refine WC.weak (env' := [(0, .slice (some ⟨t, 0, none⟩) ns.length c), (5, sv), (9, .int .i64 (j : Int))]) ?_ hsub (fun _ _ h => h)
   refine WC.seq ?_
   refine WC.seqR (xs := [om 74 (.t 9),
     om 75 (.t 0),
     oq 76 (.p (.len (.t 75))),
     oq 77 (.p (.bin .lss .other false (.t 74) (.t 76)))]) (by kernel_rfl) ?_
   refine WS.mv rfl rfl ?_
   refine WS.mv rfl rfl ?_
   refine WS.c (One.len rfl rfl ?_)
   refine WS.c (One.bin rfl rfl bin_lss rfl ?_)
   refine WS.nil ?_
   refine WC.cond rfl (fun hc5 => ?_) (fun hc5 => ?_)
   ·refine WC.skip ?_
    refine WC.seq ?_
    refine WC.block ?_
    refine WC.seqR (xs := [om 10 (.v (.int .i64 0))]) (by kernel_rfl) ?_
    obtain ⟨a, c', nn, hvi, hni, hns⟩ := hG4.tab.at (i := j) (by omega)
    refine WS.mv rfl rfl ?_
    refine WS.nil ?_
    refine WC.block ?_
    refine WC.loop (fun m env ds H' nx' => ∃ (k : Nat), m = nn + 20 - k ∧ SubE [(0, .slice (some ⟨t, 0, none⟩) ns.length c), (5, sv), (9, .int .i64 (j : Int)), (10, .int .i64 (k : Int))] env ∧ ds = [] ∧ k ≤ nn + 20 ∧ G2 H' t base nx x vs ns sv gl ns.length ∧ nx' ≤ nx + 44 * ns.length) (fun m env ds H' nx' hI => ?_) (m := nn + 20) (⟨0, by omega, (by repeat (first | exact SubE.nil _ | refine SubE.cons rfl ?_)), rfl, Nat.zero_le _, hG4, hxl4⟩)
    obtain ⟨k, rfl, hsub, rfl, hkn, hG5, hxl5⟩ := hI
    refine WC.weak (env' := [(0, .slice (some ⟨t, 0, none⟩) ns.length c), (5, sv), (9, .int .i64 (j : Int)), (10, .int .i64 (k : Int))]) ?_ hsub (fun _ _ h => h)
    refine WC.seq ?_
    refine WC.seqR (xs := [om 80 (.t 10),
      om 81 (.t 5),
      om 82 (.t 9),
      oq 83 (.p (.iaS 1 (.t 81) (.t 82))),
      oq 84 (.l (.ld none (.t 83))),
      oq 85 (.p (.len (.t 84))),
      oq 86 (.p (.bin .lss .other false (.t 80) (.t 85)))]) (by kernel_rfl) ?_
    refine WS.mv rfl rfl ?_
    refine WS.mv rfl rfl ?_
    refine WS.mv rfl rfl ?_
    obtain ⟨v, n2, hgj, hnj, b, c1, C, e1, el1, rfl, hCb, hMk, _, _⟩ := hG5.gr j (by omega)
    rw [hni] at hnj
    injection hnj with hnj
    subst hnj
    obtain ⟨gb, rfl, hgb⟩ := hG5.gs.tbl (by omega)
    refine WS.c (One.iaS rfl rfl rfl (by omega) rfl ?_)
    refine WS.c (One.ld rfl (ld_of (o := 0 + j * 1) hgb (by rw [Nat.zero_add, Nat.mul_one]; exact hgj)) rfl ?_)
    refine WS.c (One.len rfl rfl ?_)
    refine WS.c (One.bin rfl rfl bin_lss rfl ?_)
    refine WS.nil ?_
    refine WC.cond rfl (fun hc6 => ?_) (fun hc6 => ?_)
    ·refine WC.skip ?_
     refine WC.seq ?_
     refine WC.block ?_
     refine WC.seqR (xs := [om 89 (.t 9),
       oq 90 (.p (.bin .mul .other true (.t 89) (.v (.int .i64 31)))),
       om 91 (.t 10),
       oq 92 (.p (.bin .mul .other true (.t 91) (.v (.int .i64 7)))),
       oq 93 (.p (.bin .add .other false (.t 90) (.t 92))),
       oq 94 (.p (.bin .add .other true (.t 93) (.v (.int .i64 1)))),
       oq 95 (.p (.cvI .u8 (.t 94))),
       om 11 (.t 95)]) (by kernel_rfl) ?_
     refine WS.mv rfl rfl ?_
     refine WS.c (One.bin rfl rfl (bin_mul64 (by omega) (by omega)) rfl ?_)
     refine WS.mv rfl rfl ?_
     refine WS.c (One.bin rfl rfl (bin_mul64 (by omega) (by omega)) rfl ?_)
     refine WS.c (One.bin rfl rfl (bin_add64 (by omega) (by omega)) rfl ?_)
     refine WS.c (One.bin rfl rfl (bin_add64 (by omega) (by omega)) rfl ?_)
     refine WS.c (One.cvI (c := ((UInt8.ofNat (j * 31 + k * 7 + 1)).toNat : Int)) rfl (by rw [show ((j : Int) * 31 + (k : Int) * 7 + 1) = ((j * 31 + k * 7 + 1 : Nat) : Int) by omega]; exact wrap_u8 _) rfl ?_)
     refine WS.mv rfl rfl ?_
     refine WS.nil ?_
     refine WC.seqR (xs := [om 96 (.t 5),
       om 97 (.t 9),
       oq 98 (.p (.iaS 1 (.t 96) (.t 97))),
       oq 99 (.l (.ld none (.t 98))),
       om 100 (.t 10),
       oq 101 (.p (.iaS 1 (.t 99) (.t 100))),
       oq 102 (.l (.ld none (.t 101))),
       om 103 (.t 11),
       oq 104 (.p (.bin .neq .other false (.t 102) (.t 103))),
       om 105 (.t 104),
       ⟨(some (105, false)), (some (106, 106)), .p (.mv (.t 10))⟩,
       ⟨(some (105, false)), (some (107, 107)), .p (.mv (.t 0))⟩,
       ⟨(some (105, false)), (some (108, 108)), .p (.mv (.t 9))⟩,
       ⟨(some (105, false)), (some (109, 109)), .p (.iaS 1 (.t 107) (.t 108))⟩,
       ⟨(some (105, false)), (some (110, 110)), .l (.ld none (.t 109))⟩,
       ⟨(some (105, false)), (some (111, 111)), .p (.len (.t 110))⟩,
       ⟨(some (105, false)), (some (112, 112)), .p (.bin .lss .other false (.t 106) (.t 111))⟩,
       ⟨(some (105, false)), (some (113, 113)), .p (.mv (.t 112))⟩,
       ⟨(some (113, true)), (some (114, 114)), .p (.mv (.t 0))⟩,
       ⟨(some (113, true)), (some (115, 115)), .p (.mv (.t 9))⟩,
       ⟨(some (113, true)), (some (116, 116)), .p (.iaS 1 (.t 114) (.t 115))⟩,
       ⟨(some (113, true)), (some (117, 117)), .l (.ld none (.t 116))⟩,
       ⟨(some (113, true)), (some (118, 118)), .p (.mv (.t 10))⟩,
       ⟨(some (113, true)), (some (119, 119)), .p (.iaS 1 (.t 117) (.t 118))⟩,
       ⟨(some (113, true)), (some (120, 120)), .l (.ld none (.t 119))⟩,
       ⟨(some (113, true)), (some (121, 121)), .p (.mv (.t 11))⟩,
       ⟨(some (113, true)), (some (122, 122)), .p (.bin .neq .other false (.t 120) (.t 121))⟩,
       ⟨(some (105, false)), (some (123, 123)), .p (.pick (.t 113) (.t 122) (.v (.bool false)))⟩,
       oq 124 (.p (.pick (.t 105) (.v (.bool true)) (.t 123)))]) (by kernel_rfl) ?_
     refine WS.mv rfl rfl ?_
     refine WS.mv rfl rfl ?_
     refine WS.c (One.iaS rfl rfl rfl (by omega) rfl ?_)
     refine WS.c (One.ld rfl (ld_of (o := 0 + j * 1) hgb (by rw [Nat.zero_add, Nat.mul_one]; exact hgj)) rfl ?_)
     refine WS.mv rfl rfl ?_
     refine WS.c (One.iaS rfl rfl rfl (by omega) rfl ?_)
     refine WS.c (One.ld rfl (ld_of (o := 0 + k * 1) hCb (by rw [Nat.zero_add, Nat.mul_one]; exact hMk k (by omega))) rfl ?_)
     refine WS.mv rfl rfl ?_
     refine WS.c (One.bin rfl rfl (bin_neqF rfl) rfl ?_)
     refine WS.mv rfl rfl ?_
     refine WS.c (One.gT rfl rfl (One.mv rfl rfl ?_))
     refine WS.c (One.gT rfl rfl (One.mv rfl rfl ?_))
     refine WS.c (One.gT rfl rfl (One.mv rfl rfl ?_))
     refine WS.c (One.gT rfl rfl (One.iaS rfl rfl rfl (by omega) rfl ?_))
     refine WS.c (One.gT rfl rfl (One.ld rfl (hG5.tab.cell hvi) rfl ?_))
     refine WS.c (One.gT rfl rfl (One.len rfl rfl ?_))
     refine WS.c (One.gT rfl rfl (One.bin rfl rfl bin_lss rfl ?_))
     refine WS.c (One.gT rfl rfl (One.mv rfl rfl ?_))
     refine WS.split (t := 113) rfl (fun hg7 => ?_) (fun hg7 => ?_)
     ·refine WS.c (One.gPT rfl hg7 (One.mv rfl rfl ?_))
      refine WS.c (One.gPT rfl hg7 (One.mv rfl rfl ?_))
      refine WS.c (One.gPT rfl hg7 (One.iaS rfl rfl rfl (by omega) rfl ?_))
      refine WS.c (One.gPT rfl hg7 (One.ld rfl (hG5.tab.cell hvi) rfl ?_))
      refine WS.c (One.gPT rfl hg7 (One.mv rfl rfl ?_))
      rcases hG5.tab.em j _ _ hvi hni with ⟨h0, _⟩ | ⟨c2, C2, e2, hev, hb2, _, _, _, hM2⟩
      ·omega
      injection hev with hev
      subst hev
      refine WS.c (One.gPT rfl hg7 (One.iaS rfl rfl rfl (by omega) rfl ?_))
      refine WS.c (One.gPT rfl hg7 (One.ld rfl (ld_of (o := 0 + k * 1) hb2 (by rw [Nat.zero_add, Nat.mul_one]; exact hM2 k (by omega))) rfl ?_))
      refine WS.c (One.gPT rfl hg7 (One.mv rfl rfl ?_))
      refine WS.c (One.gPT rfl hg7 (One.bin rfl rfl (bin_neqF rfl) rfl ?_))
      refine WS.c (One.gT rfl rfl (One.pickT rfl hg7 rfl rfl ?_))
      refine WS.c (One.pick rfl rfl rfl ?_)
      refine WS.nil ?_
      refine WC.condB rfl (fun h => nomatch h) (fun _ => ?_)
      refine WC.skip ?_
      refine WC.region (xs := [om 87 (.t 10),
        oq 88 (.p (.bin .add .other true (.t 87) (.v (.int .i64 1)))),
        om 10 (.t 88)]) (by kernel_rfl) ?_
      refine WS.mv rfl rfl ?_
      refine WS.c (One.bin rfl rfl (bin_add64 (by omega) (by omega)) rfl ?_)
      refine WS.mv rfl rfl ?_
      refine WS.nil ?_
      refine ⟨_, ?_, k + 1, rfl, (by repeat (first | exact SubE.nil _ | refine SubE.cons rfl ?_)), rfl, by omega, hG5, hxl5⟩
      omega
     ·refine WS.c (One.gPF rfl hg7 rfl ?_)
      refine WS.c (One.gPF rfl hg7 rfl ?_)
      refine WS.c (One.gPF rfl hg7 rfl ?_)
      refine WS.c (One.gPF rfl hg7 rfl ?_)
      refine WS.c (One.gPF rfl hg7 rfl ?_)
      refine WS.c (One.gPF rfl hg7 rfl ?_)
      refine WS.c (One.gPF rfl hg7 rfl ?_)
      refine WS.c (One.gPF rfl hg7 rfl ?_)
      refine WS.c (One.gPF rfl hg7 rfl ?_)
      refine WS.c (One.gT rfl rfl (One.pickF rfl hg7 rfl rfl ?_))
      refine WS.c (One.pick rfl rfl rfl ?_)
      refine WS.nil ?_
      refine WC.condB rfl (fun h => nomatch h) (fun _ => ?_)
      refine WC.skip ?_
      refine WC.region (xs := [om 87 (.t 10),
        oq 88 (.p (.bin .add .other true (.t 87) (.v (.int .i64 1)))),
        om 10 (.t 88)]) (by kernel_rfl) ?_
      refine WS.mv rfl rfl ?_
      refine WS.c (One.bin rfl rfl (bin_add64 (by omega) (by omega)) rfl ?_)
      refine WS.mv rfl rfl ?_
      refine WS.nil ?_
      refine ⟨_, ?_, k + 1, rfl, (by repeat (first | exact SubE.nil _ | refine SubE.cons rfl ?_)), rfl, by omega, hG5, hxl5⟩
      omega
    ·refine WC.exit ?_
     refine WC.region (xs := [om 78 (.t 9),
       oq 79 (.p (.bin .add .other true (.t 78) (.v (.int .i64 1)))),
       om 9 (.t 79)]) (by kernel_rfl) ?_
     refine WS.mv rfl rfl ?_
     refine WS.c (One.bin rfl rfl (bin_add64 (by omega) (by omega)) rfl ?_)
     refine WS.mv rfl rfl ?_
     refine WS.nil ?_
     refine ⟨_, ?_, j + 1, rfl, (by repeat (first | exact SubE.nil _ | refine SubE.cons rfl ?_)), rfl, by omega, hG5, hxl5⟩
     omega
   ·refine WC.exit ?_
    refine WC.seqR (xs := [om 2 (.v (.bool true))]) (by kernel_rfl) ?_
    refine WS.mv rfl rfl ?_
    refine WS.nil ?_
    refine WC.ret ?_
    exact EndOk.now rfl rfl ⟨rfl, by omega⟩
end Go.Proofs
end
section
namespace Go.Proofs
open Go.Eng
variable {sm : Nat → Option (List Value → St → Option (Value × St))}
theorem spec14e (hsm : sm 14 = none) (H : Hp) (nx : Nat) (a : Option Addr) (c : Nat) : FnOk (envS sm) 14 [.slice a 0 c] H nx (fun v _ nx' => v = .bool true ∧ nx' ≤ nx + 20) (fun _ _ _ => False) := by
 refine FnOk.of (fn := Tryz.f14) hsm rfl rfl rfl ?_
 refine WC.seqR (xs := [om 2 (.v (.bool false))]) (by kernel_rfl) ?_
 refine WS.mv rfl rfl ?_
 refine WS.nil ?_
 refine WC.seq ?_
 refine WC.seqR (xs := [om 3 (.v (.int .i64 0))]) (by kernel_rfl) ?_
 refine WS.mv rfl rfl ?_
 refine WS.nil ?_
 refine WC.block ?_
 refine WC.loop (fun m env ds H' nx' => ∃ (i : Nat), m = i ∧ SubE [(0, .slice a 0 c), (3, .int .i64 0)] env ∧ ds = [] ∧ i = 0 ∧ nx = nx') (fun m env ds H' nx' hI => ?_) (m := 0) (⟨0, rfl, (by repeat (first | exact SubE.nil _ | refine SubE.cons rfl ?_)), rfl, rfl, rfl⟩)
 obtain ⟨i, rfl, hsub, rfl, hi, rfl⟩ := hI
 refine WC.weak (env' := [(0, .slice a 0 c), (3, .int .i64 0)]) ?_ hsub (fun _ _ h => h)
 refine WC.seq ?_
 refine WC.seqR (xs := [om 12 (.t 3),
   om 13 (.t 0),
   oq 14 (.p (.len (.t 13))),
   oq 15 (.p (.bin .lss .other false (.t 12) (.t 14)))]) (by kernel_rfl) ?_
 refine WS.mv rfl rfl ?_
 refine WS.mv rfl rfl ?_
 refine WS.c (One.len rfl rfl ?_)
 refine WS.c (One.bin rfl rfl bin_lss rfl ?_)
 refine WS.nil ?_
 refine WC.cond rfl (fun hc1 => ?_) (fun hc1 => ?_)
 ·omega
 ·refine WC.exit ?_
  refine WC.seqR (xs := [om 5 (.v (.slice none 0 0))]) (by kernel_rfl) ?_
  refine WS.mv rfl rfl ?_
  refine WS.nil ?_
  refine WC.seq ?_
  refine WC.seqR (xs := [om 6 (.v (.int .i64 0))]) (by kernel_rfl) ?_
  refine WS.mv rfl rfl ?_
  refine WS.nil ?_
  refine WC.block ?_
  refine WC.loop (fun m env ds H' nx' => ∃ (i : Nat), m = i ∧ SubE [(0, .slice a 0 c), (6, .int .i64 0)] env ∧ ds = [] ∧ i = 0 ∧ nx = nx') (fun m env ds H' nx' hI => ?_) (m := 0) (⟨0, rfl, (by repeat (first | exact SubE.nil _ | refine SubE.cons rfl ?_)), rfl, rfl, rfl⟩)
  obtain ⟨i, rfl, hsub, rfl, hi, rfl⟩ := hI
  refine WC.weak (env' := [(0, .slice a 0 c), (6, .int .i64 0)]) ?_ hsub (fun _ _ h => h)
  refine WC.seq ?_
  refine WC.seqR (xs := [om 40 (.t 6),
    om 41 (.t 0),
    oq 42 (.p (.len (.t 41))),
    oq 43 (.p (.bin .lss .other false (.t 40) (.t 42)))]) (by kernel_rfl) ?_
  refine WS.mv rfl rfl ?_
  refine WS.mv rfl rfl ?_
  refine WS.c (One.len rfl rfl ?_)
  refine WS.c (One.bin rfl rfl bin_lss rfl ?_)
  refine WS.nil ?_
  refine WC.cond rfl (fun hc2 => ?_) (fun hc2 => ?_)
  ·omega
  ·refine WC.exit ?_
   refine WC.seq ?_
   refine WC.seqR (xs := [om 9 (.v (.int .i64 0))]) (by kernel_rfl) ?_
   refine WS.mv rfl rfl ?_
   refine WS.nil ?_
   refine WC.block ?_
   refine WC.loop (fun m env ds H' nx' => ∃ (i : Nat), m = i ∧ SubE [(0, .slice a 0 c), (9, .int .i64 0)] env ∧ ds = [] ∧ i = 0 ∧ nx = nx') (fun m env ds H' nx' hI => ?_) (m := 0) (⟨0, rfl, (by repeat (first | exact SubE.nil _ | refine SubE.cons rfl ?_)), rfl, rfl, rfl⟩)
   obtain ⟨i, rfl, hsub, rfl, hi, rfl⟩ := hI
   refine WC.weak (env' := [(0, .slice a 0 c), (9, .int .i64 0)]) ?_ hsub (fun _ _ h => h)
   refine WC.seq ?_
   refine WC.seqR (xs := [om 74 (.t 9),
     om 75 (.t 0),
     oq 76 (.p (.len (.t 75))),
     oq 77 (.p (.bin .lss .other false (.t 74) (.t 76)))]) (by kernel_rfl) ?_
   refine WS.mv rfl rfl ?_
   refine WS.mv rfl rfl ?_
   refine WS.c (One.len rfl rfl ?_)
   refine WS.c (One.bin rfl rfl bin_lss rfl ?_)
   refine WS.nil ?_
   refine WC.cond rfl (fun hc3 => ?_) (fun hc3 => ?_)
   ·omega
   ·refine WC.exit ?_
    refine WC.seqR (xs := [om 2 (.v (.bool true))]) (by kernel_rfl) ?_
    refine WS.mv rfl rfl ?_
    refine WS.nil ?_
    refine WC.ret ?_
    exact EndOk.now rfl rfl ⟨rfl, by omega⟩
noncomputable def lowOf (args : List Value) (s : St) : Nat := match args with
 | [.slice (some ⟨b, _, _⟩) _ _] => match s.h.get b with
  | some (.cells cs _ _) => cs.foldl (fun m v => match v with
   | .slice (some a) _ _ => Nat.min m a.block
   | _ => m) b
  | _ => b
 | _ => 0
theorem foldl_low : ∀ (cs : List Value) (m : Nat), cs.foldl (fun m v => match v with
   | .slice (some a) _ _ => Nat.min m a.block
   | _ => m) m ≤ m ∧ (∀ a n c, Value.slice (some a) n c ∈ cs → cs.foldl (fun m v => match v with
   | .slice (some a) _ _ => Nat.min m a.block
   | _ => m) m ≤ a.block) ∧ ∀ L, L ≤ m → (∀ a n c, Value.slice (some a) n c ∈ cs → L ≤ a.block) → L ≤ cs.foldl (fun m v => match v with
   | .slice (some a) _ _ => Nat.min m a.block
   | _ => m) m
 | [], m => ⟨Nat.le_refl _, fun a n c h => (by cases h), fun L h _ => h⟩
 | v :: r, m => by
  simp only [List.foldl_cons]
  split
  ·rename_i a0 n0 c0
   obtain ⟨h1, h2, h3⟩ := foldl_low r (Nat.min m a0.block)
   refine ⟨Nat.le_trans h1 (Nat.min_le_left _ _), fun a n c hm => ?_, fun L hL hq => h3 L (Nat.le_min.2 ⟨hL, hq a0 n0 c0 (List.mem_cons_self ..)⟩) (fun a n c hm => hq a n c (List.mem_cons_of_mem _ hm))⟩
   rcases List.mem_cons.1 hm with he | hm
   ·injection he with he
    injection he with he
    subst he
    exact Nat.le_trans h1 (Nat.min_le_right _ _)
   ·exact h2 a n c hm
  ·rename_i hno
   obtain ⟨h1, h2, h3⟩ := foldl_low r m
   refine ⟨h1, fun a n c hm => ?_, fun L hL hq => h3 L hL (fun a n c hm => hq a n c (List.mem_cons_of_mem _ hm))⟩
   rcases List.mem_cons.1 hm with he | hm
   ·exact absurd he.symm (hno a n c)
   ·exact h2 a n c hm
noncomputable def belowT (k : Nat) (t : Tr AO) : Tr AO := (List.range k).foldl (fun acc i => match t.get i with
 | some o => Tr.put (some o) i acc
 | none => acc) .lf
noncomputable def aboveT (k : Nat) (t : Tr AO) : Tr AO := (List.range k).foldl (fun acc i => Tr.put none i acc) t
theorem below_fold (t : Tr AO) : ∀ (l : List Nat) (acc : Tr AO) (id : Nat) (o : AO), ((l.foldl (fun acc i => match t.get i with
 | some o => Tr.put (some o) i acc
 | none => acc) acc).get id = some o → acc.get id = some o ∨ (id ∈ l ∧ t.get id = some o)) ∧ ((t.get id = some o ∧ (id ∈ l ∨ acc.get id = some o)) → (l.foldl (fun acc i => match t.get i with
 | some o => Tr.put (some o) i acc
 | none => acc) acc).get id = some o)
 | [], acc, id, o => ⟨fun h => .inl h, fun h => h.2.resolve_left (fun h => by cases h)⟩
 | i :: r, acc, id, o => by
  simp only [List.foldl_cons]
  cases hi : t.get i with
  | none =>
   obtain ⟨h1, h2⟩ := below_fold t r acc id o
   refine ⟨fun h => (h1 h).imp_right (fun h => ⟨List.mem_cons_of_mem _ h.1, h.2⟩), fun h => h2 ⟨h.1, ?_⟩⟩
   rcases h.2 with h3 | h3
   ·rcases List.mem_cons.1 h3 with rfl | h3
    ·rw [hi] at h; cases h.1
    ·exact .inl h3
   ·exact .inr h3
  | some p =>
   obtain ⟨h1, h2⟩ := below_fold t r (Tr.put (some p) i acc) id o
   refine ⟨fun h => ?_, fun h => h2 ⟨h.1, ?_⟩⟩
   ·rcases h1 h with h3 | h3
    ·rcases Tr.get_put _ _ _ _ _ h3 with ⟨e, h4⟩ | ⟨_, h4⟩
     ·injection h4 with h4
      subst e h4
      exact .inr ⟨List.mem_cons_self .., hi⟩
     ·exact .inl h4
    ·exact .inr ⟨List.mem_cons_of_mem _ h3.1, h3.2⟩
   ·by_cases e : id = i
    ·subst e
     rw [hi] at h
     obtain ⟨h3, _⟩ := h
     injection h3 with h3
     subst h3
     exact .inr (Tr.put_same _ _ _)
    ·rcases h.2 with h3 | h3
     ·rcases List.mem_cons.1 h3 with h3 | h3
      ·exact absurd h3 e
      ·exact .inl h3
     ·exact .inr (Tr.put_other _ _ _ _ _ e h3)
theorem below_get {k : Nat} {t : Tr AO} {id : Nat} {o : AO} : (belowT k t).get id = some o ↔ id < k ∧ t.get id = some o := by
 obtain ⟨h1, h2⟩ := below_fold t (List.range k) .lf id o
 refine ⟨fun h => ?_, fun h => h2 ⟨h.2, .inl (List.mem_range.2 h.1)⟩⟩
 rcases h1 h with h3 | h3
 ·rw [lf_none] at h3; cases h3
 ·exact ⟨List.mem_range.1 h3.1, h3.2⟩
theorem above_fold : ∀ (l : List Nat) (t : Tr AO) (id : Nat) (o : AO), (l.foldl (fun acc i => Tr.put none i acc) t).get id = some o ↔ id ∉ l ∧ t.get id = some o
 | [], t, id, o => ⟨fun h => ⟨(fun h => by cases h), h⟩, fun h => h.2⟩
 | i :: r, t, id, o => by
  simp only [List.foldl_cons]
  rw [above_fold r]
  constructor
  ·rintro ⟨h1, h2⟩
   rcases Tr.get_put _ _ _ _ _ h2 with ⟨_, h3⟩ | ⟨h3, h4⟩
   ·cases h3
   ·exact ⟨fun h => (List.mem_cons.1 h).elim h3 h1, h4⟩
  ·rintro ⟨h1, h2⟩
   exact ⟨fun h => h1 (List.mem_cons_of_mem _ h), Tr.put_other _ _ _ _ _ (fun e => h1 (e ▸ List.mem_cons_self ..)) h2⟩
theorem above_get {k : Nat} {t : Tr AO} {id : Nat} {o : AO} : (aboveT k t).get id = some o ↔ k ≤ id ∧ t.get id = some o := by
 unfold aboveT
 rw [above_fold, List.mem_range, Nat.not_lt]
noncomputable def g14 (args : List Value) (s : St) : Option (Value × St) :=
 open Classical in
 if h : ∃ ns, ApIn s args ns then some (.bool true, ⟨belowT (lowOf args s) s.h, s.nx + 60 * h.choose.length + 30⟩)
 else if ∃ a c, args = [.slice a 0 c] then some (.bool true, ⟨s.h, s.nx + 30⟩) else none
theorem ap_none {P : Program} {E0 E : Env} {f : FuncId} (hsound : ∀ n, Sound P E0 (ev E0 n)) (hsm : E.sm f ≠ none)
  (hfn : ∀ H nx a c, FnOk E0 f [.slice a 0 c] H nx (fun v _ nx' => v = .bool true ∧ nx' ≤ nx + 20) (fun _ _ _ => False)) {s : St} {a : Option Addr} {c : Nat} : CallOk P E f [.slice a 0 c] s (.bool true) ⟨s.h, s.nx + 30⟩ := by
 obtain ⟨N, r, h1, h2⟩ := hfn (fun _ => none) s.nx a c ⟨.lf, s.nx⟩ ⟨rfl, fun id o h => by cases h⟩
 cases r with
 | thr v s1 => obtain ⟨_, _, _, h⟩ := h2; exact h.elim
 | code e fr s1 => exact h2.elim
 | pan fr v s1 => exact h2.elim
 | val v s2 =>
  obtain ⟨H2, nx2, q3, rfl, q4⟩ := h2
  exact call_frame hsm ((hsound N).call _ _ _ _ _ h1) (fun id o h => (by rw [lf_none] at h; cases h)) rfl (by rw [q3.nx]; show nx2 ≤ s.nx + 30; omega) (fun id o h => .inr ⟨h, lf_none⟩)
theorem ApIn.up {s : St} {args : List Value} {ns : List Nat} (h : ApIn s args ns) : ApIn ⟨aboveT (lowOf args s) s.h, s.nx⟩ args ns := by
 obtain ⟨b, c, cs, e, rfl, hb, hlen, hpos, hns, hle, h1, h2⟩ := h
 have hlow : lowOf [.slice (some ⟨b, 0, none⟩) ns.length c] s = cs.foldl (fun m v => match v with
   | .slice (some a) _ _ => Nat.min m a.block
   | _ => m) b := by simp only [lowOf, hb]
 obtain ⟨l1, l2, _⟩ := foldl_low cs b
 rw [← hlow] at l1 l2
 refine ⟨b, c, cs, e, rfl, above_get.2 ⟨l1, hb⟩, hlen, hpos, hns, hle, fun i v n e1 e2 => ?_, h2⟩
 refine (h1 i v n e1 e2).imp_right (fun ⟨q, l, f, k1, k2, k3⟩ => ⟨q, l, f, k1, above_get.2 ⟨?_, k2⟩, k3⟩)
 subst k1
 exact l2 _ _ _ (List.mem_of_getElem? e1)
theorem g14_ok {P : Program} {E0 E : Env} (hsound : ∀ n, Sound P E0 (ev E0 n)) (hsm : E.sm 14 ≠ none)
  (h1 : ∀ H nx t base u ns, ApOk H nx t base u ns → FnOk E0 14 [u] H nx (fun v _ nx' => v = .bool true ∧ nx' ≤ nx + 50 * ns.length + 20) (fun _ _ _ => False))
  (h2 : ∀ H nx a c, FnOk E0 14 [.slice a 0 c] H nx (fun v _ nx' => v = .bool true ∧ nx' ≤ nx + 20) (fun _ _ _ => False))
  {args : List Value} {s : St} {v : Value} {s' : St} (h : g14 args s = some (v, s')) : CallOk P E 14 args s v s' := by
 unfold g14 at h
 split at h
 ·rename_i hx
  injection h with h
  injection h with e1 e2
  subst e1 e2
  refine call_frame hsm (ap_call (E := E) hsound hsm (fun H nx t base u ns _ _ h => h1 H nx t base u ns h) (ApIn.up hx.choose_spec)) (fun id o h => (above_get.1 h).2) rfl (Nat.le_refl _) (fun id o h => .inr ⟨(below_get.1 h).2, ?_⟩)
  cases h3 : (aboveT (lowOf args s) s.h).get id with
  | none => rfl
  | some p =>
   have := (above_get.1 h3).1
   have := (below_get.1 h).1
   omega
 ·split at h
  ·rename_i hx
   obtain ⟨a, c, rfl⟩ := hx
   injection h with h
   injection h with e1 e2
   subst e1 e2
   exact ap_none hsound hsm h2
  ·cases h
theorem g14_nx {args : List Value} {s : St} {v : Value} {s' : St} (h : g14 args s = some (v, s')) : s.nx ≤ s'.nx := by
 unfold g14 at h
 split at h
 ·injection h with h
  injection h with e1 e2
  subst e2
  show s.nx ≤ s.nx + _ + _
  omega
 ·split at h
  ·injection h with h
   injection h with e1 e2
   subst e2
   show s.nx ≤ s.nx + _
   omega
  ·cases h
structure OwnB (H : Hp) (lo hi : Nat) (cells : List Value) (ns : List Nat) : Prop where
 len : cells.length = ns.length
 row : ∀ (i : Nat) (v : Value) (n : Nat), cells[i]? = some v → ns[i]? = some n → (v = .slice none 0 0 ∧ n = 0) ∨ ∃ q l f, v = .slice (some ⟨q, 0, none⟩) n (big + 1 * qq + n) ∧ H q = some (.cells l f 2) ∧ l.length = n ∧ lo ≤ q ∧ q < hi
 inj : ∀ (i j q n c m d : Nat), cells[i]? = some (Value.slice (some ⟨q, 0, none⟩) n c) → cells[j]? = some (Value.slice (some ⟨q, 0, none⟩) m d) → i = j
 small : ∀ n ∈ ns, n ≤ 1048576
theorem OwnB.blk {H : Hp} {lo hi : Nat} {cells : List Value} {ns : List Nat} (h : OwnB H lo hi cells ns) {i q n c : Nat} (hi' : cells[i]? = some (Value.slice (some ⟨q, 0, none⟩) n c)) : lo ≤ q ∧ q < hi := by
 have hlt : i < cells.length := (List.getElem?_eq_some_iff.1 hi').1
 have hn : ns[i]? = some (ns[i]'(by rw [← h.len]; exact hlt)) := List.getElem?_eq_getElem _
 rcases h.row i _ _ hi' hn with ⟨h1, _⟩ | ⟨q', l, f, h1, _, _, h2, h3⟩
 ·cases h1
 ·injection h1 with h1
  injection h1 with h1
  injection h1 with h1
  subst h1
  exact ⟨h2, h3⟩
theorem OwnB.mono {A B : Hp} {lo hi : Nat} {cells : List Value} {ns : List Nat} (h : OwnB A lo hi cells ns) (hs : ∀ id o, lo ≤ id → id < hi → A id = some o → B id = some o) : OwnB B lo hi cells ns :=
 ⟨h.len, fun i v n h1 h2 => (h.row i v n h1 h2).imp_right (fun ⟨q, l, f, k1, k2, k3, k4, k5⟩ => ⟨q, l, f, k1, hs _ _ k4 k5 k2, k3, k4, k5⟩), h.inj, h.small⟩
theorem OwnB.nil (H : Hp) (lo hi : Nat) : OwnB H lo hi [] [] := ⟨rfl, fun i v n h => (by simp at h), fun i j q n c m d h => (by simp at h), fun n h => (by cases h)⟩
theorem OwnB.append {H : Hp} {lo m1 m2 hi : Nat} {a b : List Value} {ns ms : List Nat} (h : OwnB H lo m1 a ns) (k : OwnB H m2 hi b ms) (h1 : lo ≤ m2) (h2 : m1 ≤ m2) (h3 : m1 ≤ hi) : OwnB H lo hi (a ++ b) (ns ++ ms) := by
 have hl := h.len
 refine ⟨by simp [h.len, k.len], fun i v n e1 e2 => ?_, fun i j q n c m d e1 e2 => ?_, fun n hn => ?_⟩
 ·rcases Nat.lt_or_ge i a.length with hi' | hi'
  ·rw [List.getElem?_append_left hi'] at e1
   rw [List.getElem?_append_left (by omega)] at e2
   exact (h.row i v n e1 e2).imp_right (fun ⟨q, l, f, k1, k2, k3, k4, k5⟩ => ⟨q, l, f, k1, k2, k3, k4, by omega⟩)
  ·rw [List.getElem?_append_right hi'] at e1
   rw [List.getElem?_append_right (by omega), ← hl] at e2
   exact (k.row _ v n e1 e2).imp_right (fun ⟨q, l, f, k1, k2, k3, k4, k5⟩ => ⟨q, l, f, k1, k2, k3, by omega, k5⟩)
 ·rcases Nat.lt_or_ge i a.length with hi' | hi' <;> rcases Nat.lt_or_ge j a.length with hj' | hj'
  ·rw [List.getElem?_append_left hi'] at e1
   rw [List.getElem?_append_left hj'] at e2
   exact h.inj _ _ _ _ _ _ _ e1 e2
  ·rw [List.getElem?_append_left hi'] at e1
   rw [List.getElem?_append_right hj'] at e2
   have := h.blk e1
   have := k.blk e2
   omega
  ·rw [List.getElem?_append_right hi'] at e1
   rw [List.getElem?_append_left hj'] at e2
   have := k.blk e1
   have := h.blk e2
   omega
  ·rw [List.getElem?_append_right hi'] at e1
   rw [List.getElem?_append_right hj'] at e2
   have := k.inj _ _ _ _ _ _ _ e1 e2
   omega
 ·rcases List.mem_append.1 hn with hn | hn
  ·exact h.small n hn
  ·exact k.small n hn
theorem OwnB.one {H : Hp} {v : Value} {x : List UInt8} {lo hi : Nat} (h : GB H v x lo hi) (hx : x.length ≤ 1048576) : OwnB H lo hi [v] [x.length] := by
 refine ⟨rfl, fun i u n h1 h2 => ?_, fun i j q n c m d h1 h2 => ?_, fun n hn => by simp at hn; omega⟩
 ·cases i with
  | succ i => simp at h1
  | zero =>
   injection h1 with h1; injection h2 with h2; subst h1; subst h2
   rcases h with ⟨h3, h4, _⟩ | ⟨b, h3, h4, h5, h6, h7⟩
   ·exact .inl ⟨h3, h4⟩
   ·exact .inr ⟨b, _, _, h3, h5, by rw [h4, Nat.mul_one], h6, h7⟩
 ·cases i with
  | succ i => simp at h1
  | zero => cases j with
   | succ j => simp at h2
   | zero => rfl
theorem OwnL.lh {H : Hp} {hi : Nat} : ∀ {xs : List (List UInt8)} {lo : Nat} {l : List Value}, OwnL H hi lo xs l → lo ≤ hi
 | [], _, _, h => h.2
 | _ :: _, _, _, h => by
  obtain ⟨v, r, m0, m1, rfl, h1, h2, h3, h4⟩ := h
  have := h4.lh
  omega
theorem OwnB.of {H : Hp} {hi : Nat} : ∀ {xs : List (List UInt8)} {lo : Nat} {l : List Value}, OwnL H hi lo xs l → (∀ x ∈ xs, x.length ≤ 1048576) → OwnB H lo hi l (xs.map List.length)
 | [], lo, l, h, _ => by obtain ⟨rfl, _⟩ := h; exact OwnB.nil H lo hi
 | x :: xs, lo, _, h, hx => by
  obtain ⟨v, r, m0, m1, rfl, h1, h2, h3, h4⟩ := h
  have ih := OwnB.of h4 (fun y hy => hx y (List.mem_cons_of_mem _ hy))
  have hlh := h4.lh
  have h5 := (OwnB.one h1 (hx x (List.mem_cons_self ..))).append ih h3 (Nat.le_refl _) hlh
  refine ⟨h5.len, fun i u n e1 e2 => (h5.row i u n e1 e2).imp_right (fun ⟨q, l, f, k1, k2, k3, k4, k5⟩ => ⟨q, l, f, k1, k2, k3, by omega, k5⟩), h5.inj, h5.small⟩
theorem few_flB : ∀ {cl : List Chg}, Few cl → ∀ x ∈ flB cl, x.length ≤ 1048576
 | [], _, x, hx => by cases hx
 | c :: cl, h, x, hx => by
  have h1 := h c (List.mem_cons_self ..)
  have h2 := few_flB (cl := cl) (fun d hd => h d (List.mem_cons_of_mem _ hd))
  simp only [flB, List.mem_cons] at hx
  rcases hx with rfl | rfl | rfl | hx
  ·omega
  ·omega
  ·omega
  ·exact h2 x hx
theorem flB_len : ∀ cl : List Chg, (flB cl).length = 3 * cl.length
 | [] => rfl
 | c :: cl => by
  simp only [flB, List.length_cons, flB_len cl]; omega
theorem spec14s (hsm : sm 14 = some g14) (H : Hp) (nx : Nat) (u : Value) (cells : List Value) (ns : List Nat) (lo hi lo2 hi2 : Nat) (hg : GS H u ns.length cells 22 1 lo hi) (ho : OwnB H lo2 hi2 cells ns) (hdis : ∀ q, lo2 ≤ q → q < hi2 → isBl u q = false) (hlen : ns.length ≤ 536870912) :
  FnOk (envS sm) 14 [u] H nx (fun v H' nx' => v = .bool true ∧ nx ≤ nx' ∧ ∀ id o, id < lo → id < lo2 → H id = some o → H' id = some o) (fun _ _ _ => False) := by
 refine FnOk.sum (F := g14) hsm (fun s hS => ?_)
 have hlow : (∃ ns, ApIn s [u] ns) → ∀ id, id < lo → id < lo2 → id < lowOf [u] s := by
  rintro ⟨ns', hap⟩ id h1 h2
  obtain ⟨b, c, cs, e, he, hb, hlen', hpos, _, _, h3, _⟩ := hap
  injection he with he _
  subst he
  have hn' : ns'.length = ns.length := by
   rcases hg with ⟨h4, _⟩ | ⟨b', h4, _⟩
   ·cases h4
   ·injection h4
  obtain ⟨b', h4, h5⟩ := hg.tbl (by omega)
  injection h4 with h4 _ _
  injection h4 with h4
  injection h4 with h4
  subst h4
  have hb' := hS.h _ _ h5
  rw [hb] at hb'
  injection hb' with hb'
  injection hb' with hb' _ _
  subst hb'
  have hlw : lowOf [.slice (some ⟨b, 0, none⟩) ns'.length c] s = cs.foldl (fun m v => match v with
    | .slice (some a) _ _ => Nat.min m a.block
    | _ => m) b := by simp only [lowOf, hb]
  rw [hlw]
  refine Nat.lt_of_lt_of_le (Nat.lt_succ_self id) ((foldl_low cs b).2.2 (id + 1) ?_ (fun a n c hm => ?_))
  ·have := (hg.blk (isBl_of rfl)).1; omega
  ·obtain ⟨i, hi⟩ := List.getElem?_of_mem hm
   have hlt : i < cs.length := (List.getElem?_eq_some_iff.1 hi).1
   have hni : ns[i]? = some (ns[i]'(by rw [← ho.len]; exact hlt)) := List.getElem?_eq_getElem _
   rcases ho.row i _ _ hi hni with ⟨h6, _⟩ | ⟨q, l, f, h6, _, _, h7, _⟩
   ·cases h6
   ·injection h6 with h6
    injection h6 with h6
    rw [h6]
    show id + 1 ≤ q
    omega
 have key : (∃ ns, ApIn s [u] ns) ∨ ∃ a c, [u] = [.slice a 0 c] := by
  rcases Nat.eq_zero_or_pos ns.length with h0 | h0
  ·rw [h0] at hg
   obtain ⟨a, c, rfl⟩ := hg.shape
   exact .inr ⟨a, c, rfl⟩
  ·obtain ⟨b, rfl, hb⟩ := hg.tbl h0
   refine .inl ⟨ns, b, _, cells, 22, rfl, hS.h _ _ hb, by rw [hg.len, Nat.mul_one], h0, ho.small, hlen, fun i v n h1 h2 => ?_, ho.inj⟩
   refine (ho.row i v n h1 h2).imp_right (fun ⟨q, l, f, k1, k2, k3, k4, k5⟩ => ⟨q, l, f, k1, hS.h _ _ k2, k3, fun he => ?_⟩)
   subst he
   have := hdis _ k4 k5
   rw [isBl_of rfl] at this
   cases this
 by_cases hx : ∃ ns, ApIn s [u] ns
 ·refine ⟨.bool true, ⟨belowT (lowOf [u] s) s.h, s.nx + 60 * hx.choose.length + 30⟩, fun id => if id < lo ∧ id < lo2 then H id else none, s.nx + 60 * hx.choose.length + 30, ?_, ⟨rfl, fun id o h => ?_⟩, rfl, by have := hS.nx; omega, fun id o h1 h2 h3 => by show (if _ then _ else _) = _; rw [if_pos ⟨h1, h2⟩]; exact h3⟩
  ·unfold g14
   rw [dif_pos hx]
  ·have h : (if id < lo ∧ id < lo2 then H id else none) = some o := h
   split at h
   ·rename_i h4
    exact below_get.2 ⟨hlow hx id h4.1 h4.2, hS.h _ _ h⟩
   ·cases h
 ·have h1 := key.resolve_left hx
  refine ⟨.bool true, ⟨s.h, s.nx + 30⟩, H, s.nx + 30, ?_, ⟨rfl, hS.h⟩, rfl, by have := hS.nx; omega, fun _ _ _ _ h => h⟩
  unfold g14
  rw [dif_neg hx, if_pos h1]
end Go.Proofs
end
