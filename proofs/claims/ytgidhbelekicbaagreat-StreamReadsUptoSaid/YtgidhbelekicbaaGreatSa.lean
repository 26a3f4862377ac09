/-
  Part of the proof of StreamReadsUptoSaid: Sums.
-/
import Derived.Test.YtgidhbelekicbaaGreatEj
import Derived.Test.YtgidhbelekicbaaGreatEi
set_option linter.unusedVariables false
section
namespace Go.Proofs
open Go.Eng
variable {sm : Nat → Option (List Value → St → Option (Value × St))}
def stepN (n : Nat) : Nat := if n % 2 = 1 then (n / 2) ^^^ 2197175160 else n / 2
theorem stepN_lt {n : Nat} (h : n < 4294967296) : stepN n < 4294967296 := by
 unfold stepN
 split
 ·exact Nat.xor_lt_two_pow (n := 32) (by omega) (by decide)
 ·omega
def eightN : Nat → Nat → Nat
 | 0, n => n
 | k + 1, n => eightN k (stepN n)
theorem eightN_lt : ∀ (k : Nat) {n : Nat}, n < 4294967296 → eightN k n < 4294967296
 | 0, _, h => h
 | k + 1, _, h => eightN_lt k (stepN_lt h)
theorem eightN_succ : ∀ (k n : Nat), eightN (k + 1) n = stepN (eightN k n)
 | 0, _ => rfl
 | k + 1, n => eightN_succ k (stepN n)
theorem spec241 (hsm : sm 241 = none) (H : Hp) (nx n : Nat) (hn : n < 4294967296) : FnOk (envS sm) 241 [.int .u32 (n : Int)] H nx (fun v H' nx' => v = .int .u32 (stepN n : Nat) ∧ H = H' ∧ nx = nx') (fun _ _ _ => False) := by
 refine FnOk.of (fn := Tryz.f241) hsm rfl rfl rfl ?_
 refine WC.seqR (xs := [om 2 (.v (.int .u32 0))]) (by kernel_rfl) ?_
 refine WS.mv rfl rfl ?_
 refine WS.nil ?_
 refine WC.seq ?_
 refine WC.seqR (xs := [om 3 (.t 0),
   oq 4 (.p (.bin .rem .other true (.t 3) (.v (.int .u32 2)))),
   oq 5 (.p (.bin .eql .other true (.t 4) (.v (.int .u32 1))))]) (by kernel_rfl) ?_
 refine WS.mv rfl rfl ?_
 refine WS.c (One.bin rfl rfl (bin_rem (b := 2) (by first | decide | omega)) rfl ?_)
 refine WS.c (One.bin rfl rfl bin_eql rfl ?_)
 refine WS.nil ?_
 refine WC.cond rfl (fun hc1 => ?_) (fun hc1 => ?_)
 ·refine WC.seqR (xs := [om 6 (.t 0),
    oq 7 (.p (.bin .quo .other true (.t 6) (.v (.int .u32 2)))),
    oq 8 (.p (.bin .xor .other true (.t 7) (.v (.int .u32 2197175160)))),
    om 2 (.t 8)]) (by kernel_rfl) ?_
  refine WS.mv rfl rfl ?_
  refine WS.c (One.bin rfl rfl (bin_quo (b := 2) (by first | decide | omega) rfl (by show _ < 4294967296; first | omega | assumption | decide)) rfl ?_)
  refine WS.c (One.bin rfl rfl (bin_xor (b := 2197175160) rfl (by show _ < 4294967296; first | omega | assumption | decide) (by show _ < 4294967296; first | omega | assumption | decide)) rfl ?_)
  refine WS.mv rfl rfl ?_
  refine WS.nil ?_
  refine WC.ret ?_
  have hn2 : n % 2 = 1 := by omega
  exact EndOk.now rfl rfl ⟨by simp only [oneV, stepN, if_pos hn2], rfl, rfl⟩
 ·refine WC.skip ?_
  refine WC.seqR (xs := [om 9 (.t 0),
    oq 10 (.p (.bin .quo .other true (.t 9) (.v (.int .u32 2)))),
    om 2 (.t 10)]) (by kernel_rfl) ?_
  refine WS.mv rfl rfl ?_
  refine WS.c (One.bin rfl rfl (bin_quo (b := 2) (by first | decide | omega) rfl (by show _ < 4294967296; first | omega | assumption | decide)) rfl ?_)
  refine WS.mv rfl rfl ?_
  refine WS.nil ?_
  refine WC.ret ?_
  have hn2 : ¬ n % 2 = 1 := by omega
  exact EndOk.now rfl rfl ⟨by simp only [oneV, stepN, if_neg hn2], rfl, rfl⟩
theorem spec170 (hsm : sm 170 = none) (hsm241 : sm 241 = none) (H : Hp) (nx n : Nat) (hn : n < 4294967296) : FnOk (envS sm) 170 [.int .u32 (n : Int)] H nx (fun v H' nx' => v = .int .u32 (eightN 8 n : Nat) ∧ H = H' ∧ nx = nx') (fun _ _ _ => False) := by
 refine FnOk.of (fn := Tryz.f170) hsm rfl rfl rfl ?_
 refine WC.seqR (xs := [om 2 (.v (.int .u32 0))]) (by kernel_rfl) ?_
 refine WS.mv rfl rfl ?_
 refine WS.nil ?_
 refine WC.seq ?_
 refine WC.seqR (xs := [om 3 (.v (.int .i64 0))]) (by kernel_rfl) ?_
 refine WS.mv rfl rfl ?_
 refine WS.nil ?_
 refine WC.block ?_
 refine WC.loop (fun m env ds H' nx' => ∃ (k w : Nat), m = 8 - k ∧ SubE [(0, .int .u32 (w : Int)), (3, .int .i64 (k : Int))] env ∧ ds = [] ∧ k ≤ 8 ∧ w < 4294967296 ∧ w = eightN k n ∧ H = H' ∧ nx = nx') (fun m env ds H' nx' hI => ?_) (m := 8) (⟨0, n, rfl, (by repeat (first | exact SubE.nil _ | refine SubE.cons rfl ?_)), rfl, by omega, hn, rfl, rfl, rfl⟩)
 obtain ⟨k, w, rfl, hsub, rfl, hk, hw, hwe, rfl, rfl⟩ := hI
 refine WC.weak (env' := [(0, .int .u32 (w : Int)), (3, .int .i64 (k : Int))]) ?_ hsub (fun _ _ h => h)
 refine WC.seq ?_
 refine WC.seqR (xs := [om 4 (.t 3),
   oq 5 (.p (.bin .lss .other true (.t 4) (.v (.int .i64 8))))]) (by kernel_rfl) ?_
 refine WS.mv rfl rfl ?_
 refine WS.c (One.bin rfl rfl bin_lss rfl ?_)
 refine WS.nil ?_
 refine WC.cond rfl (fun hc1 => ?_) (fun hc1 => ?_)
 ·refine WC.skip ?_
  refine WC.seq ?_
  refine WC.block ?_
  refine WC.region (xs := [om 8 (.t 0),
    oq 9 (.call (.v (.func (.func 241) #[] #[])) [(.t 8)]),
    om 0 (.t 9)]) (by kernel_rfl) ?_
  refine WS.mv rfl rfl ?_
  refine WS.c (One.call rfl rfl (spec241 hsm241 _ _ w hw) rfl ?_ (fun _ _ _ h => h.elim))
  rintro _ _ _ ⟨rfl, rfl, rfl⟩
  refine WS.mv rfl rfl ?_
  refine WS.nil ?_
  refine WC.region (xs := [om 6 (.t 3),
    oq 7 (.p (.bin .add .other true (.t 6) (.v (.int .i64 1)))),
    om 3 (.t 7)]) (by kernel_rfl) ?_
  refine WS.mv rfl rfl ?_
  refine WS.c (One.bin rfl rfl (bin_add64 (by omega) (by omega)) rfl ?_)
  refine WS.mv rfl rfl ?_
  refine WS.nil ?_
  refine ⟨_, ?_, k + 1, eightN (k + 1) n, rfl, ?_, rfl, by omega, eightN_lt _ hn, rfl, rfl, rfl⟩
  ·omega
  ·rw [eightN_succ, ← hwe]
   exact (by repeat (first | exact SubE.nil _ | refine SubE.cons rfl ?_))
 ·refine WC.exit ?_
  refine WC.seqR (xs := [om 10 (.t 0),
    om 2 (.t 10)]) (by kernel_rfl) ?_
  refine WS.mv rfl rfl ?_
  refine WS.mv rfl rfl ?_
  refine WS.nil ?_
  refine WC.ret ?_
  have hk8 : k = 8 := by omega
  subst hk8
  exact EndOk.now rfl rfl ⟨by simp only [oneV, hwe], rfl, rfl⟩
end Go.Proofs
end
section
namespace Go.Proofs
open Go.Eng
variable {sm : Nat → Option (List Value → St → Option (Value × St))}
theorem cmpU_step {la lb : List UInt8} {i : Nat} (hi : i < la.length) (hj : i < lb.length) : cmpU (la.drop i) (lb.drop i) = if la[i] < lb[i] then -1 else if lb[i] < la[i] then 1 else cmpU (la.drop (i + 1)) (lb.drop (i + 1)) := by
 rw [List.drop_eq_getElem_cons hi, List.drop_eq_getElem_cons hj]; rfl
theorem cmpU_end {la lb : List UInt8} {i : Nat} (hi : i ≤ la.length) (hj : i ≤ lb.length) (h : i = la.length ∨ i = lb.length) : cmpU (la.drop i) (lb.drop i) = if la.length < lb.length then -1 else if lb.length < la.length then 1 else 0 := by
 rcases h with h | h
 ·subst h
  rw [List.drop_length]
  by_cases hl : la.length < lb.length
  ·rw [if_pos hl, List.drop_eq_getElem_cons hl]; rfl
  ·have : lb.length = la.length := by omega
   rw [if_neg hl, if_neg (by omega), ← this, List.drop_length]; rfl
 ·subst h
  rw [List.drop_length]
  by_cases hl : lb.length < la.length
  ·rw [if_neg (by omega), if_pos hl, List.drop_eq_getElem_cons hl]; rfl
  ·have : la.length = lb.length := by omega
   rw [if_neg (by omega), if_neg hl, ← this, List.drop_length]; rfl
theorem cmpU_eq_zero : ∀ {la lb : List UInt8}, cmpU la lb = 0 ↔ la = lb
 | [], [] => by simp [cmpU]
 | [], _ :: _ => by simp [cmpU]
 | _ :: _, [] => by simp [cmpU]
 | x :: a, y :: b => by
  have ih := @cmpU_eq_zero a b
  simp only [cmpU]
  by_cases h1 : x < y
  ·rw [if_pos h1]; simp; intro h; subst h; exact absurd h1 (UInt8.lt_irrefl x)
  ·rw [if_neg h1]
   by_cases h2 : y < x
   ·rw [if_pos h2]; simp; intro h; subst h; exact absurd h2 (UInt8.lt_irrefl x)
   ·rw [if_neg h2, ih]
    have : x = y := UInt8.le_antisymm (UInt8.not_lt.1 h2) (UInt8.not_lt.1 h1)
    simp [this]
theorem u8lt {x y : UInt8} (h : (x.toNat : Int) < (y.toNat : Int)) : x < y := by rw [UInt8.lt_iff_toNat_lt]; omega
theorem u8nlt {x y : UInt8} (h : ¬ (x.toNat : Int) < (y.toNat : Int)) : ¬ x < y := by rw [UInt8.lt_iff_toNat_lt]; omega
def onR : List UInt8 → Nat → Nat
 | [], w => w
 | b :: r, w => onR r (eightN 8 (w ^^^ b.toNat))
theorem onR_snoc : ∀ (l : List UInt8) (b : UInt8) (w : Nat), onR (l ++ [b]) w = eightN 8 (onR l w ^^^ b.toNat)
 | [], _, _ => rfl
 | _ :: r, b, w => onR_snoc r b _
theorem xor_lt32 {a b : Nat} (ha : a < 4294967296) (hb : b < 4294967296) : a ^^^ b < 4294967296 := Nat.xor_lt_two_pow (n := 32) ha hb
theorem u8_lt32 (b : UInt8) : b.toNat < 4294967296 := Nat.lt_trans b.toNat_lt (by decide)
theorem onR_lt : ∀ (l : List UInt8) {w : Nat}, w < 4294967296 → onR l w < 4294967296
 | [], _, h => h
 | b :: r, _, h => onR_lt r (eightN_lt 8 (xor_lt32 h (u8_lt32 b)))
theorem take_snoc {l : List UInt8} {i : Nat} (h : i < l.length) : l.take (i + 1) = l.take i ++ [l[i]] := by rw [List.take_add_one, List.getElem?_eq_getElem h]; rfl
def crcN (l : List UInt8) : Nat := 4294967295 ^^^ onR l 4294967295
theorem crcN_lt (l : List UInt8) : crcN l < 4294967296 := xor_lt32 (by decide) (onR_lt l (by decide))
theorem com32 {n : Nat} (h : n < 4294967296) : rCom (Tr.put (some (.int .u32 (n : Int))) 0 .lf) (.t 0) = some (.int .u32 ((4294967295 ^^^ n : Nat) : Int)) := by
 have h0 : evalO (Tr.put (some (Value.int .u32 (n : Int))) 0 .lf) (.t 0) = some (.int .u32 (n : Int)) := Tr.put_same (Value.int .u32 (n : Int)) .lf 0
 unfold rCom
 rw [h0]
 show arithI .xor .u32 ((4294967295 : Nat) : Int) (n : Int) = _
 show some (Value.int .u32 (wrapF .u32 ((4294967295 ^^^ n : Nat) : Int))) = _
 rw [wrapF_eq, wrap_u rfl (xor_lt32 (by decide) h)]
theorem spec57 (hsm : sm 57 = none) (H : Hp) (nx : Nat) (a b : Option Addr) (la lb : List UInt8) (ca cb : Nat) (ha : BS H a la) (hb : BS H b lb) (hla : la.length < 4611686018427387904) : FnOk (envS sm) 57 [.slice a la.length ca, .slice b lb.length cb] H nx (fun v H' nx' => v = .int .i64 (cmpU la lb) ∧ H = H' ∧ nx = nx') (fun _ _ _ => False) := by
 refine FnOk.of (fn := Tryz.f57) hsm rfl rfl rfl ?_
 refine WC.seqR (xs := [om 4 (.v (.int .i64 0))]) (by kernel_rfl) ?_
 refine WS.mv rfl rfl ?_
 refine WS.nil ?_
 refine WC.seq ?_
 refine WC.seqR (xs := [om 5 (.v (.int .i64 0))]) (by kernel_rfl) ?_
 refine WS.mv rfl rfl ?_
 refine WS.nil ?_
 refine WC.block ?_
 refine WC.loop (fun m env ds H' nx' => ∃ (i : Nat), m = la.length - i ∧ SubE [(0, .slice a la.length ca), (1, .slice b lb.length cb), (5, .int .i64 (i : Int))] env ∧ ds = [] ∧ i ≤ la.length ∧ i ≤ lb.length ∧ cmpU (la.drop i) (lb.drop i) = cmpU la lb ∧ H = H' ∧ nx = nx') (fun m env ds H' nx' hI => ?_) (m := la.length) (⟨0, by omega, (by repeat (first | exact SubE.nil _ | refine SubE.cons rfl ?_)), rfl, by omega, by omega, rfl, rfl, rfl⟩)
 obtain ⟨i, rfl, hsub, rfl, hia, hib, hcmp, rfl, rfl⟩ := hI
 refine WC.weak (env' := [(0, .slice a la.length ca), (1, .slice b lb.length cb), (5, .int .i64 (i : Int))]) ?_ hsub (fun _ _ h => h)
 refine WC.seq ?_
 refine WC.seqR (xs := [om 6 (.t 5),
   om 7 (.t 0),
   oq 8 (.p (.len (.t 7))),
   oq 9 (.p (.bin .lss .other false (.t 6) (.t 8))),
   om 10 (.t 9),
   ⟨(some (10, true)), (some (11, 11)), .p (.mv (.t 5))⟩,
   ⟨(some (10, true)), (some (12, 12)), .p (.mv (.t 1))⟩,
   ⟨(some (10, true)), (some (13, 13)), .p (.len (.t 12))⟩,
   ⟨(some (10, true)), (some (14, 14)), .p (.bin .lss .other false (.t 11) (.t 13))⟩,
   oq 15 (.p (.pick (.t 10) (.t 14) (.v (.bool false))))]) (by kernel_rfl) ?_
 refine WS.mv rfl rfl ?_
 refine WS.mv rfl rfl ?_
 refine WS.c (One.len rfl rfl ?_)
 refine WS.c (One.bin rfl rfl bin_lss rfl ?_)
 refine WS.mv rfl rfl ?_
 refine WS.split (t := 10) rfl (fun hg1 => ?_) (fun hg1 => ?_)
 ·refine WS.c (One.gPT rfl hg1 (One.mv rfl rfl ?_))
  refine WS.c (One.gPT rfl hg1 (One.mv rfl rfl ?_))
  refine WS.c (One.gPT rfl hg1 (One.len rfl rfl ?_))
  refine WS.c (One.gPT rfl hg1 (One.bin rfl rfl bin_lss rfl ?_))
  refine WS.c (One.pickT rfl hg1 rfl rfl ?_)
  refine WS.nil ?_
  refine WC.cond rfl (fun hc2 => ?_) (fun hc2 => ?_)
  ·obtain ⟨b1, o1, rfl, hr1⟩ := ha.el (i := i) (by omega)
   obtain ⟨b2, o2, rfl, hr2⟩ := hb.el (i := i) (by omega)
   refine WC.skip ?_
   refine WC.seq ?_
   refine WC.block ?_
   refine WC.seq ?_
   refine WC.seqT (l := [om 18 (.t 0),
     om 19 (.t 5),
     oq 20 (.p (.iaS 1 (.t 18) (.t 19))),
     oq 21 (.l (.ld none (.t 20))),
     om 22 (.t 1),
     om 23 (.t 5),
     oq 24 (.p (.iaS 1 (.t 22) (.t 23))),
     oq 25 (.l (.ld none (.t 24))),
     oq 26 (.p (.bin .lss .other false (.t 21) (.t 25)))]) (ws := [(0, 0), (0, 0), (0, 0), (0, 0), (0, 0), (0, 0), (0, 0), (0, 0), (0, 0)]) (xs := [(om 18 (.t 0), [0]),
     (om 19 (.t 5), [5]),
     (oq 20 (.p (.iaS 1 (.t 18) (.t 19))), [18, 19]),
     (oq 21 (.l (.ld none (.t 20))), [20]),
     (om 22 (.t 1), [1]),
     (om 23 (.t 5), [5]),
     (oq 24 (.p (.iaS 1 (.t 22) (.t 23))), [22, 23]),
     (oq 25 (.l (.ld none (.t 24))), [24]),
     (oq 26 (.p (.bin .lss .other false (.t 21) (.t 25))), [21, 25])]) (by kernel_rfl) (by kernel_rfl) ?_
   refine WD.q rfl (One.mv rfl rfl ⟨rfl, ?_⟩)
   refine WD.q rfl (One.mv rfl rfl ⟨rfl, ?_⟩)
   refine WD.q rfl (One.iaS rfl rfl rfl (by omega) rfl ⟨rfl, ?_⟩)
   refine WD.r (One.ld rfl hr1 rfl ⟨_, rfl, ?_⟩)
   refine WD.q rfl (One.mv rfl rfl ⟨rfl, ?_⟩)
   refine WD.q rfl (One.mv rfl rfl ⟨rfl, ?_⟩)
   refine WD.q rfl (One.iaS rfl rfl rfl (by omega) rfl ⟨rfl, ?_⟩)
   refine WD.r (One.ld rfl hr2 rfl ⟨_, rfl, ?_⟩)
   refine WD.q rfl (One.bin rfl rfl bin_lss rfl ⟨rfl, ?_⟩)
   refine WD.nil (⟨⟨veq_int _ _ _, hr2, trivial⟩, ⟨veq_int _ _ _, hr1, trivial⟩, trivial⟩) ?_
   refine WC.cond rfl (fun hc3 => ?_) (fun hc3 => ?_)
   ·refine WC.seqR (xs := [om 4 (.v (.int .i64 (-1)))]) (by kernel_rfl) ?_
    refine WS.mv rfl rfl ?_
    refine WS.nil ?_
    refine WC.ret ?_
    refine EndOk.now rfl rfl ⟨?_, rfl, rfl⟩
    rw [← hcmp]
    rw [cmpU_step (by omega) (by omega), if_pos (u8lt hc3)]; rfl
   ·refine WC.skip ?_
    refine WC.seqT (l := [om 27 (.t 0),
      om 28 (.t 5),
      oq 29 (.p (.iaS 1 (.t 27) (.t 28))),
      oq 30 (.l (.ld none (.t 29))),
      om 31 (.t 1),
      om 32 (.t 5),
      oq 33 (.p (.iaS 1 (.t 31) (.t 32))),
      oq 34 (.l (.ld none (.t 33))),
      oq 35 (.p (.bin .gtr .other false (.t 30) (.t 34)))]) (ws := [(0, 0), (0, 0), (0, 0), (0, 0), (0, 0), (0, 0), (0, 0), (0, 0), (0, 0)]) (xs := [(om 27 (.t 0), [0]),
      (om 28 (.t 5), [5]),
      (oq 29 (.p (.iaS 1 (.t 27) (.t 28))), [27, 28]),
      (oq 30 (.l (.ld none (.t 29))), [29]),
      (om 31 (.t 1), [1]),
      (om 32 (.t 5), [5]),
      (oq 33 (.p (.iaS 1 (.t 31) (.t 32))), [31, 32]),
      (oq 34 (.l (.ld none (.t 33))), [33]),
      (oq 35 (.p (.bin .gtr .other false (.t 30) (.t 34))), [30, 34])]) (by kernel_rfl) (by kernel_rfl) ?_
    refine WD.q rfl (One.mv rfl rfl ⟨rfl, ?_⟩)
    refine WD.q rfl (One.mv rfl rfl ⟨rfl, ?_⟩)
    refine WD.q rfl (One.iaS rfl rfl rfl (by omega) rfl ⟨rfl, ?_⟩)
    refine WD.r (One.ld rfl hr1 rfl ⟨_, rfl, ?_⟩)
    refine WD.q rfl (One.mv rfl rfl ⟨rfl, ?_⟩)
    refine WD.q rfl (One.mv rfl rfl ⟨rfl, ?_⟩)
    refine WD.q rfl (One.iaS rfl rfl rfl (by omega) rfl ⟨rfl, ?_⟩)
    refine WD.r (One.ld rfl hr2 rfl ⟨_, rfl, ?_⟩)
    refine WD.q rfl (One.bin rfl rfl bin_gtr rfl ⟨rfl, ?_⟩)
    refine WD.nil (⟨⟨veq_int _ _ _, hr2, trivial⟩, ⟨veq_int _ _ _, hr1, trivial⟩, trivial⟩) ?_
    refine WC.cond rfl (fun hc4 => ?_) (fun hc4 => ?_)
    ·refine WC.seqR (xs := [om 4 (.v (.int .i64 1))]) (by kernel_rfl) ?_
     refine WS.mv rfl rfl ?_
     refine WS.nil ?_
     refine WC.ret ?_
     refine EndOk.now rfl rfl ⟨?_, rfl, rfl⟩
     rw [← hcmp]
     rw [cmpU_step (by omega) (by omega), if_neg (u8nlt hc3), if_pos (u8lt hc4)]; rfl
    ·refine WC.skip ?_
     refine WC.region (xs := [om 16 (.t 5),
       oq 17 (.p (.bin .add .other true (.t 16) (.v (.int .i64 1)))),
       om 5 (.t 17)]) (by kernel_rfl) ?_
     refine WS.mv rfl rfl ?_
     refine WS.c (One.bin rfl rfl (bin_add64 (by omega) (by omega)) rfl ?_)
     refine WS.mv rfl rfl ?_
     refine WS.nil ?_
     refine ⟨_, ?_, i + 1, rfl, (by repeat (first | exact SubE.nil _ | refine SubE.cons rfl ?_)), rfl, by omega, by omega, ?_, rfl, rfl⟩
     ·omega
     ·rw [← hcmp, cmpU_step (i := i) (by omega) (by omega), if_neg (u8nlt hc3), if_neg (u8nlt hc4)]
  ·refine WC.exit ?_
   refine WC.seq ?_
   refine WC.seqR (xs := [om 36 (.t 0),
     oq 37 (.p (.len (.t 36))),
     om 38 (.t 1),
     oq 39 (.p (.len (.t 38))),
     oq 40 (.p (.bin .lss .other false (.t 37) (.t 39)))]) (by kernel_rfl) ?_
   refine WS.mv rfl rfl ?_
   refine WS.c (One.len rfl rfl ?_)
   refine WS.mv rfl rfl ?_
   refine WS.c (One.len rfl rfl ?_)
   refine WS.c (One.bin rfl rfl bin_lss rfl ?_)
   refine WS.nil ?_
   refine WC.cond rfl (fun hc5 => ?_) (fun hc5 => ?_)
   ·refine WC.seqR (xs := [om 4 (.v (.int .i64 (-1)))]) (by kernel_rfl) ?_
    refine WS.mv rfl rfl ?_
    refine WS.nil ?_
    refine WC.ret ?_
    refine EndOk.now rfl rfl ⟨?_, rfl, rfl⟩
    rw [← hcmp]
    rw [cmpU_end (by omega) (by omega) (by omega)]
    rw [if_pos (by omega)]; rfl
   ·refine WC.skip ?_
    refine WC.seq ?_
    refine WC.seqR (xs := [om 41 (.t 0),
      oq 42 (.p (.len (.t 41))),
      om 43 (.t 1),
      oq 44 (.p (.len (.t 43))),
      oq 45 (.p (.bin .gtr .other false (.t 42) (.t 44)))]) (by kernel_rfl) ?_
    refine WS.mv rfl rfl ?_
    refine WS.c (One.len rfl rfl ?_)
    refine WS.mv rfl rfl ?_
    refine WS.c (One.len rfl rfl ?_)
    refine WS.c (One.bin rfl rfl bin_gtr rfl ?_)
    refine WS.nil ?_
    refine WC.cond rfl (fun hc6 => ?_) (fun hc6 => ?_)
    ·refine WC.seqR (xs := [om 4 (.v (.int .i64 1))]) (by kernel_rfl) ?_
     refine WS.mv rfl rfl ?_
     refine WS.nil ?_
     refine WC.ret ?_
     refine EndOk.now rfl rfl ⟨?_, rfl, rfl⟩
     rw [← hcmp]
     rw [cmpU_end (by omega) (by omega) (by omega)]
     rw [if_neg (by omega), if_pos (by omega)]; rfl
    ·refine WC.skip ?_
     refine WC.seqR (xs := [om 4 (.v (.int .i64 0))]) (by kernel_rfl) ?_
     refine WS.mv rfl rfl ?_
     refine WS.nil ?_
     refine WC.ret ?_
     refine EndOk.now rfl rfl ⟨?_, rfl, rfl⟩
     rw [← hcmp]
     rw [cmpU_end (by omega) (by omega) (by omega)]
     rw [if_neg (by omega), if_neg (by omega)]; rfl
 ·refine WS.c (One.gPF rfl hg1 rfl ?_)
  refine WS.c (One.gPF rfl hg1 rfl ?_)
  refine WS.c (One.gPF rfl hg1 rfl ?_)
  refine WS.c (One.gPF rfl hg1 rfl ?_)
  refine WS.c (One.pickF rfl hg1 rfl rfl ?_)
  refine WS.nil ?_
  refine WC.condB rfl (fun h => nomatch h) (fun _ => ?_)
  refine WC.exit ?_
  refine WC.seq ?_
  refine WC.seqR (xs := [om 36 (.t 0),
    oq 37 (.p (.len (.t 36))),
    om 38 (.t 1),
    oq 39 (.p (.len (.t 38))),
    oq 40 (.p (.bin .lss .other false (.t 37) (.t 39)))]) (by kernel_rfl) ?_
  refine WS.mv rfl rfl ?_
  refine WS.c (One.len rfl rfl ?_)
  refine WS.mv rfl rfl ?_
  refine WS.c (One.len rfl rfl ?_)
  refine WS.c (One.bin rfl rfl bin_lss rfl ?_)
  refine WS.nil ?_
  refine WC.cond rfl (fun hc8 => ?_) (fun hc8 => ?_)
  ·refine WC.seqR (xs := [om 4 (.v (.int .i64 (-1)))]) (by kernel_rfl) ?_
   refine WS.mv rfl rfl ?_
   refine WS.nil ?_
   refine WC.ret ?_
   refine EndOk.now rfl rfl ⟨?_, rfl, rfl⟩
   rw [← hcmp]
   rw [cmpU_end (by omega) (by omega) (by omega)]
   rw [if_pos (by omega)]; rfl
  ·refine WC.skip ?_
   refine WC.seq ?_
   refine WC.seqR (xs := [om 41 (.t 0),
     oq 42 (.p (.len (.t 41))),
     om 43 (.t 1),
     oq 44 (.p (.len (.t 43))),
     oq 45 (.p (.bin .gtr .other false (.t 42) (.t 44)))]) (by kernel_rfl) ?_
   refine WS.mv rfl rfl ?_
   refine WS.c (One.len rfl rfl ?_)
   refine WS.mv rfl rfl ?_
   refine WS.c (One.len rfl rfl ?_)
   refine WS.c (One.bin rfl rfl bin_gtr rfl ?_)
   refine WS.nil ?_
   refine WC.cond rfl (fun hc9 => ?_) (fun hc9 => ?_)
   ·refine WC.seqR (xs := [om 4 (.v (.int .i64 1))]) (by kernel_rfl) ?_
    refine WS.mv rfl rfl ?_
    refine WS.nil ?_
    refine WC.ret ?_
    refine EndOk.now rfl rfl ⟨?_, rfl, rfl⟩
    rw [← hcmp]
    rw [cmpU_end (by omega) (by omega) (by omega)]
    rw [if_neg (by omega), if_pos (by omega)]; rfl
   ·refine WC.skip ?_
    refine WC.seqR (xs := [om 4 (.v (.int .i64 0))]) (by kernel_rfl) ?_
    refine WS.mv rfl rfl ?_
    refine WS.nil ?_
    refine WC.ret ?_
    refine EndOk.now rfl rfl ⟨?_, rfl, rfl⟩
    rw [← hcmp]
    rw [cmpU_end (by omega) (by omega) (by omega)]
    rw [if_neg (by omega), if_neg (by omega)]; rfl
theorem spec22 (hsm : sm 22 = none) (hsm57 : sm 57 = none) (H : Hp) (nx : Nat) (a b : Option Addr) (la lb : List UInt8) (ca cb : Nat) (ha : BS H a la) (hb : BS H b lb) (hla : la.length < 4611686018427387904) : FnOk (envS sm) 22 [.slice a la.length ca, .slice b lb.length cb] H nx (fun v H' nx' => v = .bool (decide (la = lb)) ∧ H = H' ∧ nx = nx') (fun _ _ _ => False) := by
 refine FnOk.of (fn := Tryz.f22) hsm rfl rfl rfl ?_
 refine WC.seqR (xs := [om 4 (.v (.bool false))]) (by kernel_rfl) ?_
 refine WS.mv rfl rfl ?_
 refine WS.nil ?_
 refine WC.seqR (xs := [om 5 (.t 0),
   om 6 (.t 1),
   oq 7 (.call (.v (.func (.func 57) #[] #[])) [(.t 5), (.t 6)]),
   oq 8 (.p (.bin .eql .other true (.t 7) (.v (.int .i64 0)))),
   om 4 (.t 8)]) (by kernel_rfl) ?_
 refine WS.mv rfl rfl ?_
 refine WS.mv rfl rfl ?_
 refine WS.c (One.call rfl rfl (spec57 hsm57 _ _ a b la lb ca cb ha hb hla) rfl ?_ (fun _ _ _ h => h.elim))
 rintro _ _ _ ⟨rfl, rfl, rfl⟩
 refine WS.c (One.bin rfl rfl bin_eql rfl ?_)
 refine WS.mv rfl rfl ?_
 refine WS.nil ?_
 refine WC.ret ?_
 refine EndOk.now rfl rfl ⟨?_, rfl, rfl⟩
 simp only [oneV, cmpU_eq_zero]
theorem spec103 (hsm : sm 103 = none) (hsm170 : sm 170 = none) (hsm241 : sm 241 = none) (H : Hp) (nx w : Nat) (hw : w < 4294967296) (a : Option Addr) (l : List UInt8) (c : Nat) (ha : BS H a l) (hl : l.length < 4611686018427387904) : FnOk (envS sm) 103 [.int .u32 (w : Int), .slice a l.length c] H nx (fun v H' nx' => v = .int .u32 (onR l w : Nat) ∧ H = H' ∧ nx = nx') (fun _ _ _ => False) := by
 refine FnOk.of (fn := Tryz.f103) hsm rfl rfl rfl ?_
 refine WC.seqR (xs := [om 4 (.v (.int .u32 0))]) (by kernel_rfl) ?_
 refine WS.mv rfl rfl ?_
 refine WS.nil ?_
 refine WC.seq ?_
 refine WC.seqR (xs := [om 5 (.v (.int .i64 0))]) (by kernel_rfl) ?_
 refine WS.mv rfl rfl ?_
 refine WS.nil ?_
 refine WC.block ?_
 refine WC.loop (fun m env ds H' nx' => ∃ (i u : Nat), m = l.length - i ∧ SubE [(0, .int .u32 (u : Int)), (1, .slice a l.length c), (5, .int .i64 (i : Int))] env ∧ ds = [] ∧ i ≤ l.length ∧ u < 4294967296 ∧ u = onR (l.take i) w ∧ H = H' ∧ nx = nx') (fun m env ds H' nx' hI => ?_) (m := l.length) (⟨0, w, by omega, (by repeat (first | exact SubE.nil _ | refine SubE.cons rfl ?_)), rfl, by omega, hw, rfl, rfl, rfl⟩)
 obtain ⟨i, u, rfl, hsub, rfl, hi, hu, hue, rfl, rfl⟩ := hI
 refine WC.weak (env' := [(0, .int .u32 (u : Int)), (1, .slice a l.length c), (5, .int .i64 (i : Int))]) ?_ hsub (fun _ _ h => h)
 refine WC.seq ?_
 refine WC.seqR (xs := [om 6 (.t 5),
   om 7 (.t 1),
   oq 8 (.p (.len (.t 7))),
   oq 9 (.p (.bin .lss .other false (.t 6) (.t 8)))]) (by kernel_rfl) ?_
 refine WS.mv rfl rfl ?_
 refine WS.mv rfl rfl ?_
 refine WS.c (One.len rfl rfl ?_)
 refine WS.c (One.bin rfl rfl bin_lss rfl ?_)
 refine WS.nil ?_
 refine WC.cond rfl (fun hc1 => ?_) (fun hc1 => ?_)
 ·obtain ⟨b1, o1, rfl, hr1⟩ := ha.el (i := i) (by omega)
  have hb8 := u8_lt32 l[i]
  refine WC.skip ?_
  refine WC.seq ?_
  refine WC.block ?_
  refine WC.region (xs := [om 12 (.t 0),
    om 13 (.t 1),
    om 14 (.t 5),
    oq 15 (.p (.iaS 1 (.t 13) (.t 14))),
    oq 16 (.l (.ld none (.t 15))),
    oq 17 (.p (.cvI .u32 (.t 16))),
    oq 18 (.p (.bin .xor .other false (.t 12) (.t 17))),
    oq 19 (.call (.v (.func (.func 170) #[] #[])) [(.t 18)]),
    om 0 (.t 19)]) (by kernel_rfl) ?_
  refine WS.mv rfl rfl ?_
  refine WS.mv rfl rfl ?_
  refine WS.mv rfl rfl ?_
  refine WS.c (One.iaS rfl rfl rfl (by omega) rfl ?_)
  refine WS.c (One.ld rfl hr1 rfl ?_)
  refine WS.c (One.cvI rfl (wrap_u rfl hb8) rfl ?_)
  refine WS.c (One.bin rfl rfl (bin_xor rfl hu hb8) rfl ?_)
  refine WS.c (One.call rfl rfl (spec170 hsm170 hsm241 _ _ _ (xor_lt32 hu hb8)) rfl ?_ (fun _ _ _ h => h.elim))
  rintro _ _ _ ⟨rfl, rfl, rfl⟩
  refine WS.mv rfl rfl ?_
  refine WS.nil ?_
  refine WC.region (xs := [om 10 (.t 5),
    oq 11 (.p (.bin .add .other true (.t 10) (.v (.int .i64 1)))),
    om 5 (.t 11)]) (by kernel_rfl) ?_
  refine WS.mv rfl rfl ?_
  refine WS.c (One.bin rfl rfl (bin_add64 (by omega) (by omega)) rfl ?_)
  refine WS.mv rfl rfl ?_
  refine WS.nil ?_
  refine ⟨_, ?_, i + 1, eightN 8 (u ^^^ (l[i]).toNat), rfl, (by repeat (first | exact SubE.nil _ | refine SubE.cons rfl ?_)), rfl, by omega, eightN_lt 8 (xor_lt32 hu (u8_lt32 _)), ?_, rfl, rfl⟩
  ·omega
  ·rw [take_snoc (by omega), onR_snoc, ← hue]
 ·refine WC.exit ?_
  refine WC.seqR (xs := [om 20 (.t 0),
    om 4 (.t 20)]) (by kernel_rfl) ?_
  refine WS.mv rfl rfl ?_
  refine WS.mv rfl rfl ?_
  refine WS.nil ?_
  refine WC.ret ?_
  have hk : i = l.length := by omega
  subst hk
  exact EndOk.now rfl rfl ⟨by simp only [oneV, hue, List.take_length], rfl, rfl⟩
theorem spec49 (hsm : sm 49 = none) (hsm103 : sm 103 = none) (hsm170 : sm 170 = none) (hsm241 : sm 241 = none) (H : Hp) (nx : Nat) (a : Option Addr) (l : List UInt8) (c : Nat) (ha : BS H a l) (hl : l.length < 4611686018427387904) : FnOk (envS sm) 49 [.slice a l.length c] H nx (fun v H' nx' => v = .int .u32 (crcN l : Nat) ∧ H = H' ∧ nx = nx') (fun _ _ _ => False) := by
 refine FnOk.of (fn := Tryz.f49) hsm rfl rfl rfl ?_
 refine WC.seqR (xs := [om 2 (.v (.int .u32 0))]) (by kernel_rfl) ?_
 refine WS.mv rfl rfl ?_
 refine WS.nil ?_
 refine WC.seqR (xs := [om 3 (.t 0),
   oq 4 (.call (.v (.func (.func 103) #[] #[])) [(.v (.int .u32 4294967295)), (.t 3)]),
   oq 5 (.p (.com (.t 4))),
   om 2 (.t 5)]) (by kernel_rfl) ?_
 refine WS.mv rfl rfl ?_
 refine WS.c (One.call rfl rfl (spec103 hsm103 hsm170 hsm241 _ _ 4294967295 (by decide) a l c ha hl) rfl ?_ (fun _ _ _ h => h.elim))
 rintro _ _ _ ⟨rfl, rfl, rfl⟩
 refine WS.c (One.com rfl (com32 (onR_lt l (by decide))) rfl ?_)
 refine WS.mv rfl rfl ?_
 refine WS.nil ?_
 refine WC.ret ?_
 exact EndOk.now rfl rfl ⟨rfl, rfl, rfl⟩
end Go.Proofs
end
section
namespace Go.Proofs
open Go.Eng
variable {sm : Nat → Option (List Value → St → Option (Value × St))}
theorem xor_div2 (a b : Nat) : (a ^^^ b) / 2 = (a / 2) ^^^ (b / 2) := by
 have := Nat.shiftRight_xor_distrib (a := a) (b := b) (i := 1)
 simp only [Nat.shiftRight_eq_div_pow, Nat.pow_one] at this
 exact this
theorem xor_mod2 (a b : Nat) : (a ^^^ b) % 2 = (a % 2 + b % 2) % 2 := by
 have h : ((a ^^^ b) % 2 ^ 1) = ((a % 2 ^ 1) ^^^ (b % 2 ^ 1)) := Nat.xor_mod_two_pow
 simp only [Nat.pow_one] at h
 rw [h]
 rcases Nat.mod_two_eq_zero_or_one a with ha | ha <;> rcases Nat.mod_two_eq_zero_or_one b with hb | hb <;> rw [ha, hb] <;> rfl
theorem stepN_xor (a b : Nat) : stepN (a ^^^ b) = stepN a ^^^ stepN b := by
 unfold stepN
 rw [xor_mod2, xor_div2]
 rcases Nat.mod_two_eq_zero_or_one a with ha | ha <;> rcases Nat.mod_two_eq_zero_or_one b with hb | hb <;> rw [ha, hb]
 ·simp
 ·simp [Nat.xor_assoc]
 ·simp only [Nat.add_zero, Nat.zero_ne_one, if_false, if_true]
  rw [Nat.xor_assoc, Nat.xor_comm (b / 2), ← Nat.xor_assoc]
 ·have e1 : ((1 + 1) % 2 = 1) = False := by simp
  simp only [e1, if_false, if_true]
  rw [Nat.xor_assoc, Nat.xor_comm 2197175160 (b / 2 ^^^ 2197175160), Nat.xor_assoc, Nat.xor_self, Nat.xor_zero]
theorem eightN_xor : ∀ (k a b : Nat), eightN k (a ^^^ b) = eightN k a ^^^ eightN k b
 | 0, _, _ => rfl
 | k + 1, a, b => by simp only [eightN, stepN_xor, eightN_xor k]
theorem eightN_even (q : Nat) : eightN 4 (16 * q) = q := by
 have h : ∀ m, stepN (2 * m) = m := fun m => by unfold stepN; rw [if_neg (by omega)]; omega
 simp only [eightN]
 rw [show 16 * q = 2 * (8 * q) by omega, h, show 8 * q = 2 * (4 * q) by omega, h, show 4 * q = 2 * (2 * q) by omega, h, h]
def tabN : List Nat := [0x00000000, 0x105EC76F, 0x20BD8EDE, 0x30E349B1, 0x417B1DBC, 0x5125DAD3, 0x61C69362, 0x7198540D, 0x82F63B78, 0x92A8FC17, 0xA24BB5A6, 0xB21572C9, 0xC38D26C4, 0xD3D3E1AB, 0xE330A81A, 0xF36E6F75]
theorem tab_ok : ∀ r, r < 16 → tabN[r]? = some (eightN 4 r) := by decide
theorem tab_lt : ∀ r, r < 16 → eightN 4 r < 4294967296 := fun r h => eightN_lt 4 (by omega)
theorem split16 (n : Nat) : (16 * (n / 16)) ^^^ (n % 16) = n := by
 apply Nat.eq_of_testBit_eq
 intro i
 rw [Nat.testBit_xor]
 have h1 : (16 * (n / 16)).testBit i = (decide (i ≥ 4) && (n / 16).testBit (i - 4)) := Nat.testBit_two_pow_mul (i := 4) (a := n / 16) (j := i)
 have h2 : (n % 16).testBit i = (decide (i < 4) && n.testBit i) := Nat.testBit_mod_two_pow n 4 i
 rw [h1, h2]
 by_cases hi : i < 4
 ·have : ¬ i ≥ 4 := by omega
  simp [hi, this]
 ·have h3 : i ≥ 4 := by omega
  have h4 : (n / 16).testBit (i - 4) = n.testBit i := by
   have := Nat.testBit_div_two_pow (x := n) (n := 4) (i - 4)
   rw [show i - 4 + 4 = i by omega] at this
   exact this
  simp [hi, h3, h4]
theorem nib_ok (n : Nat) : (n / 16) ^^^ eightN 4 (n % 16) = eightN 4 n := by
 conv => rhs; rw [← split16 n]
 rw [eightN_xor, eightN_even]
theorem eight_two (n : Nat) : eightN 4 (eightN 4 n) = eightN 8 n := rfl
def tabV : List Value := tabN.map fun (n : Nat) => Value.int .u32 (n : Int)
theorem tabV_get {r : Nat} (h : r < 16) : tabV[r]? = some (.int .u32 (eightN 4 r : Nat)) := by
 unfold tabV
 rw [List.getElem?_map, tab_ok r h]; rfl
theorem and15 (n : Nat) : n &&& 15 = n % 16 := Nat.and_two_pow_sub_one_eq_mod n 4
theorem lt16 {n : Nat} (h : n < 4294967296) : n / 2 ^ 4 < 4294967296 := by omega
theorem nib_lt {n : Nat} (h : n < 4294967296) : n / 2 ^ 4 ^^^ eightN 4 (n &&& 15) < 4294967296 := xor_lt32 (lt16 h) (tab_lt _ (by rw [and15]; omega))
theorem nib2 {n : Nat} (h : n < 4294967296) : (n / 2 ^ 4 ^^^ eightN 4 (n &&& 15)) / 2 ^ 4 ^^^ eightN 4 ((n / 2 ^ 4 ^^^ eightN 4 (n &&& 15)) &&& 15) = eightN 8 n := by
 simp only [and15, show (2 : Nat) ^ 4 = 16 from rfl]
 rw [nib_ok, nib_ok, eight_two]
theorem spec162 (hsm : sm 162 = none) (H : Hp) (nx : Nat) (hH : HB H nx) : FnOk (envS sm) 162 [] H nx (fun v H' nx' => v = .agg ⟨tabV⟩ ∧ H = H' ∧ nx' = nx + 1) (fun _ _ _ => False) := by
 refine FnOk.of (fn := Tryz.f162) hsm rfl rfl rfl ?_
 refine WC.seqR (xs := [oq 0 (.m (.alc [(.int .u32 0), (.int .u32 0), (.int .u32 0), (.int .u32 0), (.int .u32 0), (.int .u32 0), (.int .u32 0), (.int .u32 0), (.int .u32 0), (.int .u32 0), (.int .u32 0), (.int .u32 0), (.int .u32 0), (.int .u32 0), (.int .u32 0), (.int .u32 0)] 244))]) (by kernel_rfl) ?_
 refine WS.c (One.alc rfl ?_)
 refine WS.nil ?_
 refine WC.seqR (xs := [oq 1 (.p (.bld [(0, 1, (.v (.int .u32 0))), (1, 1, (.v (.int .u32 274646895))), (2, 1, (.v (.int .u32 549293790))), (3, 1, (.v (.int .u32 820201905))), (4, 1, (.v (.int .u32 1098587580))), (5, 1, (.v (.int .u32 1361435347))), (6, 1, (.v (.int .u32 1640403810))), (7, 1, (.v (.int .u32 1905808397))), (8, 1, (.v (.int .u32 2197175160))), (9, 1, (.v (.int .u32 2460548119))), (10, 1, (.v (.int .u32 2722870694))), (11, 1, (.v (.int .u32 2987750089))), (12, 1, (.v (.int .u32 3280807620))), (13, 1, (.v (.int .u32 3553878443))), (14, 1, (.v (.int .u32 3811616794))), (15, 1, (.v (.int .u32 4084100981)))] [(.int .u32 0), (.int .u32 0), (.int .u32 0), (.int .u32 0), (.int .u32 0), (.int .u32 0), (.int .u32 0), (.int .u32 0), (.int .u32 0), (.int .u32 0), (.int .u32 0), (.int .u32 0), (.int .u32 0), (.int .u32 0), (.int .u32 0), (.int .u32 0)])),
   ⟨none, none, .w (.sto 16 (.t 0) (.t 1))⟩]) (by kernel_rfl) ?_
 refine WS.c (One.bld rfl rfl ?_)
 refine WS.z (One.sto (cs' := tabV) rfl rfl upd_eq rfl rfl (by kernel_rfl) rfl ?_)
 refine WS.nil ?_
 refine WC.ret ?_
 exact EndOk.less rfl (resE_cell rfl (by kernel_rfl) (ld_sameA (m := 16) (l := tabV) (by decide) rfl) rfl) (HSub.new hH (Nat.le_refl _) (HSub.new hH (Nat.le_refl _) (HSub.refl H))) ⟨rfl, rfl, rfl⟩
theorem spec95 (hsm : sm 95 = none) (hsm162 : sm 162 = none) (H : Hp) (nx w : Nat) (hH : HB H nx) (hw : w < 4294967296) (a : Option Addr) (l : List UInt8) (c : Nat) (ha : BS H a l) (hl : l.length < 4611686018427387904) (hab : AB a nx) : FnOk (envS sm) 95 [.int .u32 (w : Int), .slice a l.length c] H nx (fun v H' nx' => v = .int .u32 (onR l w : Nat) ∧ H = H' ∧ nx' = nx + 2) (fun _ _ _ => False) := by
 refine FnOk.of (fn := Tryz.f95) hsm rfl rfl rfl ?_
 refine WC.seqR (xs := [om 4 (.v (.int .u32 0))]) (by kernel_rfl) ?_
 refine WS.mv rfl rfl ?_
 refine WS.nil ?_
 refine WC.seqR (xs := [oq 8 (.call (.v (.func (.func 162) #[] #[])) []),
   oq 5 (.m (.alc [(.int .u32 0), (.int .u32 0), (.int .u32 0), (.int .u32 0), (.int .u32 0), (.int .u32 0), (.int .u32 0), (.int .u32 0), (.int .u32 0), (.int .u32 0), (.int .u32 0), (.int .u32 0), (.int .u32 0), (.int .u32 0), (.int .u32 0), (.int .u32 0)] 244)),
   ⟨none, none, .w (.sto 16 (.t 5) (.t 8))⟩]) (by kernel_rfl) ?_
 refine WS.c (One.call rfl rfl (spec162 hsm162 _ _ hH) rfl ?_ (fun _ _ _ h => h.elim))
 rintro _ _ _ ⟨rfl, rfl, rfl⟩
 refine WS.c (One.alc rfl ?_)
 refine WS.z (One.sto (cs' := tabV) rfl rfl upd_eq rfl rfl (by kernel_rfl) rfl ?_)
 refine WS.nil ?_
 refine WC.seq ?_
 refine WC.seqR (xs := [om 9 (.t 1),
   oq 10 (.p (.len (.t 9))),
   om 11 (.v (.int .i64 0))]) (by kernel_rfl) ?_
 refine WS.mv rfl rfl ?_
 refine WS.c (One.len rfl rfl ?_)
 refine WS.mv rfl rfl ?_
 refine WS.nil ?_
 refine WC.block ?_
 refine WC.loop (fun m env ds H' nx' => ∃ (i u : Nat), m = l.length - i ∧ SubE [(0, .int .u32 (u : Int)), (1, .slice a l.length c), (5, .pointer (some ⟨nx + 1, 0, none⟩)), (9, .slice a l.length c), (10, .int .i64 (l.length : Int)), (11, .int .i64 (i : Int))] env ∧ ds = [] ∧ i ≤ l.length ∧ u < 4294967296 ∧ u = onR (l.take i) w ∧ H' (nx + 1) = some (.cells tabV 244 0) ∧ BS H' a l ∧ HSub H H' ∧ nx' = nx + 2) (fun m env ds H' nx' hI => ?_) (m := l.length) (⟨0, w, by omega, (by repeat (first | exact SubE.nil _ | refine SubE.cons rfl ?_)), rfl, by omega, hw, rfl, upd_eq, (ha.up hab (by omega)).up hab (by omega), HSub.new hH (by omega) (HSub.new hH (by omega) (HSub.refl H)), rfl⟩)
 obtain ⟨i, u, rfl, hsub, rfl, hi, hu, hue, hT, hB, hS, rfl⟩ := hI
 refine WC.weak (env' := [(0, .int .u32 (u : Int)), (1, .slice a l.length c), (5, .pointer (some ⟨nx + 1, 0, none⟩)), (9, .slice a l.length c), (10, .int .i64 (l.length : Int)), (11, .int .i64 (i : Int))]) ?_ hsub (fun _ _ h => h)
 refine WC.seqR (xs := [oq 12 (.p (.bin .lss .other false (.t 11) (.t 10)))]) (by kernel_rfl) ?_
 refine WS.c (One.bin rfl rfl bin_lss rfl ?_)
 refine WS.nil ?_
 refine WC.seq ?_
 refine WC.cond rfl (fun hc1 => ?_) (fun hc1 => ?_)
 ·obtain ⟨b1, o1, rfl, hr1⟩ := hB.el (i := i) (by omega)
  have hb8 := u8_lt32 l[i]
  have hx := xor_lt32 hu hb8
  refine WC.skip ?_
  refine WC.seq ?_
  refine WC.block ?_
  refine WC.seqR (xs := [oq 13 (.p (.iaS 1 (.t 9) (.t 11))),
    oq 14 (.l (.ld none (.t 13))),
    om 7 (.t 14)]) (by kernel_rfl) ?_
  refine WS.c (One.iaS rfl rfl rfl (by omega) rfl ?_)
  refine WS.c (One.ld rfl hr1 rfl ?_)
  refine WS.mv rfl rfl ?_
  refine WS.nil ?_
  refine WC.seqR (xs := [om 15 (.t 0),
    om 16 (.t 7),
    oq 17 (.p (.cvI .u32 (.t 16))),
    oq 18 (.p (.bin .xor .other false (.t 15) (.t 17))),
    om 0 (.t 18)]) (by kernel_rfl) ?_
  refine WS.mv rfl rfl ?_
  refine WS.mv rfl rfl ?_
  refine WS.c (One.cvI rfl (wrap_u rfl hb8) rfl ?_)
  refine WS.c (One.bin rfl rfl (bin_xor rfl hu hb8) rfl ?_)
  refine WS.mv rfl rfl ?_
  refine WS.nil ?_
  refine WC.seqR (xs := [om 19 (.t 0),
    oq 20 (.p (.sh false (.t 19) (.v (.int .u64 4)))),
    om 21 (.t 0),
    oq 22 (.p (.bin .and .other true (.t 21) (.v (.int .u32 15)))),
    oq 23 (.p (.iaA 16 1 (.t 5) (.t 22))),
    oq 24 (.l (.ld none (.t 23))),
    oq 25 (.p (.bin .xor .other false (.t 20) (.t 24))),
    om 0 (.t 25)]) (by kernel_rfl) ?_
  refine WS.mv rfl rfl ?_
  refine WS.c (One.sh rfl rfl (sh_r (m := 4) rfl (by decide)) rfl ?_)
  refine WS.mv rfl rfl ?_
  refine WS.c (One.bin rfl rfl (bin_and (b := 15) rfl hx) rfl ?_)
  refine WS.c (One.iaA rfl rfl rfl (by rw [and15]; omega) rfl ?_)
  refine WS.c (One.ld rfl (ld_of hT (by rw [Nat.zero_add, Nat.mul_one]; exact tabV_get (by rw [and15]; omega))) rfl ?_)
  refine WS.c (One.bin rfl rfl (bin_xor rfl (lt16 hx) (tab_lt _ (by rw [and15]; omega))) rfl ?_)
  refine WS.mv rfl rfl ?_
  refine WS.nil ?_
  refine WC.region (xs := [om 26 (.t 0),
    oq 27 (.p (.sh false (.t 26) (.v (.int .u64 4)))),
    om 28 (.t 0),
    oq 29 (.p (.bin .and .other true (.t 28) (.v (.int .u32 15)))),
    oq 30 (.p (.iaA 16 1 (.t 5) (.t 29))),
    oq 31 (.l (.ld none (.t 30))),
    oq 32 (.p (.bin .xor .other false (.t 27) (.t 31))),
    om 0 (.t 32)]) (by kernel_rfl) ?_
  have hy := nib_lt hx
  refine WS.mv rfl rfl ?_
  refine WS.c (One.sh rfl rfl (sh_r (m := 4) rfl (by decide)) rfl ?_)
  refine WS.mv rfl rfl ?_
  refine WS.c (One.bin rfl rfl (bin_and (b := 15) rfl hy) rfl ?_)
  refine WS.c (One.iaA rfl rfl rfl (by rw [and15]; omega) rfl ?_)
  refine WS.c (One.ld rfl (ld_of hT (by rw [Nat.zero_add, Nat.mul_one]; exact tabV_get (by rw [and15]; omega))) rfl ?_)
  refine WS.c (One.bin rfl rfl (bin_xor rfl (lt16 hy) (tab_lt _ (by rw [and15]; omega))) rfl ?_)
  refine WS.mv rfl rfl ?_
  refine WS.nil ?_
  refine WC.region (xs := [oq 33 (.p (.bin .add .other true (.t 11) (.v (.int .i64 1)))),
    om 11 (.t 33)]) (by kernel_rfl) ?_
  refine WS.c (One.bin rfl rfl (bin_add64 (by omega) (by omega)) rfl ?_)
  refine WS.mv rfl rfl ?_
  refine WS.nil ?_
  refine ⟨_, ?_, i + 1, _, rfl, (by repeat (first | exact SubE.nil _ | refine SubE.cons rfl ?_)), rfl, by omega, nib_lt hy, ?_, hT, hB, hS, rfl⟩
  ·omega
  ·rw [take_snoc (by omega), onR_snoc, ← hue, nib2 hx]
 ·refine WC.exit ?_
  refine WC.seqR (xs := [om 34 (.t 0),
    om 4 (.t 34)]) (by kernel_rfl) ?_
  refine WS.mv rfl rfl ?_
  refine WS.mv rfl rfl ?_
  refine WS.nil ?_
  refine WC.ret ?_
  have hk : i = l.length := by omega
  subst hk
  exact EndOk.less rfl rfl hS ⟨by simp only [oneV, hue, List.take_length], rfl, rfl⟩
theorem spec43 (hsm : sm 43 = none) (hsm95 : sm 95 = none) (hsm162 : sm 162 = none) (H : Hp) (nx : Nat) (hH : HB H nx) (a : Option Addr) (l : List UInt8) (c : Nat) (ha : BS H a l) (hl : l.length < 4611686018427387904) (hab : AB a nx) : FnOk (envS sm) 43 [.slice a l.length c] H nx (fun v H' nx' => v = .int .u32 (crcN l : Nat) ∧ H = H' ∧ nx' = nx + 2) (fun _ _ _ => False) := by
 refine FnOk.of (fn := Tryz.f43) hsm rfl rfl rfl ?_
 refine WC.seqR (xs := [om 2 (.v (.int .u32 0))]) (by kernel_rfl) ?_
 refine WS.mv rfl rfl ?_
 refine WS.nil ?_
 refine WC.seqR (xs := [om 3 (.t 0),
   oq 4 (.call (.v (.func (.func 95) #[] #[])) [(.v (.int .u32 4294967295)), (.t 3)]),
   oq 5 (.p (.com (.t 4))),
   om 2 (.t 5)]) (by kernel_rfl) ?_
 refine WS.mv rfl rfl ?_
 refine WS.c (One.call rfl rfl (spec95 hsm95 hsm162 _ _ 4294967295 hH (by decide) a l c ha hl hab) rfl ?_ (fun _ _ _ h => h.elim))
 rintro _ _ _ ⟨rfl, rfl, rfl⟩
 refine WS.c (One.com rfl (com32 (onR_lt l (by decide))) rfl ?_)
 refine WS.mv rfl rfl ?_
 refine WS.nil ?_
 refine WC.ret ?_
 exact EndOk.now rfl rfl ⟨rfl, rfl, rfl⟩
end Go.Proofs
end
