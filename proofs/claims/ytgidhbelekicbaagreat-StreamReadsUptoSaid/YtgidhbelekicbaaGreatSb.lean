/-
  Part of the proof of StreamReadsUptoSaid: Bytes; the reference reads.
-/
import Derived.Test.YtgidhbelekicbaaGreatEj
import Derived.Test.YtgidhbelekicbaaGreatSa
set_option linter.unusedVariables false
section
namespace Go.Proofs
open Go.Eng
variable {sm : Nat → Option (List Value → St → Option (Value × St))}
theorem list_cons {l : List Value} {n : Nat} (h : l.length = n + 1) : ∃ t r, l = t :: r ∧ r.length = n := by
 cases l with
 | nil => cases h
 | cons t r => exact ⟨t, r, rfl, by simpa using h⟩
theorem str_take (l : List UInt8) {i : Nat} (h : i ≤ l.length) : (strCells (l.take i)).length = i := by rw [strCells_len, List.length_take]; omega
theorem str_snoc {l : List UInt8} {i : Nat} (h : i < l.length) (r : List Value) : strCells (l.take (i + 1)) ++ r = strCells (l.take i) ++ (bv l[i] :: r) := by
 rw [take_snoc h, strCells_append, List.append_assoc]; rfl
def mark (i : Nat) : UInt8 := UInt8.ofNat (165 ^^^ i)
def spareL (l : List UInt8) : List UInt8 := l ++ (List.range 64).map fun j => mark (l.length + j)
theorem spareL_len (l : List UInt8) : (spareL l).length = l.length + 64 := by simp [spareL]
theorem spareL_lo {l : List UInt8} {i : Nat} (h : i < l.length) : (spareL l)[i]'(by rw [spareL_len]; omega) = l[i] := by simp [spareL, List.getElem_append_left h]
theorem spareL_hi {l : List UInt8} {i : Nat} (h : l.length ≤ i) (h2 : i < l.length + 64) : (spareL l)[i]'(by rw [spareL_len]; omega) = mark i := by
 unfold spareL
 rw [List.getElem_append_right h, List.getElem_map, List.getElem_range]
 congr 1; omega
theorem spareL_take (l : List UInt8) : (spareL l).take l.length = l := by simp [spareL]
def leN : Nat → Nat → List UInt8
 | _, 0 => []
 | x, w + 1 => UInt8.ofNat x :: leN (x / 256) w
theorem leN_len : ∀ (w x : Nat), (leN x w).length = w
 | 0, _ => rfl
 | w + 1, x => by simp [leN, leN_len w]
theorem leN_snoc : ∀ (i x : Nat), leN x (i + 1) = leN x i ++ [UInt8.ofNat (x / 256 ^ i)]
 | 0, x => by simp [leN]
 | i + 1, x => by
  have h := leN_snoc i (x / 256)
  show UInt8.ofNat x :: leN (x / 256) (i + 1) = _
  rw [h, Nat.div_div_eq_div_mul, show 256 * 256 ^ i = 256 ^ (i + 1) by rw [Nat.pow_succ]; omega]; rfl
theorem spec104 (hsm : sm 104 = none) (H : Hp) (nx : Nat) (hH : HB H nx) (a : Option Addr) (l : List UInt8) (c : Nat) (ha : BS H a l) (hl : l.length ≤ 536870912) : FnOk (envS sm) 104 [.slice a l.length c] H nx (fun v H' nx' => v = .slice (some ⟨nx, 0, none⟩) l.length l.length ∧ H' nx = some (.cells (strCells l) 5 0) ∧ HSub H H' ∧ HB H' nx' ∧ nx < nx') (fun _ _ _ => False) := by
 refine FnOk.of (fn := Tryz.f104) hsm rfl rfl rfl ?_
 refine WC.seqR (xs := [om 2 (.v (.slice none 0 0))]) (by kernel_rfl) ?_
 refine WS.mv rfl rfl ?_
 refine WS.nil ?_
 refine WC.seqR (xs := [om 5 (.t 0),
   oq 6 (.p (.len (.t 5))),
   oq 7 (.m (.mk [(.int .u8 0)] 5 (.v (.int .i64 0)) (.t 6))),
   om 3 (.t 7)]) (by kernel_rfl) ?_
 refine WS.mv rfl rfl ?_
 refine WS.c (One.len rfl rfl ?_)
 refine WS.c (One.mkS (la := 0) (lb := l.length) rfl rfl rfl rfl (by omega) (by omega) rfl ?_)
 refine WS.mv rfl rfl ?_
 refine WS.nil ?_
 refine WC.seq ?_
 refine WC.seqR (xs := [om 4 (.v (.int .i64 0))]) (by kernel_rfl) ?_
 refine WS.mv rfl rfl ?_
 refine WS.nil ?_
 refine WC.block ?_
 refine WC.loop (fun m env ds H' nx' => ∃ (i : Nat) (tl : List Value), m = l.length - i ∧ SubE [(0, .slice a l.length c), (3, .slice (some ⟨nx, 0, none⟩) i l.length), (4, .int .i64 (i : Int))] env ∧ ds = [] ∧ i ≤ l.length ∧ tl.length = l.length - i ∧ H' nx = some (.cells (strCells (l.take i) ++ tl) 5 0) ∧ BS H' a l ∧ HSub H H' ∧ HB H' nx' ∧ nx < nx') (fun m env ds H' nx' hI => ?_) (m := l.length) (⟨0, repL [.int .u8 0] l.length, by omega, (by repeat (first | exact SubE.nil _ | refine SubE.cons rfl ?_)), rfl, by omega, by rw [repL_length]; simp, by rw [upd_eq]; rfl, ha.mono (HSub.new hH (Nat.le_refl _) (HSub.refl H)), HSub.new hH (Nat.le_refl _) (HSub.refl H), hH.new, Nat.lt_succ_self _⟩)
 obtain ⟨i, tl, rfl, hsub, rfl, hi, htl, hc, hB, hS, hb, hn⟩ := hI
 refine WC.weak (env' := [(0, .slice a l.length c), (3, .slice (some ⟨nx, 0, none⟩) i l.length), (4, .int .i64 (i : Int))]) ?_ hsub (fun _ _ h => h)
 refine WC.seq ?_
 refine WC.seqR (xs := [om 8 (.t 4),
   om 9 (.t 0),
   oq 10 (.p (.len (.t 9))),
   oq 11 (.p (.bin .lss .other false (.t 8) (.t 10)))]) (by kernel_rfl) ?_
 refine WS.mv rfl rfl ?_
 refine WS.mv rfl rfl ?_
 refine WS.c (One.len rfl rfl ?_)
 refine WS.c (One.bin rfl rfl bin_lss rfl ?_)
 refine WS.nil ?_
 refine WC.cond rfl (fun hc1 => ?_) (fun hc1 => ?_)
 ·obtain ⟨b1, o1, rfl, hr1⟩ := hB.el (i := i) (by omega)
  obtain ⟨t, tl', rfl, htl'⟩ := list_cons (n := l.length - (i + 1)) (l := tl) (by omega)
  refine WC.skip ?_
  refine WC.seq ?_
  refine WC.block ?_
  refine WC.region (xs := [om 14 (.t 3),
    om 15 (.t 0),
    om 16 (.t 4),
    oq 17 (.p (.iaS 1 (.t 15) (.t 16))),
    oq 18 (.l (.ld none (.t 17))),
    oq 19 (.m (.sl [(.int .u8 0)] 5 1 [(0, 1, (.t 18))])),
    oq 20 (.w (.app 5 [(.int .u8 0)] false (.t 14) (.t 19))),
    om 3 (.t 20)]) (by kernel_rfl) ?_
  refine WS.mv rfl rfl ?_
  refine WS.mv rfl rfl ?_
  refine WS.mv rfl rfl ?_
  refine WS.c (One.iaS rfl rfl rfl (by omega) rfl ?_)
  refine WS.c (One.ld rfl hr1 rfl ?_)
  refine WS.c (One.sl (cs := [bv l[i]]) rfl rfl ?_)
  refine WS.c (One.appI (k := 1) (new := [bv l[i]]) rfl rfl (newE_bytes (l := [l[i]]) (BS.whole upd_eq)) (by simp) (low_le (by omega) (by omega)) (by rw [upd_ne (by omega)]; exact hc) rfl (lay1 (str_take l (by omega)) (by simp)) rfl ?_)
  refine WS.mv rfl rfl ?_
  refine WS.nil ?_
  refine WC.region (xs := [om 12 (.t 4),
    oq 13 (.p (.bin .add .other true (.t 12) (.v (.int .i64 1)))),
    om 4 (.t 13)]) (by kernel_rfl) ?_
  refine WS.mv rfl rfl ?_
  refine WS.c (One.bin rfl rfl (bin_add64 (by omega) (by omega)) rfl ?_)
  refine WS.mv rfl rfl ?_
  refine WS.nil ?_
  have hS2 : HSub H (upd (upd H' nx' (.cells [bv l[i]] 5 0)) nx (.cells (strCells (l.take i) ++ (bv l[i] :: tl')) 5 0)) := HSub.new hH (Nat.le_refl _) (HSub.new hH (Nat.le_of_lt hn) hS)
  refine ⟨_, ?_, i + 1, tl', rfl, (by repeat (first | exact SubE.nil _ | refine SubE.cons rfl ?_)), rfl, by omega, by omega, ?_, ha.mono hS2, hS2, hb.new.upd (by omega), by omega⟩
  ·omega
  ·rw [upd_eq, str_snoc (by omega)]
 ·refine WC.exit ?_
  refine WC.seqR (xs := [om 21 (.t 3),
    om 2 (.t 21)]) (by kernel_rfl) ?_
  refine WS.mv rfl rfl ?_
  refine WS.mv rfl rfl ?_
  refine WS.nil ?_
  refine WC.ret ?_
  have hk : i = l.length := by omega
  subst hk
  have : tl = [] := List.eq_nil_of_length_eq_zero (by omega)
  subst this
  rw [List.take_length, List.append_nil] at hc
  exact EndOk.now rfl rfl ⟨rfl, hc, hS, hb, hn⟩
theorem spec6 (hsm : sm 6 = none) (H : Hp) (nx : Nat) (hH : HB H nx) (a : Option Addr) (l : List UInt8) (c : Nat) (ha : BS H a l) (hl : l.length ≤ 536870912) : FnOk (envS sm) 6 [.slice a l.length c] H nx (fun v H' nx' => v = .slice (some ⟨nx, 0, none⟩) l.length (l.length + 64) ∧ H' nx = some (.cells (strCells (spareL l)) 5 0) ∧ HSub H H' ∧ HB H' nx' ∧ nx < nx') (fun _ _ _ => False) := by
 refine FnOk.of (fn := Tryz.f6) hsm rfl rfl rfl ?_
 refine WC.seqR (xs := [om 2 (.v (.slice none 0 0))]) (by kernel_rfl) ?_
 refine WS.mv rfl rfl ?_
 refine WS.nil ?_
 refine WC.seqR (xs := [om 5 (.t 0),
   oq 6 (.p (.len (.t 5))),
   oq 7 (.p (.bin .add .other true (.t 6) (.v (.int .i64 64)))),
   oq 8 (.m (.mk [(.int .u8 0)] 5 (.t 7) (.t 7))),
   om 3 (.t 8)]) (by kernel_rfl) ?_
 refine WS.mv rfl rfl ?_
 refine WS.c (One.len rfl rfl ?_)
 refine WS.c (One.bin rfl rfl (bin_add64 (by omega) (by omega)) rfl ?_)
 refine WS.c (One.mkS (la := l.length + 64) (lb := l.length + 64) rfl rfl rfl rfl (by omega) (by omega) rfl ?_)
 refine WS.mv rfl rfl ?_
 refine WS.nil ?_
 refine WC.seq ?_
 refine WC.seqR (xs := [om 4 (.v (.int .i64 0))]) (by kernel_rfl) ?_
 refine WS.mv rfl rfl ?_
 refine WS.nil ?_
 refine WC.block ?_
 refine WC.loop (fun m env ds H' nx' => ∃ (i : Nat) (tl : List Value), m = l.length + 64 - i ∧ SubE [(0, .slice a l.length c), (3, .slice (some ⟨nx, 0, none⟩) (l.length + 64) (l.length + 64)), (4, .int .i64 (i : Int))] env ∧ ds = [] ∧ i ≤ l.length + 64 ∧ tl.length = l.length + 64 - i ∧ H' nx = some (.cells (strCells ((spareL l).take i) ++ tl) 5 0) ∧ BS H' a l ∧ HSub H H' ∧ HB H' nx' ∧ nx < nx') (fun m env ds H' nx' hI => ?_) (m := l.length + 64) (⟨0, repL [.int .u8 0] (l.length + 64), by omega, (by repeat (first | exact SubE.nil _ | refine SubE.cons rfl ?_)), rfl, by omega, by rw [repL_length]; simp, by rw [upd_eq]; rfl, ha.mono (HSub.new hH (Nat.le_refl _) (HSub.refl H)), HSub.new hH (Nat.le_refl _) (HSub.refl H), hH.new, Nat.lt_succ_self _⟩)
 obtain ⟨i, tl, rfl, hsub, rfl, hi, htl, hc, hB, hS, hb, hn⟩ := hI
 refine WC.weak (env' := [(0, .slice a l.length c), (3, .slice (some ⟨nx, 0, none⟩) (l.length + 64) (l.length + 64)), (4, .int .i64 (i : Int))]) ?_ hsub (fun _ _ h => h)
 refine WC.seq ?_
 refine WC.seqR (xs := [om 9 (.t 4),
   om 10 (.t 3),
   oq 11 (.p (.len (.t 10))),
   oq 12 (.p (.bin .lss .other false (.t 9) (.t 11)))]) (by kernel_rfl) ?_
 refine WS.mv rfl rfl ?_
 refine WS.mv rfl rfl ?_
 refine WS.c (One.len rfl rfl ?_)
 refine WS.c (One.bin rfl rfl bin_lss rfl ?_)
 refine WS.nil ?_
 refine WC.cond rfl (fun hc1 => ?_) (fun hc1 => ?_)
 ·obtain ⟨t, tl', rfl, htl'⟩ := list_cons (n := l.length + 64 - (i + 1)) (l := tl) (by omega)
  refine WC.skip ?_
  refine WC.seq ?_
  refine WC.block ?_
  refine WC.seqR (xs := [om 15 (.t 4),
    om 16 (.t 0),
    oq 17 (.p (.len (.t 16))),
    oq 18 (.p (.bin .lss .other false (.t 15) (.t 17)))]) (by kernel_rfl) ?_
  refine WS.mv rfl rfl ?_
  refine WS.mv rfl rfl ?_
  refine WS.c (One.len rfl rfl ?_)
  refine WS.c (One.bin rfl rfl bin_lss rfl ?_)
  refine WS.nil ?_
  refine WC.cond rfl (fun hc2 => ?_) (fun hc2 => ?_)
  ·obtain ⟨b1, o1, rfl, hr1⟩ := hB.el (i := i) (by omega)
   refine WC.region (xs := [om 19 (.t 3),
     om 20 (.t 4),
     om 21 (.t 0),
     om 22 (.t 4),
     oq 23 (.p (.iaS 1 (.t 21) (.t 22))),
     oq 24 (.l (.ld none (.t 23))),
     oq 25 (.p (.iaS 1 (.t 19) (.t 20))),
     ⟨none, none, .w (.sto 1 (.t 25) (.t 24))⟩]) (by kernel_rfl) ?_
   refine WS.mv rfl rfl ?_
   refine WS.mv rfl rfl ?_
   refine WS.mv rfl rfl ?_
   refine WS.mv rfl rfl ?_
   refine WS.c (One.iaS rfl rfl rfl (by omega) rfl ?_)
   refine WS.c (One.ld rfl hr1 rfl ?_)
   refine WS.c (One.iaS rfl rfl rfl (by omega) rfl ?_)
   refine WS.z (One.sto rfl rfl hc rfl rfl (lay1 (str_take (spareL l) (by rw [spareL_len]; omega)) (by simp)) rfl ?_)
   refine WS.nil ?_
   refine WC.region (xs := [om 13 (.t 4),
     oq 14 (.p (.bin .add .other true (.t 13) (.v (.int .i64 1)))),
     om 4 (.t 14)]) (by kernel_rfl) ?_
   refine WS.mv rfl rfl ?_
   refine WS.c (One.bin rfl rfl (bin_add64 (by omega) (by omega)) rfl ?_)
   refine WS.mv rfl rfl ?_
   refine WS.nil ?_
   have hS2 : ∀ o, HSub H (upd H' nx o) := fun o => HSub.new hH (Nat.le_refl _) hS
   refine ⟨_, ?_, i + 1, tl', rfl, (by repeat (first | exact SubE.nil _ | refine SubE.cons rfl ?_)), rfl, by omega, by omega, ?_, ha.mono (hS2 _), hS2 _, hb.upd hn, hn⟩
   ·omega
   ·first
    | rw [upd_eq, str_snoc (by rw [spareL_len]; omega), spareL_lo (by omega)]
    | (rw [upd_eq, str_snoc (by rw [spareL_len]; omega), spareL_hi (by omega) (by omega)]; rfl)
  ·refine WC.region (xs := [om 26 (.t 3),
     om 27 (.t 4),
     om 28 (.t 4),
     oq 29 (.p (.bin .xor .other true (.v (.int .i64 165)) (.t 28))),
     oq 30 (.p (.cvI .u8 (.t 29))),
     oq 31 (.p (.iaS 1 (.t 26) (.t 27))),
     ⟨none, none, .w (.sto 1 (.t 31) (.t 30))⟩]) (by kernel_rfl) ?_
   refine WS.mv rfl rfl ?_
   refine WS.mv rfl rfl ?_
   refine WS.mv rfl rfl ?_
   refine WS.c (One.bin rfl rfl (bin_xor64 (a := 165) (by decide) (by omega)) rfl ?_)
   refine WS.c (One.cvI (c := ((mark i).toNat : Int)) rfl (wrap_u8 _) rfl ?_)
   refine WS.c (One.iaS rfl rfl rfl (by omega) rfl ?_)
   refine WS.z (One.sto rfl rfl hc rfl rfl (lay1 (str_take (spareL l) (by rw [spareL_len]; omega)) (by simp)) rfl ?_)
   refine WS.nil ?_
   refine WC.region (xs := [om 13 (.t 4),
     oq 14 (.p (.bin .add .other true (.t 13) (.v (.int .i64 1)))),
     om 4 (.t 14)]) (by kernel_rfl) ?_
   refine WS.mv rfl rfl ?_
   refine WS.c (One.bin rfl rfl (bin_add64 (by omega) (by omega)) rfl ?_)
   refine WS.mv rfl rfl ?_
   refine WS.nil ?_
   have hS2 : ∀ o, HSub H (upd H' nx o) := fun o => HSub.new hH (Nat.le_refl _) hS
   refine ⟨_, ?_, i + 1, tl', rfl, (by repeat (first | exact SubE.nil _ | refine SubE.cons rfl ?_)), rfl, by omega, by omega, ?_, ha.mono (hS2 _), hS2 _, hb.upd hn, hn⟩
   ·omega
   ·first
    | rw [upd_eq, str_snoc (by rw [spareL_len]; omega), spareL_lo (by omega)]
    | (rw [upd_eq, str_snoc (by rw [spareL_len]; omega), spareL_hi (by omega) (by omega)]; rfl)
 ·refine WC.exit ?_
  refine WC.seqR (xs := [om 32 (.t 3),
    om 33 (.t 0),
    oq 34 (.p (.len (.t 33))),
    oq 35 (.p (.slS 1 (.t 32) none (some (.t 34)) none)),
    om 2 (.t 35)]) (by kernel_rfl) ?_
  refine WS.mv rfl rfl ?_
  refine WS.mv rfl rfl ?_
  refine WS.c (One.len rfl rfl ?_)
  refine WS.c (One.slH (h := l.length) rfl (es_small (lt_big (by omega))) rfl rfl (low_le (by omega) (by omega)) rfl ?_)
  refine WS.mv rfl rfl ?_
  refine WS.nil ?_
  refine WC.ret ?_
  have hk : i = l.length + 64 := by omega
  subst hk
  have : tl = [] := List.eq_nil_of_length_eq_zero (by omega)
  subst this
  rw [List.append_nil, ← spareL_len, List.take_length] at hc
  exact EndOk.now rfl rfl ⟨rfl, hc, hS, hb, hn⟩
theorem spec48 (hsm : sm 48 = none) (H : Hp) (nx x w : Nat) (hH : HB H nx) (hx : x < 18446744073709551616) (hw : w ≤ 16) : FnOk (envS sm) 48 [.int .u64 (x : Int), .int .i64 (w : Int)] H nx (fun v H' nx' => GS H' v w (strCells (leN x w)) 5 1 nx nx' ∧ HSub H H' ∧ HB H' nx' ∧ nx ≤ nx') (fun _ _ _ => False) := by
 refine FnOk.of (fn := Tryz.f48) hsm rfl rfl rfl ?_
 refine WC.seqR (xs := [om 4 (.v (.slice none 0 0))]) (by kernel_rfl) ?_
 refine WS.mv rfl rfl ?_
 refine WS.nil ?_
 refine WC.seqR (xs := [om 5 (.v (.slice none 0 0))]) (by kernel_rfl) ?_
 refine WS.mv rfl rfl ?_
 refine WS.nil ?_
 refine WC.seq ?_
 refine WC.seqR (xs := [om 6 (.v (.int .i64 0))]) (by kernel_rfl) ?_
 refine WS.mv rfl rfl ?_
 refine WS.nil ?_
 refine WC.block ?_
 refine WC.loop (fun m env ds H' nx' => ∃ (i y : Nat) (sv : Value), m = w - i ∧ SubE [(0, .int .u64 (y : Int)), (1, .int .i64 (w : Int)), (5, sv), (6, .int .i64 (i : Int))] env ∧ ds = [] ∧ i ≤ w ∧ y = x / 256 ^ i ∧ y < 2 ^ IntKind.u64.bits ∧ GS H' sv i (strCells (leN x i)) 5 1 nx nx' ∧ HSub H H' ∧ HB H' nx' ∧ nx ≤ nx') (fun m env ds H' nx' hI => ?_) (m := w) (⟨0, x, _, by omega, (by repeat (first | exact SubE.nil _ | refine SubE.cons rfl ?_)), rfl, by omega, by simp, hx, GS.nil _ _ _ _ _, HSub.refl H, hH, Nat.le_refl _⟩)
 obtain ⟨i, y, sv, rfl, hsub, rfl, hi, hye, hy, hg, hS, hb, hn⟩ := hI
 refine WC.weak (env' := [(0, .int .u64 (y : Int)), (1, .int .i64 (w : Int)), (5, sv), (6, .int .i64 (i : Int))]) ?_ hsub (fun _ _ h => h)
 refine WC.seq ?_
 refine WC.seqR (xs := [om 7 (.t 6),
   om 8 (.t 1),
   oq 9 (.p (.bin .lss .other false (.t 7) (.t 8)))]) (by kernel_rfl) ?_
 refine WS.mv rfl rfl ?_
 refine WS.mv rfl rfl ?_
 refine WS.c (One.bin rfl rfl bin_lss rfl ?_)
 refine WS.nil ?_
 refine WC.cond rfl (fun hc1 => ?_) (fun hc1 => ?_)
 ·refine WC.skip ?_
  refine WC.seq ?_
  refine WC.block ?_
  refine WC.seqR (xs := [om 12 (.t 5),
    om 13 (.t 0),
    oq 14 (.p (.cvI .u8 (.t 13))),
    oq 15 (.m (.sl [(.int .u8 0)] 5 1 [(0, 1, (.t 14))])),
    oq 16 (.w (.app 5 [(.int .u8 0)] false (.t 12) (.t 15))),
    om 5 (.t 16)]) (by kernel_rfl) ?_
  refine WS.mv rfl rfl ?_
  refine WS.mv rfl rfl ?_
  refine WS.c (One.cvI (c := ((UInt8.ofNat y).toNat : Int)) rfl (wrap_u8 _) rfl ?_)
  refine WS.c (One.sl (cs := [bv (UInt8.ofNat y)]) rfl rfl ?_)
  refine WS.c (One.appGS (m := i) (k := 1) (lo := nx) (z := [.int .u8 0]) (new := [bv (UInt8.ofNat y)]) rfl rfl (hg.mono (HSub.new hb (Nat.le_refl _) (HSub.refl _)) (Nat.le_succ _)) (by omega) (newE_bytes (l := [UInt8.ofNat y]) (BS.whole upd_eq)) rfl (by omega) rfl (by omega) rfl ?_)
  intro sv' H1 hg' hlow _ hb1
  have hS1 : HSub H H1 := fun id o ho => hlow id o (by rw [upd_ne (by have := hb _ _ (hS _ _ ho); omega)]; exact hS _ _ ho) (hH _ _ ho)
  refine WS.mv rfl rfl ?_
  refine WS.nil ?_
  refine WC.region (xs := [om 17 (.t 0),
    oq 18 (.p (.bin .quo .other true (.t 17) (.v (.int .u64 256)))),
    om 0 (.t 18)]) (by kernel_rfl) ?_
  refine WS.mv rfl rfl ?_
  refine WS.c (One.bin rfl rfl (bin_quo (b := 256) (by decide) rfl hy) rfl ?_)
  refine WS.mv rfl rfl ?_
  refine WS.nil ?_
  refine WC.region (xs := [om 10 (.t 6),
    oq 11 (.p (.bin .add .other true (.t 10) (.v (.int .i64 1)))),
    om 6 (.t 11)]) (by kernel_rfl) ?_
  refine WS.mv rfl rfl ?_
  refine WS.c (One.bin rfl rfl (bin_add64 (by omega) (by omega)) rfl ?_)
  refine WS.mv rfl rfl ?_
  refine WS.nil ?_
  refine ⟨_, ?_, i + 1, y / 256, _, rfl, (by repeat (first | exact SubE.nil _ | refine SubE.cons rfl ?_)), rfl, by omega, ?_, Nat.lt_of_le_of_lt (Nat.div_le_self _ _) hy, ?_, hS1, hb1 hb.new, by omega⟩
  ·omega
  ·rw [hye, Nat.div_div_eq_div_mul, Nat.pow_succ]
  ·rw [leN_snoc, strCells_append, ← hye]; exact hg'
 ·refine WC.exit ?_
  refine WC.seqR (xs := [om 19 (.t 5),
    om 4 (.t 19)]) (by kernel_rfl) ?_
  refine WS.mv rfl rfl ?_
  refine WS.mv rfl rfl ?_
  refine WS.nil ?_
  refine WC.ret ?_
  have hk : i = w := by omega
  subst hk
  exact EndOk.now rfl rfl ⟨hg, hS, hb, hn⟩
theorem spec12 (hsm : sm 12 = none) (hsm22 : sm 22 = none) (hsm57 : sm 57 = none) (H : Hp) (nx : Nat) (a : Option Addr) (l : List UInt8) (c b : Nat) (ha : BS H a l) (hl : l.length ≤ 536870912) (hbk : H b = some (.cells (strCells (spareL l)) 5 0)) : FnOk (envS sm) 12 [.slice (some ⟨b, 0, none⟩) l.length (l.length + 64), .slice a l.length c] H nx (fun v H' nx' => v = .bool true ∧ H = H' ∧ nx = nx') (fun _ _ _ => False) := by
 refine FnOk.of (fn := Tryz.f12) hsm rfl rfl rfl ?_
 have hsp : BS H (some ⟨b, 0, none⟩) (spareL l) := BS.whole hbk
 have hin : BS H (some ⟨b, 0, none⟩) l := by have := hsp.take l.length; rw [spareL_take] at this; exact this
 refine WC.seqR (xs := [om 4 (.v (.bool false))]) (by kernel_rfl) ?_
 refine WS.mv rfl rfl ?_
 refine WS.nil ?_
 refine WC.seq ?_
 refine WC.seqR (xs := [om 7 (.t 0),
   om 8 (.t 1),
   oq 9 (.call (.v (.func (.func 22) #[] #[])) [(.t 7), (.t 8)]),
   oq 10 (.p (.not (.t 9)))]) (by kernel_rfl) ?_
 refine WS.mv rfl rfl ?_
 refine WS.mv rfl rfl ?_
 refine WS.c (One.call rfl rfl (spec22 hsm22 hsm57 _ _ _ a l l _ c hin ha (by omega)) rfl ?_ (fun _ _ _ h => h.elim))
 rintro _ _ _ ⟨rfl, rfl, rfl⟩
 refine WS.c (One.not rfl rfl ?_)
 refine WS.nil ?_
 refine WC.cond rfl (fun hc1 => ?_) (fun hc1 => ?_)
 ·exact absurd rfl hc1
 ·refine WC.skip ?_
  refine WC.seqR (xs := [om 11 (.t 0),
    om 12 (.t 1),
    oq 13 (.p (.len (.t 12))),
    oq 14 (.p (.bin .add .other true (.t 13) (.v (.int .i64 64)))),
    oq 15 (.p (.slS 1 (.t 11) none (some (.t 14)) none)),
    om 5 (.t 15)]) (by kernel_rfl) ?_
  refine WS.mv rfl rfl ?_
  refine WS.mv rfl rfl ?_
  refine WS.c (One.len rfl rfl ?_)
  refine WS.c (One.bin rfl rfl (bin_add64 (by omega) (by omega)) rfl ?_)
  refine WS.c (One.slH (h := l.length + 64) rfl (es_small (lt_big (by omega))) rfl rfl (low_le (by omega) (by omega)) rfl ?_)
  refine WS.mv rfl rfl ?_
  refine WS.nil ?_
  refine WC.seq ?_
  refine WC.seqR (xs := [om 16 (.t 1),
    oq 17 (.p (.len (.t 16))),
    om 6 (.t 17)]) (by kernel_rfl) ?_
  refine WS.mv rfl rfl ?_
  refine WS.c (One.len rfl rfl ?_)
  refine WS.mv rfl rfl ?_
  refine WS.nil ?_
  refine WC.block ?_
  refine WC.loop (fun m env ds H' nx' => ∃ (i : Nat), m = l.length + 64 - i ∧ SubE [(1, .slice a l.length c), (5, .slice (some ⟨b, 0, none⟩) (l.length + 64) (l.length + 64)), (6, .int .i64 (i : Int))] env ∧ ds = [] ∧ l.length ≤ i ∧ i ≤ l.length + 64 ∧ H = H' ∧ nx = nx') (fun m env ds H' nx' hI => ?_) (m := 64) (⟨l.length, by omega, (by repeat (first | exact SubE.nil _ | refine SubE.cons rfl ?_)), rfl, by omega, by omega, rfl, rfl⟩)
  obtain ⟨i, rfl, hsub, rfl, hlo, hi, rfl, rfl⟩ := hI
  refine WC.weak (env' := [(1, .slice a l.length c), (5, .slice (some ⟨b, 0, none⟩) (l.length + 64) (l.length + 64)), (6, .int .i64 (i : Int))]) ?_ hsub (fun _ _ h => h)
  refine WC.seq ?_
  refine WC.seqR (xs := [om 18 (.t 6),
    om 19 (.t 5),
    oq 20 (.p (.len (.t 19))),
    oq 21 (.p (.bin .lss .other false (.t 18) (.t 20)))]) (by kernel_rfl) ?_
  refine WS.mv rfl rfl ?_
  refine WS.mv rfl rfl ?_
  refine WS.c (One.len rfl rfl ?_)
  refine WS.c (One.bin rfl rfl bin_lss rfl ?_)
  refine WS.nil ?_
  refine WC.cond rfl (fun hc2 => ?_) (fun hc2 => ?_)
  ·obtain ⟨b1, o1, hbo, hr1⟩ := hsp.el (i := i) (by rw [spareL_len]; omega)
   injection hbo with hbo; injection hbo with e1 e2
   subst e1; subst e2
   rw [spareL_hi hlo (by omega)] at hr1
   refine WC.skip ?_
   refine WC.seq ?_
   refine WC.block ?_
   refine WC.seqR (xs := [om 24 (.t 5),
     om 25 (.t 6),
     oq 26 (.p (.iaS 1 (.t 24) (.t 25))),
     oq 27 (.l (.ld none (.t 26))),
     om 28 (.t 6),
     oq 29 (.p (.bin .xor .other true (.v (.int .i64 165)) (.t 28))),
     oq 30 (.p (.cvI .u8 (.t 29))),
     oq 31 (.p (.bin .neq .other false (.t 27) (.t 30)))]) (by kernel_rfl) ?_
   refine WS.mv rfl rfl ?_
   refine WS.mv rfl rfl ?_
   refine WS.c (One.iaS rfl rfl rfl (by omega) rfl ?_)
   refine WS.c (One.ld rfl hr1 rfl ?_)
   refine WS.mv rfl rfl ?_
   refine WS.c (One.bin rfl rfl (bin_xor64 (a := 165) (by decide) (by omega)) rfl ?_)
   refine WS.c (One.cvI (c := ((mark i).toNat : Int)) rfl (wrap_u8 _) rfl ?_)
   refine WS.c (One.bin rfl rfl bin_neq rfl ?_)
   refine WS.nil ?_
   refine WC.cond rfl (fun hc3 => ?_) (fun hc3 => ?_)
   ·exact absurd rfl hc3
   ·refine WC.skip ?_
    refine WC.region (xs := [om 22 (.t 6),
      oq 23 (.p (.bin .add .other true (.t 22) (.v (.int .i64 1)))),
      om 6 (.t 23)]) (by kernel_rfl) ?_
    refine WS.mv rfl rfl ?_
    refine WS.c (One.bin rfl rfl (bin_add64 (by omega) (by omega)) rfl ?_)
    refine WS.mv rfl rfl ?_
    refine WS.nil ?_
    refine ⟨_, ?_, i + 1, rfl, (by repeat (first | exact SubE.nil _ | refine SubE.cons rfl ?_)), rfl, by omega, by omega, rfl, rfl⟩
    omega
  ·refine WC.exit ?_
   refine WC.seqR (xs := [om 4 (.v (.bool true))]) (by kernel_rfl) ?_
   refine WS.mv rfl rfl ?_
   refine WS.nil ?_
   refine WC.ret ?_
   exact EndOk.now rfl rfl ⟨rfl, rfl, rfl⟩
end Go.Proofs
end
section
namespace Go.Proofs
open Go.Eng
variable {sm : Nat → Option (List Value → St → Option (Value × St))}
def RR (H : Hp) (r b : Nat) (rest : List UInt8) (e : Nat) : Prop := ∃ bs p, H r = some (.cells [.slice (some ⟨b, 0, none⟩) bs.length bs.length, .int .i64 ((p : Nat) : Int), .int .i64 (e : Int)] 128 0) ∧ H b = some (.cells (strCells bs) 5 0) ∧ b ≠ r ∧ p ≤ bs.length ∧ bs.drop p = rest ∧ bs.length ≤ 536870912
theorem RR.len {H : Hp} {r b e : Nat} {rest : List UInt8} (h : RR H r b rest e) : rest.length ≤ 536870912 := by
 obtain ⟨bs, p, _, _, _, h1, rfl, h2⟩ := h
 rw [List.length_drop]; omega
theorem RR.lt {H : Hp} {r b e nx : Nat} {rest : List UInt8} (h : RR H r b rest e) (hb : HB H nx) : r < nx := by
 obtain ⟨bs, p, h1, _⟩ := h
 exact hb _ _ h1
theorem RR.mono {A B : Hp} {r b e : Nat} {rest : List UInt8} (h : RR A r b rest e) (hs : HSub A B) : RR B r b rest e := by
 obtain ⟨bs, p, h1, h2, h3⟩ := h
 exact ⟨bs, p, hs _ _ h1, hs _ _ h2, h3⟩
theorem RR.upd {A : Hp} {r b e c : Nat} {rest : List UInt8} {o : AO} (h : RR A r b rest e) (h1 : c ≠ r) (h2 : c ≠ b) : RR (upd A c o) r b rest e := by
 obtain ⟨bs, p, h3, h4, h5⟩ := h
 exact ⟨bs, p, (upd_ne (Ne.symm h1)).trans h3, (upd_ne (Ne.symm h2)).trans h4, h5⟩
theorem RR.ltb {H : Hp} {r b e nx : Nat} {rest : List UInt8} (h : RR H r b rest e) (hb : HB H nx) : b < nx := by
 obtain ⟨bs, p, h1, h2, _⟩ := h
 exact hb _ _ h2
theorem RR.ne {H : Hp} {r b e : Nat} {rest : List UInt8} (h : RR H r b rest e) : b ≠ r := by
 obtain ⟨bs, p, h1, h2, h3, _⟩ := h
 exact h3
theorem RR.obj {H : Hp} {r b e : Nat} {rest : List UInt8} (h : RR H r b rest e) : ∃ x y, H r = some (.cells [x, y, .int .i64 (e : Int)] 128 0) := by
 obtain ⟨bs, p, h1, _⟩ := h
 exact ⟨_, _, h1⟩
def rawO (rest : List UInt8) (e n : Nat) : List UInt8 := if e = 0 then (if n ≤ rest.length then rest.take n else []) else []
def rawR (rest : List UInt8) (e n : Nat) : List UInt8 := if e = 0 then (if n ≤ rest.length then rest.drop n else rest) else rest
def rawE (rest : List UInt8) (e n : Nat) : Nat := if e = 0 then (if n ≤ rest.length then 0 else 2) else e
def leV : List UInt8 → Nat
 | [] => 0
 | b :: r => b.toNat + 256 * leV r
theorem leV_lt : ∀ (l : List UInt8), leV l < 256 ^ l.length
 | [] => by simp [leV]
 | b :: r => by
  have h1 := leV_lt r
  have h2 := b.toNat_lt
  simp only [leV, List.length_cons, Nat.pow_succ]
  omega
theorem leV_snoc (l : List UInt8) {i : Nat} (h : i < l.length) : leV (l.drop i) = leV (l.drop (i + 1)) * 256 + (l[i]).toNat := by
 rw [List.drop_eq_getElem_cons h]
 simp only [leV]; omega
theorem pow8 {l : Nat} (h : l ≤ 8) : 256 ^ l ≤ 2 ^ 64 := by
 rw [show (256 : Nat) = 2 ^ 8 from rfl, ← Nat.pow_mul]
 exact Nat.pow_le_pow_right (by decide) (by omega)
theorem modC {x y : Nat} (h : x * 256 + y < 2 ^ 64) : (x * 256 % 2 ^ 64 + y) % 2 ^ 64 = x * 256 + y := by
 have h1 : x * 256 < 2 ^ 64 := Nat.lt_of_le_of_lt (Nat.le_add_right _ _) h
 rw [Nat.mod_eq_of_lt h1, Nat.mod_eq_of_lt h]
def shO (rest : List UInt8) (e most : Nat) : List UInt8 := if e = 0 then (match rest with
 | [] => []
 | b :: r => if b.toNat ≤ most then (if b.toNat ≤ r.length then r.take b.toNat else []) else []) else []
def shR (rest : List UInt8) (e most : Nat) : List UInt8 := if e = 0 then (match rest with
 | [] => rest
 | b :: r => if b.toNat ≤ most then (if b.toNat ≤ r.length then r.drop b.toNat else rest) else rest) else rest
def shE (rest : List UInt8) (e most : Nat) : Nat := if e = 0 then (match rest with
 | [] => 2
 | b :: r => if b.toNat ≤ most then (if b.toNat ≤ r.length then 0 else 2) else 4) else e
def SlB (H : Hp) (lo : Nat) (v : Value) (out : List UInt8) : Prop := ∃ a c, v = .slice a out.length c ∧ BS H a out ∧ ∀ b o, a = some ⟨b, o, none⟩ → lo ≤ b
theorem SlB.nil (H : Hp) (lo : Nat) : SlB H lo (.slice none 0 0) [] := ⟨none, 0, rfl, BS.nil _, fun _ _ h => by cases h⟩
theorem SlB.mono {A B : Hp} {lo : Nat} {v : Value} {out : List UInt8} (h : SlB A lo v out) (hs : HSub A B) : SlB B lo v out := by
 obtain ⟨a, c, h1, h2, h3⟩ := h
 exact ⟨a, c, h1, h2.mono hs, h3⟩
theorem SlB.le {A : Hp} {lo l : Nat} {v : Value} {out : List UInt8} (h : SlB A lo v out) (hl : l ≤ lo) : SlB A l v out := by
 obtain ⟨a, c, h1, h2, h3⟩ := h
 exact ⟨a, c, h1, h2, fun b o hb => Nat.le_trans hl (h3 b o hb)⟩
theorem SlB.low {A B : Hp} {lo r : Nat} {v : Value} {out : List UInt8} (h : SlB A lo v out) (hs : HSub (del A r) B) (hr : r < lo) : SlB B lo v out := by
 obtain ⟨a, c, h1, h2, h3⟩ := h
 exact ⟨a, c, h1, h2.del (fun b o hb => by have := h3 b o hb; omega) hs, h3⟩
def Gave (H : Hp) (r b nx : Nat) (out rest : List UInt8) (e : Nat) (v : Value) (H' : Hp) (nx' : Nat) : Prop :=
 SlB H' nx v out ∧ RR H' r b rest e ∧ HSub (del H r) H' ∧ HB H' nx' ∧ nx ≤ nx'
theorem Gave.nil {H H' : Hp} {r b nx e nx' : Nat} {rest : List UInt8} (h1 : RR H' r b rest e) (h2 : HSub (del H r) H') (h3 : HB H' nx') (h4 : nx ≤ nx') : Gave H r b nx [] rest e (.slice none 0 0) H' nx' :=
 ⟨SlB.nil _ _, h1, h2, h3, h4⟩
theorem spec107 (hsm : sm 107 = none) (H : Hp) (nx r b e : Nat) (rest : List UInt8) (hR : RR H r b rest e) : FnOk (envS sm) 107 [.pointer (some ⟨r, 0, none⟩)] H nx (fun v H' nx' => v = .int .i64 (rest.length : Int) ∧ H = H' ∧ nx = nx') (fun _ _ _ => False) := by
 obtain ⟨bs, p, hr, hb, hbr, hp, rfl, hbs⟩ := hR
 refine FnOk.of (fn := Tryz.f107) hsm rfl rfl rfl ?_
 refine WC.seqR (xs := [om 2 (.v (.int .i64 0))]) (by kernel_rfl) ?_
 refine WS.mv rfl rfl ?_
 refine WS.nil ?_
 refine WC.seqT (l := [om 3 (.t 0),
   oq 4 (.p (.nilc (.t 3))),
   oq 5 (.p (.fad (.t 4) 0)),
   oq 6 (.l (.ld none (.t 5))),
   oq 7 (.p (.len (.t 6))),
   om 8 (.t 0),
   oq 9 (.p (.nilc (.t 8))),
   oq 10 (.p (.fad (.t 9) 1)),
   oq 11 (.l (.ld none (.t 10))),
   oq 12 (.p (.bin .sub .other false (.t 7) (.t 11))),
   om 2 (.t 12)]) (ws := [(0, 0), (0, 0), (0, 0), (0, 0), (0, 0), (0, 0), (0, 0), (0, 0), (0, 0), (0, 0), (0, 0)]) (xs := [(om 3 (.t 0), [0]),
   (oq 4 (.p (.nilc (.t 3))), [3]),
   (oq 5 (.p (.fad (.t 4) 0)), [4]),
   (oq 6 (.l (.ld none (.t 5))), [5]),
   (oq 7 (.p (.len (.t 6))), [6]),
   (om 8 (.t 0), [0]),
   (oq 9 (.p (.nilc (.t 8))), [8]),
   (oq 10 (.p (.fad (.t 9) 1)), [9]),
   (oq 11 (.l (.ld none (.t 10))), [10]),
   (oq 12 (.p (.bin .sub .other false (.t 7) (.t 11))), [7, 11]),
   (om 2 (.t 12), [12])]) (by kernel_rfl) (by kernel_rfl) ?_
 refine WD.q rfl (One.mv rfl rfl ⟨rfl, ?_⟩)
 refine WD.q rfl (One.nilc rfl rfl ⟨rfl, ?_⟩)
 refine WD.q rfl (One.fad rfl rfl ⟨rfl, ?_⟩)
 refine WD.r (One.ld rfl (ld_of hr rfl) rfl ⟨_, rfl, ?_⟩)
 refine WD.q rfl (One.len rfl rfl ⟨rfl, ?_⟩)
 refine WD.q rfl (One.mv rfl rfl ⟨rfl, ?_⟩)
 refine WD.q rfl (One.nilc rfl rfl ⟨rfl, ?_⟩)
 refine WD.q rfl (One.fad rfl rfl ⟨rfl, ?_⟩)
 refine WD.r (One.ld rfl (ld_of hr rfl) rfl ⟨_, rfl, ?_⟩)
 refine WD.q rfl (One.bin rfl rfl (bin_sub64 (by omega) (by omega)) rfl ⟨rfl, ?_⟩)
 refine WD.q rfl (One.mv rfl rfl ⟨rfl, ?_⟩)
 refine WD.nil (⟨⟨veq_int _ _ _, ld_of hr rfl, trivial⟩, ⟨veq_sl _ _ _ _ _, ld_of hr rfl, trivial⟩, trivial⟩) ?_
 refine WC.ret ?_
 exact EndOk.now rfl rfl ⟨by simp only [oneV, List.length_drop]; rw [Int.ofNat_sub hp], rfl, rfl⟩
theorem spec171 (hsm : sm 171 = none) (H : Hp) (nx r b e : Nat) (rest : List UInt8) (hR : RR H r b rest 0) (hH : HB H nx) : FnOk (envS sm) 171 [.pointer (some ⟨r, 0, none⟩), .int .i64 (e : Int)] H nx (fun _ H' nx' => RR H' r b rest e ∧ HSub (del H r) H' ∧ HB H' nx' ∧ nx = nx') (fun _ _ _ => False) := by
 obtain ⟨bs, p, hr, hb, hbr, hp, rfl, hbs⟩ := hR
 refine FnOk.of (fn := Tryz.f171) hsm rfl rfl rfl ?_
 refine WC.seqR (xs := [om 4 (.t 0),
   oq 5 (.p (.nilc (.t 4))),
   oq 6 (.p (.fad (.t 5) 2)),
   oq 7 (.l (.ld none (.t 6))),
   oq 8 (.p (.bin .eql .other true (.t 7) (.v (.int .i64 0))))]) (by kernel_rfl) ?_
 refine WS.mv rfl rfl ?_
 refine WS.c (One.nilc rfl rfl ?_)
 refine WS.c (One.fad rfl rfl ?_)
 refine WS.c (One.ld rfl (ld_of hr rfl) rfl ?_)
 refine WS.c (One.bin rfl rfl bin_eql rfl ?_)
 refine WS.nil ?_
 refine WC.cond rfl (fun hc1 => ?_) (fun hc1 => ?_)
 ·refine WC.region (xs := [om 9 (.t 0),
    om 10 (.t 1),
    oq 11 (.p (.nilc (.t 9))),
    oq 12 (.p (.fad (.t 11) 2)),
    ⟨none, none, .w (.sto 1 (.t 12) (.t 10))⟩]) (by kernel_rfl) ?_
  refine WS.mv rfl rfl ?_
  refine WS.mv rfl rfl ?_
  refine WS.c (One.nilc rfl rfl ?_)
  refine WS.c (One.fad rfl rfl ?_)
  refine WS.z (One.sto (cs' := [.slice (some ⟨b, 0, none⟩) bs.length bs.length, .int .i64 (p : Int), .int .i64 (e : Int)]) rfl rfl hr rfl rfl rfl rfl ?_)
  refine WS.nil ?_
  exact EndOk.now rfl rfl ⟨⟨bs, p, upd_eq, by rw [upd_ne hbr]; exact hb, hbr, hp, rfl, hbs⟩, HSub.delU (HSub.delL H r), hH.upd (hH _ _ hr), rfl⟩
 ·exact absurd rfl hc1
theorem spec105 (hsm : sm 105 = none) (hsm104 : sm 104 = none) (hsm107 : sm 107 = none) (hsm171 : sm 171 = none) (H : Hp) (nx r b e n : Nat) (rest : List UInt8) (hR : RR H r b rest e) (hH : HB H nx) (hn : n ≤ 536870912) : FnOk (envS sm) 105 [.pointer (some ⟨r, 0, none⟩), .int .i64 (n : Int)] H nx (fun v H' nx' => Gave H r b nx (rawO rest e n) (rawR rest e n) (rawE rest e n) v H' nx') (fun _ _ _ => False) := by
 refine FnOk.of (fn := Tryz.f105) hsm rfl rfl rfl ?_
 have hlen := hR.len
 have hRk := hR
 obtain ⟨bs0, p0, hr0, _⟩ := hRk
 have hrn := hR.lt hH
 refine WC.seqR (xs := [om 4 (.v (.slice none 0 0))]) (by kernel_rfl) ?_
 refine WS.mv rfl rfl ?_
 refine WS.nil ?_
 refine WC.seq ?_
 refine WC.seqR (xs := [om 6 (.t 0),
   oq 7 (.p (.nilc (.t 6))),
   oq 8 (.p (.fad (.t 7) 2)),
   oq 9 (.l (.ld none (.t 8))),
   oq 10 (.p (.bin .neq .other true (.t 9) (.v (.int .i64 0))))]) (by kernel_rfl) ?_
 refine WS.mv rfl rfl ?_
 refine WS.c (One.nilc rfl rfl ?_)
 refine WS.c (One.fad rfl rfl ?_)
 refine WS.c (One.ld rfl (ld_of hr0 rfl) rfl ?_)
 refine WS.c (One.bin rfl rfl bin_neq rfl ?_)
 refine WS.nil ?_
 refine WC.cond rfl (fun hc1 => ?_) (fun hc1 => ?_)
 ·refine WC.seqR (xs := [om 4 (.v (.slice none 0 0))]) (by kernel_rfl) ?_
  refine WS.mv rfl rfl ?_
  refine WS.nil ?_
  refine WC.ret ?_
  have he : ¬ e = 0 := by omega
  simp only [rawO, rawR, rawE, if_neg he]
  exact EndOk.now rfl rfl (Gave.nil hR (HSub.delL H r) hH (Nat.le_refl _))
 ·have he : e = 0 := by omega
  refine WC.skip ?_
  refine WC.seq ?_
  refine WC.seqR (xs := [om 11 (.t 1),
    oq 12 (.p (.bin .lss .other true (.t 11) (.v (.int .i64 0))))]) (by kernel_rfl) ?_
  refine WS.mv rfl rfl ?_
  refine WS.c (One.bin rfl rfl bin_lss rfl ?_)
  refine WS.nil ?_
  refine WC.cond rfl (fun hc2 => ?_) (fun hc2 => ?_)
  ·omega
  ·refine WC.skip ?_
   refine WC.seq ?_
   refine WC.seqR (xs := [om 15 (.t 1),
     om 16 (.t 0),
     oq 17 (.call (.v (.func (.func 107) #[] #[])) [(.t 16)]),
     oq 18 (.p (.bin .gtr .other false (.t 15) (.t 17)))]) (by kernel_rfl) ?_
   refine WS.mv rfl rfl ?_
   refine WS.mv rfl rfl ?_
   refine WS.c (One.call rfl rfl (spec107 hsm107 _ _ r b e rest hR) rfl ?_ (fun _ _ _ h => h.elim))
   rintro _ _ _ ⟨rfl, rfl, rfl⟩
   refine WS.c (One.bin rfl rfl bin_gtr rfl ?_)
   refine WS.nil ?_
   refine WC.cond rfl (fun hc3 => ?_) (fun hc3 => ?_)
   ·refine WC.seqR (xs := [om 19 (.t 0),
      oq 20 (.call (.v (.func (.func 171) #[] #[])) [(.t 19), (.v (.int .i64 2))])]) (by kernel_rfl) ?_
    refine WS.mv rfl rfl ?_
    subst he
    refine WS.c (One.call rfl rfl (spec171 hsm171 _ _ r b 2 rest hR hH) rfl ?_ (fun _ _ _ h => h.elim))
    rintro _ H2 _ ⟨hR2, hS2, hB2, rfl⟩
    refine WS.nil ?_
    refine WC.seqR (xs := [om 4 (.v (.slice none 0 0))]) (by kernel_rfl) ?_
    refine WS.mv rfl rfl ?_
    refine WS.nil ?_
    refine WC.ret ?_
    have hn : ¬ n ≤ rest.length := by omega
    simp only [rawO, rawR, rawE, if_true, if_neg hn]
    exact EndOk.now rfl rfl (Gave.nil hR2 hS2 hB2 (Nat.le_refl _))
   ·subst he
    obtain ⟨bs, p, hr, hb, hbr, hp, rfl, hbs⟩ := hR
    refine WC.skip ?_
    refine WC.seqT (l := [om 21 (.t 0),
      oq 22 (.p (.nilc (.t 21))),
      oq 23 (.p (.fad (.t 22) 0)),
      oq 24 (.l (.ld none (.t 23))),
      om 25 (.t 0),
      oq 26 (.p (.nilc (.t 25))),
      oq 27 (.p (.fad (.t 26) 1)),
      oq 28 (.l (.ld none (.t 27))),
      om 29 (.t 0),
      oq 30 (.p (.nilc (.t 29))),
      oq 31 (.p (.fad (.t 30) 1)),
      oq 32 (.l (.ld none (.t 31))),
      om 33 (.t 1),
      oq 34 (.p (.bin .add .other false (.t 32) (.t 33))),
      oq 35 (.p (.slS 1 (.t 24) (some (.t 28)) (some (.t 34)) none)),
      oq 36 (.call (.v (.func (.func 104) #[] #[])) [(.t 35)]),
      om 5 (.t 36)]) (ws := [(0, 0), (0, 0), (0, 0), (0, 0), (0, 0), (0, 0), (0, 0), (0, 0), (0, 0), (0, 0), (0, 0), (0, 0), (0, 0), (0, 0), (0, 0), (0, 1), (1, 1)]) (xs := [(om 21 (.t 0), [0]),
      (oq 22 (.p (.nilc (.t 21))), [21]),
      (oq 23 (.p (.fad (.t 22) 0)), [22]),
      (oq 24 (.l (.ld none (.t 23))), [23]),
      (om 25 (.t 0), [0]),
      (oq 26 (.p (.nilc (.t 25))), [25]),
      (oq 27 (.p (.fad (.t 26) 1)), [26]),
      (oq 28 (.l (.ld none (.t 27))), [27]),
      (om 29 (.t 0), [0]),
      (oq 30 (.p (.nilc (.t 29))), [29]),
      (oq 31 (.p (.fad (.t 30) 1)), [30]),
      (oq 32 (.l (.ld none (.t 31))), [31]),
      (om 33 (.t 1), [1]),
      (oq 34 (.p (.bin .add .other false (.t 32) (.t 33))), [32, 33]),
      (oq 35 (.p (.slS 1 (.t 24) (some (.t 28)) (some (.t 34)) none)), [24, 28, 34]),
      (oq 36 (.call (.v (.func (.func 104) #[] #[])) [(.t 35)]), [35]),
      (om 5 (.t 36), [36])]) (by kernel_rfl) (by kernel_rfl) ?_
    refine WD.q rfl (One.mv rfl rfl ⟨rfl, ?_⟩)
    refine WD.q rfl (One.nilc rfl rfl ⟨rfl, ?_⟩)
    refine WD.q rfl (One.fad rfl rfl ⟨rfl, ?_⟩)
    refine WD.r (One.ld rfl (ld_of hr rfl) rfl ⟨_, rfl, ?_⟩)
    refine WD.q rfl (One.mv rfl rfl ⟨rfl, ?_⟩)
    refine WD.q rfl (One.nilc rfl rfl ⟨rfl, ?_⟩)
    refine WD.q rfl (One.fad rfl rfl ⟨rfl, ?_⟩)
    refine WD.r (One.ld rfl (ld_of hr rfl) rfl ⟨_, rfl, ?_⟩)
    refine WD.q rfl (One.mv rfl rfl ⟨rfl, ?_⟩)
    refine WD.q rfl (One.nilc rfl rfl ⟨rfl, ?_⟩)
    refine WD.q rfl (One.fad rfl rfl ⟨rfl, ?_⟩)
    refine WD.r (One.ld rfl (ld_of hr rfl) rfl ⟨_, rfl, ?_⟩)
    refine WD.q rfl (One.mv rfl rfl ⟨rfl, ?_⟩)
    refine WD.q rfl (One.bin rfl rfl (bin_add64 (by omega) (by omega)) rfl ⟨rfl, ?_⟩)
    refine WD.q rfl (One.slBS (bs := bs) (l := p) (h := p + n) rfl (BS.whole hb) (by omega) (Nat.le_refl _) (bnd_int rfl rfl (by rw [List.length_drop] at *; omega)) (by rw [List.length_drop] at *; omega) (bnd_int rfl rfl (by omega)) (by omega) rfl ?_)
    intro o' hBo
    refine ⟨rfl, ?_⟩
    refine WD.l rfl (One.call rfl rfl (spec104 hsm104 _ _ hH _ _ _ hBo (by rw [List.length_take, List.length_drop]; omega)) rfl ?_ (fun _ _ _ h => h.elim))
    rintro _ H2 n2 ⟨rfl, hc2, hS2, hB2, hn2⟩
    refine ⟨rfl, ?_⟩
    refine WD.q rfl (One.mv rfl rfl ⟨rfl, ?_⟩)
    refine WD.nil (⟨⟨veq_int _ _ _, ld_of hr rfl, trivial⟩, ⟨veq_int _ _ _, ld_of hr rfl, trivial⟩, ⟨veq_sl _ _ _ _ _, ld_of hr rfl, trivial⟩, trivial⟩) ?_
    refine WC.seqR (xs := [om 37 (.t 0),
      oq 38 (.p (.nilc (.t 37))),
      oq 39 (.p (.fad (.t 38) 1)),
      oq 40 (.l (.ld none (.t 39))),
      om 41 (.t 1),
      oq 42 (.p (.bin .add .other false (.t 40) (.t 41))),
      oq 43 (.p (.nilc (.t 37))),
      oq 44 (.p (.fad (.t 43) 1)),
      ⟨none, none, .w (.sto 1 (.t 44) (.t 42))⟩]) (by kernel_rfl) ?_
    refine WS.mv rfl rfl ?_
    refine WS.c (One.nilc rfl rfl ?_)
    refine WS.c (One.fad rfl rfl ?_)
    refine WS.c (One.ld rfl (ld_of (hS2 _ _ hr) rfl) rfl ?_)
    refine WS.mv rfl rfl ?_
    refine WS.c (One.bin rfl rfl (bin_add64 (by omega) (by omega)) rfl ?_)
    refine WS.c (One.nilc rfl rfl ?_)
    refine WS.c (One.fad rfl rfl ?_)
    refine WS.z (One.sto (cs' := [.slice (some ⟨b, 0, none⟩) bs.length bs.length, .int .i64 ((p : Int) + n), .int .i64 0]) rfl rfl (hS2 _ _ hr) rfl rfl rfl rfl ?_)
    refine WS.nil ?_
    refine WC.seqR (xs := [om 45 (.t 5),
      om 4 (.t 45)]) (by kernel_rfl) ?_
    refine WS.mv rfl rfl ?_
    refine WS.mv rfl rfl ?_
    refine WS.nil ?_
    refine WC.ret ?_
    have hn : n ≤ (bs.drop p).length := by omega
    simp only [rawO, rawR, rawE, if_true, if_pos hn]
    rw [Nat.add_sub_cancel_left] at hc2
    refine EndOk.now rfl rfl ⟨⟨some ⟨nx, 0, none⟩, (List.take (p + n - p) (List.drop p bs)).length, ?_, BS.whole ((upd_ne (by omega)).trans hc2), fun b o h => ?_⟩, ⟨bs, p + n, ?_, (upd_ne hbr).trans (hS2 _ _ hb), hbr, by rw [List.length_drop] at hn; omega, (List.drop_drop).symm, hbs⟩, HSub.delU (hS2.delM r), hB2.upd (by omega), by omega⟩
    ·rw [Nat.add_sub_cancel_left]; rfl
    ·injection h with h; injection h with h; omega
    ·rw [upd_eq]; rfl
theorem spec51 (hsm : sm 51 = none) (hsm105 : sm 105 = none) (hsm104 : sm 104 = none) (hsm107 : sm 107 = none) (hsm171 : sm 171 = none) (H : Hp) (nx r b e w : Nat) (rest : List UInt8) (hR : RR H r b rest e) (hH : HB H nx) (hw : w ≤ 8) : FnOk (envS sm) 51 [.pointer (some ⟨r, 0, none⟩), .int .i64 (w : Int)] H nx (fun v H' nx' => v = .int .u64 (leV (rawO rest e w) : Nat) ∧ RR H' r b (rawR rest e w) (rawE rest e w) ∧ HSub (del H r) H' ∧ HB H' nx' ∧ nx ≤ nx') (fun _ _ _ => False) := by
 refine FnOk.of (fn := Tryz.f51) hsm rfl rfl rfl ?_
 have hlen : (rawO rest e w).length ≤ 8 := by
  unfold rawO
  repeat' split
  ·rw [List.length_take]; omega
  ·simp
  ·simp
 refine WC.seqR (xs := [om 4 (.v (.int .u64 0))]) (by kernel_rfl) ?_
 refine WS.mv rfl rfl ?_
 refine WS.nil ?_
 refine WC.seqR (xs := [om 8 (.t 0),
   om 9 (.t 1),
   oq 10 (.call (.v (.func (.func 105) #[] #[])) [(.t 8), (.t 9)]),
   om 5 (.t 10)]) (by kernel_rfl) ?_
 refine WS.mv rfl rfl ?_
 refine WS.mv rfl rfl ?_
 refine WS.c (One.call rfl rfl (spec105 hsm105 hsm104 hsm107 hsm171 _ _ r b e w rest hR hH (by omega)) rfl ?_ (fun _ _ _ h => h.elim))
 rintro _ H2 n2 ⟨⟨a, c, rfl, hBo, _⟩, hR2, hS2, hB2, hn2⟩
 refine WS.mv rfl rfl ?_
 refine WS.nil ?_
 refine WC.seqR (xs := [om 6 (.v (.int .u64 0))]) (by kernel_rfl) ?_
 refine WS.mv rfl rfl ?_
 refine WS.nil ?_
 refine WC.seq ?_
 refine WC.seqR (xs := [om 11 (.t 5),
   oq 12 (.p (.len (.t 11))),
   oq 13 (.p (.bin .sub .other true (.t 12) (.v (.int .i64 1)))),
   om 7 (.t 13)]) (by kernel_rfl) ?_
 refine WS.mv rfl rfl ?_
 refine WS.c (One.len rfl rfl ?_)
 refine WS.c (One.bin rfl rfl (bin_sub64 (by omega) (by omega)) rfl ?_)
 refine WS.mv rfl rfl ?_
 refine WS.nil ?_
 refine WC.block ?_
 refine WC.loop (fun m env ds H' nx' => ∃ (k x : Nat), m = k + 1 ∧ SubE [(5, .slice a (rawO rest e w).length c), (6, .int .u64 (x : Int)), (7, .int .i64 ((k : Int) - 1))] env ∧ ds = [] ∧ k ≤ (rawO rest e w).length ∧ x = leV ((rawO rest e w).drop k) ∧ H2 = H' ∧ n2 = nx') (fun m env ds H' nx' hI => ?_) (m := (rawO rest e w).length + 1) (⟨_, 0, rfl, (by repeat (first | exact SubE.nil _ | refine SubE.cons rfl ?_)), rfl, Nat.le_refl _, by rw [List.drop_length]; rfl, rfl, rfl⟩)
 obtain ⟨k, x, rfl, hsub, rfl, hk, hx, rfl, rfl⟩ := hI
 refine WC.weak (env' := [(5, .slice a (rawO rest e w).length c), (6, .int .u64 (x : Int)), (7, .int .i64 ((k : Int) - 1))]) ?_ hsub (fun _ _ h => h)
 refine WC.seq ?_
 refine WC.seqR (xs := [om 14 (.t 7),
   oq 15 (.p (.bin .geq .other true (.t 14) (.v (.int .i64 0))))]) (by kernel_rfl) ?_
 refine WS.mv rfl rfl ?_
 refine WS.c (One.bin rfl rfl bin_geq rfl ?_)
 refine WS.nil ?_
 refine WC.cond rfl (fun hc1 => ?_) (fun hc1 => ?_)
 ·obtain ⟨b1, o1, rfl, hr1⟩ := hBo.el (i := k - 1) (by omega)
  refine WC.skip ?_
  refine WC.seq ?_
  refine WC.block ?_
  refine WC.region (xs := [om 18 (.t 6),
    oq 19 (.p (.bin .mul .other true (.t 18) (.v (.int .u64 256)))),
    om 20 (.t 5),
    om 21 (.t 7),
    oq 22 (.p (.iaS 1 (.t 20) (.t 21))),
    oq 23 (.l (.ld none (.t 22))),
    oq 24 (.p (.cvI .u64 (.t 23))),
    oq 25 (.p (.bin .add .other false (.t 19) (.t 24))),
    om 6 (.t 25)]) (by kernel_rfl) ?_
  refine WS.mv rfl rfl ?_
  refine WS.c (One.bin rfl rfl (bin_mulU (a := x) (b := 256) rfl) rfl ?_)
  refine WS.mv rfl rfl ?_
  refine WS.mv rfl rfl ?_
  refine WS.c (One.iaS (j := k - 1) rfl rfl (by omega) (by omega) rfl ?_)
  refine WS.c (One.ld rfl hr1 rfl ?_)
  refine WS.c (One.cvI rfl (wrap_u rfl (Nat.lt_trans (rawO rest e w)[k - 1].toNat_lt (by decide))) rfl ?_)
  refine WS.c (One.bin rfl rfl (bin_addU rfl) rfl ?_)
  refine WS.mv rfl rfl ?_
  refine WS.nil ?_
  refine WC.region (xs := [om 16 (.t 7),
    oq 17 (.p (.bin .sub .other true (.t 16) (.v (.int .i64 1)))),
    om 7 (.t 17)]) (by kernel_rfl) ?_
  refine WS.mv rfl rfl ?_
  refine WS.c (One.bin rfl rfl (bin_sub64 (by omega) (by omega)) rfl ?_)
  refine WS.mv rfl rfl ?_
  refine WS.nil ?_
  have e1 : ((k : Int) - 1 - 1) = (((k - 1 : Nat) : Int) - 1) := by omega
  rw [e1]
  refine ⟨k - 1 + 1, by omega, k - 1, _, rfl, (by repeat (first | exact SubE.nil _ | refine SubE.cons rfl ?_)), rfl, by omega, ?_, rfl, rfl⟩
  rw [leV_snoc (rawO rest e w) (i := k - 1) (by omega), show k - 1 + 1 = k by omega, ← hx]
  have hlt := leV_lt ((rawO rest e w).drop (k - 1))
  rw [leV_snoc (rawO rest e w) (i := k - 1) (by omega), show k - 1 + 1 = k by omega, ← hx] at hlt
  have hp8 := pow8 (l := ((rawO rest e w).drop (k - 1)).length) (by rw [List.length_drop]; omega)
  exact modC (Nat.lt_of_lt_of_le hlt hp8)
 ·refine WC.exit ?_
  refine WC.seqR (xs := [om 26 (.t 6),
    om 4 (.t 26)]) (by kernel_rfl) ?_
  refine WS.mv rfl rfl ?_
  refine WS.mv rfl rfl ?_
  refine WS.nil ?_
  refine WC.ret ?_
  have hk : k = 0 := by omega
  subst hk
  exact EndOk.now rfl rfl ⟨by simp only [oneV, hx, List.drop_zero], hR2, hS2, hB2, hn2⟩
theorem spec106 (hsm : sm 106 = none) (hsm105 : sm 105 = none) (hsm104 : sm 104 = none) (hsm107 : sm 107 = none) (hsm171 : sm 171 = none) (H : Hp) (nx r b e most : Nat) (rest : List UInt8) (hR : RR H r b rest e) (hH : HB H nx) (hm0 : most ≤ 255) : FnOk (envS sm) 106 [.pointer (some ⟨r, 0, none⟩), .int .i64 (most : Int)] H nx (fun v H' nx' => Gave H r b nx (shO rest e most) (shR rest e most) (shE rest e most) v H' nx') (fun _ _ _ => False) := by
 refine FnOk.of (fn := Tryz.f106) hsm rfl rfl rfl ?_
 have hlen := hR.len
 have hRk := hR
 obtain ⟨bs0, p0, hr0, _⟩ := hRk
 have hrn := hR.lt hH
 refine WC.seqR (xs := [om 4 (.v (.slice none 0 0))]) (by kernel_rfl) ?_
 refine WS.mv rfl rfl ?_
 refine WS.nil ?_
 refine WC.seq ?_
 refine WC.seqR (xs := [om 6 (.t 0),
   oq 7 (.p (.nilc (.t 6))),
   oq 8 (.p (.fad (.t 7) 2)),
   oq 9 (.l (.ld none (.t 8))),
   oq 10 (.p (.bin .neq .other true (.t 9) (.v (.int .i64 0))))]) (by kernel_rfl) ?_
 refine WS.mv rfl rfl ?_
 refine WS.c (One.nilc rfl rfl ?_)
 refine WS.c (One.fad rfl rfl ?_)
 refine WS.c (One.ld rfl (ld_of hr0 rfl) rfl ?_)
 refine WS.c (One.bin rfl rfl bin_neq rfl ?_)
 refine WS.nil ?_
 refine WC.cond rfl (fun hc1 => ?_) (fun hc1 => ?_)
 ·refine WC.seqR (xs := [om 4 (.v (.slice none 0 0))]) (by kernel_rfl) ?_
  refine WS.mv rfl rfl ?_
  refine WS.nil ?_
  refine WC.ret ?_
  have he : ¬ e = 0 := by omega
  simp only [shO, shR, shE, if_neg he]
  exact EndOk.now rfl rfl (Gave.nil hR (HSub.delL H r) hH (Nat.le_refl _))
 ·have he : e = 0 := by omega
  subst he
  refine WC.skip ?_
  refine WC.seq ?_
  refine WC.seqR (xs := [om 11 (.t 0),
    oq 12 (.call (.v (.func (.func 107) #[] #[])) [(.t 11)]),
    oq 13 (.p (.bin .eql .other true (.t 12) (.v (.int .i64 0))))]) (by kernel_rfl) ?_
  refine WS.mv rfl rfl ?_
  refine WS.c (One.call rfl rfl (spec107 hsm107 _ _ r b 0 rest hR) rfl ?_ (fun _ _ _ h => h.elim))
  rintro _ _ _ ⟨rfl, rfl, rfl⟩
  refine WS.c (One.bin rfl rfl bin_eql rfl ?_)
  refine WS.nil ?_
  refine WC.cond rfl (fun hc2 => ?_) (fun hc2 => ?_)
  ·have h0 : rest = [] := List.eq_nil_of_length_eq_zero (by omega)
   subst h0
   refine WC.seqR (xs := [om 14 (.t 0),
     oq 15 (.call (.v (.func (.func 171) #[] #[])) [(.t 14), (.v (.int .i64 2))])]) (by kernel_rfl) ?_
   refine WS.mv rfl rfl ?_
   refine WS.c (One.call rfl rfl (spec171 hsm171 _ _ r b 2 [] hR hH) rfl ?_ (fun _ _ _ h => h.elim))
   rintro _ H2 _ ⟨hR2, hS2, hB2, rfl⟩
   refine WS.nil ?_
   refine WC.seqR (xs := [om 4 (.v (.slice none 0 0))]) (by kernel_rfl) ?_
   refine WS.mv rfl rfl ?_
   refine WS.nil ?_
   refine WC.ret ?_
   exact EndOk.now rfl rfl (Gave.nil hR2 hS2 hB2 (Nat.le_refl _))
  ·obtain ⟨t, rs, rfl⟩ : ∃ t rs, rest = t :: rs := by
    cases rest with
    | nil => exact absurd rfl hc2
    | cons t rs => exact ⟨t, rs, rfl⟩
   obtain ⟨bs, p, hr, hb, hbr, hp, hdr, hbs⟩ := hR
   have hpl : p < bs.length := by
    apply Nat.lt_of_not_le; intro hle
    rw [List.drop_eq_nil_of_le hle] at hdr; cases hdr
   have htv : bs[p] = t := by rw [List.drop_eq_getElem_cons hpl] at hdr; injection hdr
   obtain ⟨b1, o1, hbo, hr1⟩ := (BS.whole hb : BS H (some ⟨b, 0, none⟩) bs).el hpl
   injection hbo with hbo; injection hbo with e1 e2
   subst e1; subst e2
   rw [htv] at hr1
   have hR : RR H r b (t :: rs) 0 := ⟨bs, p, hr, hb, hbr, hp, hdr, hbs⟩
   have ht := t.toNat_lt
   refine WC.skip ?_
   refine WC.seqT (l := [om 16 (.t 0),
     oq 17 (.p (.nilc (.t 16))),
     oq 18 (.p (.fad (.t 17) 0)),
     oq 19 (.l (.ld none (.t 18))),
     om 20 (.t 0),
     oq 21 (.p (.nilc (.t 20))),
     oq 22 (.p (.fad (.t 21) 1)),
     oq 23 (.l (.ld none (.t 22))),
     oq 24 (.p (.iaS 1 (.t 19) (.t 23))),
     oq 25 (.l (.ld none (.t 24))),
     oq 26 (.p (.cvI .i64 (.t 25))),
     om 5 (.t 26)]) (ws := [(0, 0), (0, 0), (0, 0), (0, 0), (0, 0), (0, 0), (0, 0), (0, 0), (0, 0), (0, 0), (0, 0), (0, 0)]) (xs := [(om 16 (.t 0), [0]),
     (oq 17 (.p (.nilc (.t 16))), [16]),
     (oq 18 (.p (.fad (.t 17) 0)), [17]),
     (oq 19 (.l (.ld none (.t 18))), [18]),
     (om 20 (.t 0), [0]),
     (oq 21 (.p (.nilc (.t 20))), [20]),
     (oq 22 (.p (.fad (.t 21) 1)), [21]),
     (oq 23 (.l (.ld none (.t 22))), [22]),
     (oq 24 (.p (.iaS 1 (.t 19) (.t 23))), [19, 23]),
     (oq 25 (.l (.ld none (.t 24))), [24]),
     (oq 26 (.p (.cvI .i64 (.t 25))), [25]),
     (om 5 (.t 26), [26])]) (by kernel_rfl) (by kernel_rfl) ?_
   refine WD.q rfl (One.mv rfl rfl ⟨rfl, ?_⟩)
   refine WD.q rfl (One.nilc rfl rfl ⟨rfl, ?_⟩)
   refine WD.q rfl (One.fad rfl rfl ⟨rfl, ?_⟩)
   refine WD.r (One.ld rfl (ld_of hr rfl) rfl ⟨_, rfl, ?_⟩)
   refine WD.q rfl (One.mv rfl rfl ⟨rfl, ?_⟩)
   refine WD.q rfl (One.nilc rfl rfl ⟨rfl, ?_⟩)
   refine WD.q rfl (One.fad rfl rfl ⟨rfl, ?_⟩)
   refine WD.r (One.ld rfl (ld_of hr rfl) rfl ⟨_, rfl, ?_⟩)
   refine WD.q rfl (One.iaS (j := p) rfl rfl rfl hpl rfl ⟨rfl, ?_⟩)
   refine WD.r (One.ld rfl hr1 rfl ⟨_, rfl, ?_⟩)
   refine WD.q rfl (One.cvI rfl (wrap_i64 (by omega) (by omega)) rfl ⟨rfl, ?_⟩)
   refine WD.q rfl (One.mv rfl rfl ⟨rfl, ?_⟩)
   refine WD.nil (⟨⟨veq_int _ _ _, hr1, trivial⟩, ⟨veq_int _ _ _, ld_of hr rfl, trivial⟩, ⟨veq_sl _ _ _ _ _, ld_of hr rfl, trivial⟩, trivial⟩) ?_
   refine WC.seq ?_
   refine WC.seqR (xs := [om 27 (.t 5),
     om 28 (.t 1),
     oq 29 (.p (.bin .gtr .other false (.t 27) (.t 28)))]) (by kernel_rfl) ?_
   refine WS.mv rfl rfl ?_
   refine WS.mv rfl rfl ?_
   refine WS.c (One.bin rfl rfl bin_gtr rfl ?_)
   refine WS.nil ?_
   refine WC.cond rfl (fun hc3 => ?_) (fun hc3 => ?_)
   ·refine WC.seqR (xs := [om 30 (.t 0),
      oq 31 (.call (.v (.func (.func 171) #[] #[])) [(.t 30), (.v (.int .i64 4))])]) (by kernel_rfl) ?_
    refine WS.mv rfl rfl ?_
    refine WS.c (One.call rfl rfl (spec171 hsm171 _ _ r b 4 _ hR hH) rfl ?_ (fun _ _ _ h => h.elim))
    rintro _ H2 _ ⟨hR2, hS2, hB2, rfl⟩
    refine WS.nil ?_
    refine WC.seqR (xs := [om 4 (.v (.slice none 0 0))]) (by kernel_rfl) ?_
    refine WS.mv rfl rfl ?_
    refine WS.nil ?_
    refine WC.ret ?_
    have hm : ¬ t.toNat ≤ most := by omega
    simp only [shO, shR, shE, if_true, if_neg hm]
    exact EndOk.now rfl rfl (Gave.nil hR2 hS2 hB2 (Nat.le_refl _))
   ·refine WC.skip ?_
    refine WC.seq ?_
    refine WC.seqR (xs := [om 32 (.t 5),
      om 33 (.t 0),
      oq 34 (.call (.v (.func (.func 107) #[] #[])) [(.t 33)]),
      oq 35 (.p (.bin .sub .other true (.t 34) (.v (.int .i64 1)))),
      oq 36 (.p (.bin .gtr .other false (.t 32) (.t 35)))]) (by kernel_rfl) ?_
    refine WS.mv rfl rfl ?_
    refine WS.mv rfl rfl ?_
    refine WS.c (One.call rfl rfl (spec107 hsm107 _ _ r b 0 _ hR) rfl ?_ (fun _ _ _ h => h.elim))
    rintro _ _ _ ⟨rfl, rfl, rfl⟩
    refine WS.c (One.bin rfl rfl (bin_sub64 (by omega) (by omega)) rfl ?_)
    refine WS.c (One.bin rfl rfl bin_gtr rfl ?_)
    refine WS.nil ?_
    refine WC.cond rfl (fun hc4 => ?_) (fun hc4 => ?_)
    ·refine WC.seqR (xs := [om 37 (.t 0),
       oq 38 (.call (.v (.func (.func 171) #[] #[])) [(.t 37), (.v (.int .i64 2))])]) (by kernel_rfl) ?_
     refine WS.mv rfl rfl ?_
     refine WS.c (One.call rfl rfl (spec171 hsm171 _ _ r b 2 _ hR hH) rfl ?_ (fun _ _ _ h => h.elim))
     rintro _ H2 _ ⟨hR2, hS2, hB2, rfl⟩
     refine WS.nil ?_
     refine WC.seqR (xs := [om 4 (.v (.slice none 0 0))]) (by kernel_rfl) ?_
     refine WS.mv rfl rfl ?_
     refine WS.nil ?_
     refine WC.ret ?_
     have hm : t.toNat ≤ most := by omega
     have hm2 : ¬ t.toNat ≤ rs.length := by simp only [List.length_cons] at *; omega
     simp only [shO, shR, shE, if_true, if_pos hm, if_neg hm2]
     exact EndOk.now rfl rfl (Gave.nil hR2 hS2 hB2 (Nat.le_refl _))
    ·refine WC.skip ?_
     refine WC.seqR (xs := [om 39 (.t 0),
       oq 40 (.p (.nilc (.t 39))),
       oq 41 (.p (.fad (.t 40) 1)),
       oq 42 (.l (.ld none (.t 41))),
       oq 43 (.p (.bin .add .other true (.t 42) (.v (.int .i64 1)))),
       oq 44 (.p (.nilc (.t 39))),
       oq 45 (.p (.fad (.t 44) 1)),
       ⟨none, none, .w (.sto 1 (.t 45) (.t 43))⟩]) (by kernel_rfl) ?_
     refine WS.mv rfl rfl ?_
     refine WS.c (One.nilc rfl rfl ?_)
     refine WS.c (One.fad rfl rfl ?_)
     refine WS.c (One.ld rfl (ld_of hr rfl) rfl ?_)
     refine WS.c (One.bin rfl rfl (bin_add64 (by omega) (by omega)) rfl ?_)
     refine WS.c (One.nilc rfl rfl ?_)
     refine WS.c (One.fad rfl rfl ?_)
     refine WS.z (One.sto (cs' := [.slice (some ⟨b, 0, none⟩) bs.length bs.length, .int .i64 ((p : Int) + 1), .int .i64 ((0 : Nat) : Int)]) rfl rfl hr rfl rfl rfl rfl ?_)
     refine WS.nil ?_
     refine WC.seqR (xs := [om 46 (.t 0),
       om 47 (.t 5),
       oq 48 (.call (.v (.func (.func 105) #[] #[])) [(.t 46), (.t 47)]),
       om 4 (.t 48)]) (by kernel_rfl) ?_
     refine WS.mv rfl rfl ?_
     refine WS.mv rfl rfl ?_
     have hR1 : RR (upd H r (.cells [.slice (some ⟨b, 0, none⟩) bs.length bs.length, .int .i64 ((p : Int) + 1), .int .i64 ((0 : Nat) : Int)] 128 0)) r b rs 0 := ⟨bs, p + 1, by rw [upd_eq]; rfl, (upd_ne hbr).trans hb, hbr, by omega, by rw [List.drop_eq_getElem_cons hpl] at hdr; injection hdr, hbs⟩
     have hS1 : HSub (del H r) (upd H r (.cells [.slice (some ⟨b, 0, none⟩) bs.length bs.length, .int .i64 ((p : Int) + 1), .int .i64 ((0 : Nat) : Int)] 128 0)) := HSub.delU (HSub.delL H r)
     refine WS.c (One.call rfl rfl (spec105 hsm105 hsm104 hsm107 hsm171 _ _ r b 0 t.toNat rs hR1 (hH.upd hrn) (by omega)) rfl ?_ (fun _ _ _ h => h.elim))
     intro v2 H2 n2 hG
     refine WS.mv rfl rfl ?_
     refine WS.nil ?_
     refine WC.ret ?_
     have hm : t.toNat ≤ most := by omega
     have hm2 : t.toNat ≤ rs.length := by simp only [List.length_cons] at *; omega
     simp only [shO, shR, shE, if_true, if_pos hm, if_pos hm2]
     simp only [rawO, rawR, rawE, if_true, if_pos hm2] at hG
     obtain ⟨h1, h2, h3, h4, h5⟩ := hG
     exact EndOk.now rfl rfl ⟨h1, h2, HSub.delT hS1 h3, h4, h5⟩
theorem spec56 (hsm : sm 56 = none) (hsm107 : sm 107 = none) (H : Hp) (nx r b e : Nat) (rest : List UInt8) (hR : RR H r b rest e) : FnOk (envS sm) 56 [.pointer (some ⟨r, 0, none⟩)] H nx (fun v H' nx' => v = .int .i64 ((if e = 0 then (if rest = [] then 0 else 3) else e : Nat) : Int) ∧ H = H' ∧ nx = nx') (fun _ _ _ => False) := by
 refine FnOk.of (fn := Tryz.f56) hsm rfl rfl rfl ?_
 have hRk := hR
 obtain ⟨bs0, p0, hr0, _⟩ := hRk
 refine WC.seqR (xs := [om 2 (.v (.int .i64 0))]) (by kernel_rfl) ?_
 refine WS.mv rfl rfl ?_
 refine WS.nil ?_
 refine WC.seq ?_
 refine WC.seqR (xs := [om 3 (.t 0),
   oq 4 (.p (.nilc (.t 3))),
   oq 5 (.p (.fad (.t 4) 2)),
   oq 6 (.l (.ld none (.t 5))),
   oq 7 (.p (.bin .neq .other true (.t 6) (.v (.int .i64 0))))]) (by kernel_rfl) ?_
 refine WS.mv rfl rfl ?_
 refine WS.c (One.nilc rfl rfl ?_)
 refine WS.c (One.fad rfl rfl ?_)
 refine WS.c (One.ld rfl (ld_of hr0 rfl) rfl ?_)
 refine WS.c (One.bin rfl rfl bin_neq rfl ?_)
 refine WS.nil ?_
 refine WC.cond rfl (fun hc1 => ?_) (fun hc1 => ?_)
 ·refine WC.seqR (xs := [om 8 (.t 0),
    oq 9 (.p (.nilc (.t 8))),
    oq 10 (.p (.fad (.t 9) 2)),
    oq 11 (.l (.ld none (.t 10))),
    om 2 (.t 11)]) (by kernel_rfl) ?_
  refine WS.mv rfl rfl ?_
  refine WS.c (One.nilc rfl rfl ?_)
  refine WS.c (One.fad rfl rfl ?_)
  refine WS.c (One.ld rfl (ld_of hr0 rfl) rfl ?_)
  refine WS.mv rfl rfl ?_
  refine WS.nil ?_
  refine WC.ret ?_
  exact EndOk.now rfl rfl ⟨by rw [if_neg (by omega)]; rfl, rfl, rfl⟩
 ·refine WC.skip ?_
  refine WC.seq ?_
  refine WC.seqR (xs := [om 12 (.t 0),
    oq 13 (.call (.v (.func (.func 107) #[] #[])) [(.t 12)]),
    oq 14 (.p (.bin .gtr .other true (.t 13) (.v (.int .i64 0))))]) (by kernel_rfl) ?_
  refine WS.mv rfl rfl ?_
  refine WS.c (One.call rfl rfl (spec107 hsm107 _ _ r b e rest hR) rfl ?_ (fun _ _ _ h => h.elim))
  rintro _ _ _ ⟨rfl, rfl, rfl⟩
  refine WS.c (One.bin rfl rfl bin_gtr rfl ?_)
  refine WS.nil ?_
  refine WC.cond rfl (fun hc2 => ?_) (fun hc2 => ?_)
  ·refine WC.seqR (xs := [om 2 (.v (.int .i64 3))]) (by kernel_rfl) ?_
   refine WS.mv rfl rfl ?_
   refine WS.nil ?_
   refine WC.ret ?_
   exact EndOk.now rfl rfl ⟨by rw [if_pos (by omega), if_neg (by intro h; subst h; exact absurd hc2 (by decide))]; rfl, rfl, rfl⟩
  ·refine WC.skip ?_
   refine WC.seqR (xs := [om 2 (.v (.int .i64 0))]) (by kernel_rfl) ?_
   refine WS.mv rfl rfl ?_
   refine WS.nil ?_
   refine WC.ret ?_
   have h0 : rest = [] := List.eq_nil_of_length_eq_zero (by omega)
   exact EndOk.now rfl rfl ⟨by rw [if_pos (by omega), if_pos h0]; rfl, rfl, rfl⟩
theorem spec50 (hsm : sm 50 = none) (hsm104 : sm 104 = none) (H : Hp) (nx : Nat) (hH : HB H nx) (a : Option Addr) (l : List UInt8) (c : Nat) (ha : BS H a l) (hl : l.length ≤ 536870912) : FnOk (envS sm) 50 [.slice a l.length c] H nx (fun v H' nx' => ∃ r b, v = .pointer (some ⟨r, 0, none⟩) ∧ nx ≤ r ∧ RR H' r b l 0 ∧ nx ≤ b ∧ HSub H H' ∧ HB H' nx' ∧ nx ≤ nx') (fun _ _ _ => False) := by
 refine FnOk.of (fn := Tryz.f50) hsm rfl rfl rfl ?_
 refine WC.seqR (xs := [om 2 (.v (.pointer none))]) (by kernel_rfl) ?_
 refine WS.mv rfl rfl ?_
 refine WS.nil ?_
 refine WC.seqR (xs := [om 3 (.t 0),
   oq 4 (.call (.v (.func (.func 104) #[] #[])) [(.t 3)]),
   oq 5 (.p (.bld [(0, 1, (.t 4))] [(.slice none 0 0), (.int .i64 0), (.int .i64 0)])),
   oq 6 (.m (.box 128 (.t 5))),
   om 2 (.t 6)]) (by kernel_rfl) ?_
 refine WS.mv rfl rfl ?_
 refine WS.c (One.call rfl rfl (spec104 hsm104 _ _ hH a l c ha hl) rfl ?_ (fun _ _ _ h => h.elim))
 rintro _ H2 n2 ⟨rfl, hc2, hS2, hB2, hn2⟩
 refine WS.c (One.bld (cs := [.slice (some ⟨nx, 0, none⟩) l.length l.length, .int .i64 0, .int .i64 0]) rfl rfl ?_)
 refine WS.c (One.box rfl rfl rfl ?_)
 refine WS.mv rfl rfl ?_
 refine WS.nil ?_
 refine WC.ret ?_
 exact EndOk.now rfl rfl ⟨n2, nx, rfl, by omega, ⟨l, 0, upd_eq, (upd_ne (by omega)).trans hc2, by omega, by omega, List.drop_zero, hl⟩, Nat.le_refl _, HSub.new hH (by omega) hS2, hB2.new, by omega⟩
abbrev RS := List UInt8 × Nat
def gV (s : RS) (w : Nat) : Nat := leV (rawO s.1 s.2 w)
def gS (s : RS) (w : Nat) : RS := (rawR s.1 s.2 w, rawE s.1 s.2 w)
def shV (s : RS) (m : Nat) : List UInt8 := shO s.1 s.2 m
def shS (s : RS) (m : Nat) : RS := (shR s.1 s.2 m, shE s.1 s.2 m)
def raV (s : RS) (n : Nat) : List UInt8 := rawO s.1 s.2 n
def raS (s : RS) (n : Nat) : RS := (rawR s.1 s.2 n, rawE s.1 s.2 n)
theorem rawO_len (l : List UInt8) (e n : Nat) : (rawO l e n).length ≤ n := by
 unfold rawO
 repeat' split
 ·rw [List.length_take]; omega
 ·simp
 ·simp
theorem gV1 (s : RS) : gV s 1 < 256 := by
 have h1 := leV_lt (rawO s.1 s.2 1)
 have h2 : 256 ^ (rawO s.1 s.2 1).length ≤ 256 ^ 1 := Nat.pow_le_pow_right (by decide) (rawO_len _ _ _)
 unfold gV; omega
theorem gV2 (s : RS) : gV s 2 < 65536 := by
 have h1 := leV_lt (rawO s.1 s.2 2)
 have h2 : 256 ^ (rawO s.1 s.2 2).length ≤ 256 ^ 2 := Nat.pow_le_pow_right (by decide) (rawO_len _ _ _)
 unfold gV; omega
theorem gV4 (s : RS) : gV s 4 < 4294967296 := by
 have h1 := leV_lt (rawO s.1 s.2 4)
 have h2 : 256 ^ (rawO s.1 s.2 4).length ≤ 256 ^ 4 := Nat.pow_le_pow_right (by decide) (rawO_len _ _ _)
 unfold gV; omega
end Go.Proofs
end
