/-
  Part of the proof of StreamReadsUptoSaid: The program reads numbers.
-/
import Derived.Test.YtgidhbelekicbaaGreatSe
set_option linter.unusedVariables false
namespace Go.Proofs
open Go.Eng
variable {sm : Nat → Option (List Value → St → Option (Value × St))}
theorem Arm.mono {E : Env} {g : FuncId} {args : List Value} {v : Value} {H : Hp} {nx : Nat} {Q Q' : Hp → Nat → Prop} (h : Arm E g args v H nx Q) (hq : ∀ H nx, Q H nx → Q' H nx) : Arm E g args v H nx Q' := by
 obtain ⟨fg, h1, h2⟩ := h
 refine ⟨fg, h1, fun s hS => ?_⟩
 obtain ⟨N, s', h3, H', nx', h4, h5⟩ := h2 s hS
 exact ⟨N, s', h3, H', nx', h4, hq _ _ h5⟩
theorem p256 (i : Nat) : (2 : Nat) ^ (8 * i) = 256 ^ i := by rw [Nat.pow_mul]
theorem sh8 {b i : Nat} (hb : b < 256) (hi : i < 8) : (bif true then shiftI .shl .u64 (b : Int) (8 * (i : Int)) else shiftI .shr .u64 (b : Int) (8 * (i : Int))) = some (.int .u64 ((b * 256 ^ i : Nat) : Int)) := by
 rw [show (8 : Int) * (i : Int) = ((8 * i : Nat) : Int) by omega, sh_l rfl (by show 8 * i ≤ 64; omega), p256]
 congr 2
 refine wrap_u rfl ?_
 have h1 : 256 ^ i ≤ 256 ^ 7 := Nat.pow_le_pow_right (by decide) (by omega)
 have h2 : b * 256 ^ i ≤ 255 * 256 ^ 7 := Nat.mul_le_mul (by omega) h1
 exact Nat.lt_of_le_of_lt h2 (by decide +kernel)
theorem or8 {con : Bool} {x b i : Nat} (hx : x < 256 ^ i) (hb : b < 256) (hi : i < 8) : rBinV .or .other con (.int .u64 (x : Int)) (.int .u64 ((b * 256 ^ i : Nat) : Int)) = some (.int .u64 ((x + b * 256 ^ i : Nat) : Int)) := by
 have h1 : 256 ^ i ≤ 256 ^ 7 := Nat.pow_le_pow_right (by decide) (by omega)
 have h2 : b * 256 ^ i ≤ 255 * 256 ^ 7 := Nat.mul_le_mul (by omega) h1
 rw [bin_or rfl (Nat.lt_of_lt_of_le hx (Nat.le_trans h1 (by decide +kernel))) (Nat.lt_of_le_of_lt h2 (by decide +kernel))]
 have h3 := Nat.two_pow_add_eq_or_of_lt (i := 8 * i) (b := x) (by rw [p256]; exact hx) b
 rw [p256] at h3
 rw [Nat.or_comm, Nat.mul_comm b, ← h3, Nat.add_comm]
theorem leV_append : ∀ (l : List UInt8) (b : UInt8), leV (l ++ [b]) = leV l + b.toNat * 256 ^ l.length
 | [], b => by simp [leV]
 | a :: l, b => by
  have h := leV_append l b
  simp only [List.cons_append, leV, h, List.length_cons, Nat.pow_succ]
  rw [Nat.mul_add, Nat.add_assoc, Nat.mul_comm (256 ^ l.length) 256, ← Nat.mul_assoc b.toNat, Nat.mul_comm b.toNat 256, Nat.mul_assoc]
theorem leV_take {l : List UInt8} {i : Nat} (h : i < l.length) : leV (l.take (i + 1)) = leV (l.take i) + (l[i]).toNat * 256 ^ i := by
 rw [take_snoc h, leV_append, List.length_take, Nat.min_eq_left (by omega)]
theorem leV_tlt (l : List UInt8) {i : Nat} (h : i ≤ l.length) : leV (l.take i) < 256 ^ i := by
 have := leV_lt (l.take i)
 rw [List.length_take, Nat.min_eq_left h] at this; exact this
theorem spec97 (hsm : sm 97 = none) (hsm98 : sm 98 = none) (hsm93 : sm 93 = none) (hsm161 : sm 161 = none) (H : Hp) (nx r b e cb : Nat) (rest : List UInt8) (hR : WR H r b rest e) (hcb : H cb = some (.cells [.pointer (some ⟨r, 0, none⟩)] 108 0)) (hH : HB H nx) : FnOk (envS sm) 97 [.pointer (some ⟨cb, 0, none⟩)] H nx (fun v H' nx' => 1 ≤ rest.length ∧ v = .int .u8 (leV (rest.take 1) : Nat) ∧ WR H' r b (rest.drop 1) e ∧ HSub (del H r) H' ∧ HB H' nx' ∧ nx ≤ nx') (fun v H' nx' => rest.length < 1 ∧ v = .iface 31 (.int .i64 ((2 : Nat) : Int)) ∧ H = H' ∧ nx = nx') := by
 refine FnOk.of (fn := Tryz.f97) hsm rfl rfl rfl ?_
 refine WC.seqR (xs := [om 1 (.v (.int .u8 0))]) (by kernel_rfl) ?_
 refine WS.mv rfl rfl ?_
 refine WS.nil ?_
 refine WC.seqT (l := [oq 5 (.l (.ld none (.t 0))),
   oq 6 (.call (.v (.func (.func 98) #[] #[])) []),
   oq 7 (.call (.v (.func (.func 93) #[] #[])) [(.t 5), (.t 6)]),
   om 2 (.t 7)]) (ws := [(0, 1), (0, 1), (1, 2), (2, 2)]) (xs := [(oq 5 (.l (.ld none (.t 0))), [0]),
   (oq 6 (.call (.v (.func (.func 98) #[] #[])) []), []),
   (oq 7 (.call (.v (.func (.func 93) #[] #[])) [(.t 5), (.t 6)]), [5, 6]),
   (om 2 (.t 7), [7])]) (by kernel_rfl) (by kernel_rfl) ?_
 refine WD.r (One.ld rfl (ld_of hcb rfl) rfl ⟨_, rfl, ?_⟩)
 refine WD.l rfl (One.call rfl rfl (spec98 hsm98 _ _) rfl ?_ (fun _ _ _ h => h.elim))
 rintro _ _ _ ⟨rfl, rfl, rfl⟩
 refine ⟨rfl, ?_⟩
 refine WD.l rfl (One.call rfl rfl (spec93 hsm93 hsm161 _ _ r b e 1 rest hR hH (by omega)) rfl ?_ (fun _ _ _ h => ⟨⟨⟨veq_ptr _ _ _, ld_of hcb rfl, ld_of hcb rfl, trivial⟩, trivial⟩, rfl, .inl ⟨rfl, h⟩⟩))
 rintro v2 H2 n2 ⟨hle, hg, hR2, hS2, hB2, hn2⟩
 obtain ⟨q, hqe⟩ : ∃ q, q = rest.take 1 := ⟨_, rfl⟩
 have hq : q.length = 1 := by rw [hqe, List.length_take]; omega
 rw [← hqe] at hg
 have hg' : GS H2 v2 q.length (strCells q) 5 1 nx n2 := by rw [hq]; exact hg
 obtain ⟨a2, c2, rfl, hBo⟩ := hg'.bs
 refine ⟨rfl, ?_⟩
 refine WD.q rfl (One.mv rfl rfl ⟨rfl, ?_⟩)
 refine WD.nil (⟨⟨veq_ptr _ _ _, ld_of hcb rfl, ld_of hcb rfl, trivial⟩, trivial⟩) ?_
 refine WC.seqR (xs := [om 3 (.v (.int .u64 0))]) (by kernel_rfl) ?_
 refine WS.mv rfl rfl ?_
 refine WS.nil ?_
 refine WC.seq ?_
 refine WC.seqR (xs := [om 8 (.t 2),
   oq 9 (.p (.len (.t 8))),
   om 10 (.v (.int .i64 0))]) (by kernel_rfl) ?_
 refine WS.mv rfl rfl ?_
 refine WS.c (One.len rfl rfl ?_)
 refine WS.mv rfl rfl ?_
 refine WS.nil ?_
 refine WC.block ?_
 refine WC.loop (fun m env ds H' nx' => ∃ (i x : Nat), m = q.length - i ∧ SubE [(2, .slice a2 q.length c2), (3, .int .u64 (x : Int)), (9, .int .i64 (q.length : Int)), (10, .int .i64 (i : Int))] env ∧ ds = [] ∧ i ≤ q.length ∧ x = leV (q.take i) ∧ H2 = H' ∧ n2 = nx') (fun m env ds H' nx' hI => ?_) (m := q.length) (⟨0, 0, by omega, (by repeat (first | exact SubE.nil _ | refine SubE.cons rfl ?_)), rfl, Nat.zero_le _, rfl, rfl, rfl⟩)
 obtain ⟨i, x, rfl, hsub, rfl, hi, hx, rfl, rfl⟩ := hI
 refine WC.weak (env' := [(2, .slice a2 q.length c2), (3, .int .u64 (x : Int)), (9, .int .i64 (q.length : Int)), (10, .int .i64 (i : Int))]) ?_ hsub (fun _ _ h => h)
 refine WC.seqR (xs := [oq 11 (.p (.bin .lss .other false (.t 10) (.t 9)))]) (by kernel_rfl) ?_
 refine WS.c (One.bin rfl rfl bin_lss rfl ?_)
 refine WS.nil ?_
 refine WC.seq ?_
 refine WC.cond rfl (fun hc1 => ?_) (fun hc1 => ?_)
 ·obtain ⟨b1, o1, rfl, hr1⟩ := hBo.el (i := i) (by omega)
  refine WC.skip ?_
  refine WC.seq ?_
  refine WC.block ?_
  refine WC.seqR (xs := [om 12 (.t 10),
    om 4 (.t 12)]) (by kernel_rfl) ?_
  refine WS.mv rfl rfl ?_
  refine WS.mv rfl rfl ?_
  refine WS.nil ?_
  refine WC.region (xs := [om 13 (.t 3),
    om 14 (.t 2),
    om 15 (.t 4),
    oq 16 (.p (.iaS 1 (.t 14) (.t 15))),
    oq 17 (.l (.ld none (.t 16))),
    oq 18 (.p (.cvI .u64 (.t 17))),
    om 19 (.t 4),
    oq 20 (.p (.bin .mul .other true (.v (.int .i64 8)) (.t 19))),
    oq 21 (.p (.sh true (.t 18) (.t 20))),
    oq 22 (.p (.bin .or .other false (.t 13) (.t 21))),
    om 3 (.t 22)]) (by kernel_rfl) ?_
  refine WS.mv rfl rfl ?_
  refine WS.mv rfl rfl ?_
  refine WS.mv rfl rfl ?_
  refine WS.c (One.iaS rfl rfl rfl (by omega) rfl ?_)
  refine WS.c (One.ld rfl hr1 rfl ?_)
  refine WS.c (One.cvI rfl (wrap_u rfl (Nat.lt_trans (q[i]).toNat_lt (by decide))) rfl ?_)
  refine WS.mv rfl rfl ?_
  refine WS.c (One.bin rfl rfl (bin_mul64 (by omega) (by omega)) rfl ?_)
  refine WS.c (One.sh rfl rfl (sh8 (q[i]).toNat_lt (by omega)) rfl ?_)
  refine WS.c (One.bin rfl rfl (or8 (hx ▸ leV_tlt q (by omega)) (q[i]).toNat_lt (by omega)) rfl ?_)
  refine WS.mv rfl rfl ?_
  refine WS.nil ?_
  refine WC.region (xs := [oq 23 (.p (.bin .add .other true (.t 10) (.v (.int .i64 1)))),
    om 10 (.t 23)]) (by kernel_rfl) ?_
  refine WS.c (One.bin rfl rfl (bin_add64 (by omega) (by omega)) rfl ?_)
  refine WS.mv rfl rfl ?_
  refine WS.nil ?_
  refine ⟨_, ?_, i + 1, _, rfl, (by repeat (first | exact SubE.nil _ | refine SubE.cons rfl ?_)), rfl, by omega, ?_, rfl, rfl⟩
  ·omega
  ·rw [leV_take (by omega), hx]
 ·have hi2 : i = q.length := by omega
  rw [hi2, List.take_length] at hx
  subst hx
  have hv : leV q < 2 ^ IntKind.u8.bits := by
   have := leV_lt q
   rw [hq] at this; exact this
  refine WC.exit ?_
  refine WC.seqR (xs := [om 24 (.t 3),
    oq 25 (.p (.cvI .u8 (.t 24))),
    om 1 (.t 25)]) (by kernel_rfl) ?_
  refine WS.mv rfl rfl ?_
  refine WS.c (One.cvI rfl (wrap_u rfl hv) rfl ?_)
  refine WS.mv rfl rfl ?_
  refine WS.nil ?_
  refine WC.ret ?_
  exact EndOk.now rfl rfl ⟨hle, by rw [← hqe]; rfl, hR2, hS2, hB2, hn2⟩
theorem spec238 (hsm : sm 238 = none) (hsm227 : sm 227 = none) (hsm93 : sm 93 = none) (hsm161 : sm 161 = none) (H : Hp) (nx r b e cb : Nat) (rest : List UInt8) (hR : WR H r b rest e) (hcb : H cb = some (.cells [.pointer (some ⟨r, 0, none⟩)] 108 0)) (hH : HB H nx) : FnOk (envS sm) 238 [.pointer (some ⟨cb, 0, none⟩)] H nx (fun v H' nx' => 2 ≤ rest.length ∧ v = .int .u16 (leV (rest.take 2) : Nat) ∧ WR H' r b (rest.drop 2) e ∧ HSub (del H r) H' ∧ HB H' nx' ∧ nx ≤ nx') (fun v H' nx' => rest.length < 2 ∧ v = .iface 31 (.int .i64 ((2 : Nat) : Int)) ∧ H = H' ∧ nx = nx') := by
 refine FnOk.of (fn := Tryz.f238) hsm rfl rfl rfl ?_
 refine WC.seqR (xs := [om 1 (.v (.int .u16 0))]) (by kernel_rfl) ?_
 refine WS.mv rfl rfl ?_
 refine WS.nil ?_
 refine WC.seqT (l := [oq 5 (.l (.ld none (.t 0))),
   oq 6 (.call (.v (.func (.func 227) #[] #[])) []),
   oq 7 (.call (.v (.func (.func 93) #[] #[])) [(.t 5), (.t 6)]),
   om 2 (.t 7)]) (ws := [(0, 1), (0, 1), (1, 2), (2, 2)]) (xs := [(oq 5 (.l (.ld none (.t 0))), [0]),
   (oq 6 (.call (.v (.func (.func 227) #[] #[])) []), []),
   (oq 7 (.call (.v (.func (.func 93) #[] #[])) [(.t 5), (.t 6)]), [5, 6]),
   (om 2 (.t 7), [7])]) (by kernel_rfl) (by kernel_rfl) ?_
 refine WD.r (One.ld rfl (ld_of hcb rfl) rfl ⟨_, rfl, ?_⟩)
 refine WD.l rfl (One.call rfl rfl (spec227 hsm227 _ _) rfl ?_ (fun _ _ _ h => h.elim))
 rintro _ _ _ ⟨rfl, rfl, rfl⟩
 refine ⟨rfl, ?_⟩
 refine WD.l rfl (One.call rfl rfl (spec93 hsm93 hsm161 _ _ r b e 2 rest hR hH (by omega)) rfl ?_ (fun _ _ _ h => ⟨⟨⟨veq_ptr _ _ _, ld_of hcb rfl, ld_of hcb rfl, trivial⟩, trivial⟩, rfl, .inl ⟨rfl, h⟩⟩))
 rintro v2 H2 n2 ⟨hle, hg, hR2, hS2, hB2, hn2⟩
 obtain ⟨q, hqe⟩ : ∃ q, q = rest.take 2 := ⟨_, rfl⟩
 have hq : q.length = 2 := by rw [hqe, List.length_take]; omega
 rw [← hqe] at hg
 have hg' : GS H2 v2 q.length (strCells q) 5 1 nx n2 := by rw [hq]; exact hg
 obtain ⟨a2, c2, rfl, hBo⟩ := hg'.bs
 refine ⟨rfl, ?_⟩
 refine WD.q rfl (One.mv rfl rfl ⟨rfl, ?_⟩)
 refine WD.nil (⟨⟨veq_ptr _ _ _, ld_of hcb rfl, ld_of hcb rfl, trivial⟩, trivial⟩) ?_
 refine WC.seqR (xs := [om 3 (.v (.int .u64 0))]) (by kernel_rfl) ?_
 refine WS.mv rfl rfl ?_
 refine WS.nil ?_
 refine WC.seq ?_
 refine WC.seqR (xs := [om 8 (.t 2),
   oq 9 (.p (.len (.t 8))),
   om 10 (.v (.int .i64 0))]) (by kernel_rfl) ?_
 refine WS.mv rfl rfl ?_
 refine WS.c (One.len rfl rfl ?_)
 refine WS.mv rfl rfl ?_
 refine WS.nil ?_
 refine WC.block ?_
 refine WC.loop (fun m env ds H' nx' => ∃ (i x : Nat), m = q.length - i ∧ SubE [(2, .slice a2 q.length c2), (3, .int .u64 (x : Int)), (9, .int .i64 (q.length : Int)), (10, .int .i64 (i : Int))] env ∧ ds = [] ∧ i ≤ q.length ∧ x = leV (q.take i) ∧ H2 = H' ∧ n2 = nx') (fun m env ds H' nx' hI => ?_) (m := q.length) (⟨0, 0, by omega, (by repeat (first | exact SubE.nil _ | refine SubE.cons rfl ?_)), rfl, Nat.zero_le _, rfl, rfl, rfl⟩)
 obtain ⟨i, x, rfl, hsub, rfl, hi, hx, rfl, rfl⟩ := hI
 refine WC.weak (env' := [(2, .slice a2 q.length c2), (3, .int .u64 (x : Int)), (9, .int .i64 (q.length : Int)), (10, .int .i64 (i : Int))]) ?_ hsub (fun _ _ h => h)
 refine WC.seqR (xs := [oq 11 (.p (.bin .lss .other false (.t 10) (.t 9)))]) (by kernel_rfl) ?_
 refine WS.c (One.bin rfl rfl bin_lss rfl ?_)
 refine WS.nil ?_
 refine WC.seq ?_
 refine WC.cond rfl (fun hc1 => ?_) (fun hc1 => ?_)
 ·obtain ⟨b1, o1, rfl, hr1⟩ := hBo.el (i := i) (by omega)
  refine WC.skip ?_
  refine WC.seq ?_
  refine WC.block ?_
  refine WC.seqR (xs := [om 12 (.t 10),
    om 4 (.t 12)]) (by kernel_rfl) ?_
  refine WS.mv rfl rfl ?_
  refine WS.mv rfl rfl ?_
  refine WS.nil ?_
  refine WC.region (xs := [om 13 (.t 3),
    om 14 (.t 2),
    om 15 (.t 4),
    oq 16 (.p (.iaS 1 (.t 14) (.t 15))),
    oq 17 (.l (.ld none (.t 16))),
    oq 18 (.p (.cvI .u64 (.t 17))),
    om 19 (.t 4),
    oq 20 (.p (.bin .mul .other true (.v (.int .i64 8)) (.t 19))),
    oq 21 (.p (.sh true (.t 18) (.t 20))),
    oq 22 (.p (.bin .or .other false (.t 13) (.t 21))),
    om 3 (.t 22)]) (by kernel_rfl) ?_
  refine WS.mv rfl rfl ?_
  refine WS.mv rfl rfl ?_
  refine WS.mv rfl rfl ?_
  refine WS.c (One.iaS rfl rfl rfl (by omega) rfl ?_)
  refine WS.c (One.ld rfl hr1 rfl ?_)
  refine WS.c (One.cvI rfl (wrap_u rfl (Nat.lt_trans (q[i]).toNat_lt (by decide))) rfl ?_)
  refine WS.mv rfl rfl ?_
  refine WS.c (One.bin rfl rfl (bin_mul64 (by omega) (by omega)) rfl ?_)
  refine WS.c (One.sh rfl rfl (sh8 (q[i]).toNat_lt (by omega)) rfl ?_)
  refine WS.c (One.bin rfl rfl (or8 (hx ▸ leV_tlt q (by omega)) (q[i]).toNat_lt (by omega)) rfl ?_)
  refine WS.mv rfl rfl ?_
  refine WS.nil ?_
  refine WC.region (xs := [oq 23 (.p (.bin .add .other true (.t 10) (.v (.int .i64 1)))),
    om 10 (.t 23)]) (by kernel_rfl) ?_
  refine WS.c (One.bin rfl rfl (bin_add64 (by omega) (by omega)) rfl ?_)
  refine WS.mv rfl rfl ?_
  refine WS.nil ?_
  refine ⟨_, ?_, i + 1, _, rfl, (by repeat (first | exact SubE.nil _ | refine SubE.cons rfl ?_)), rfl, by omega, ?_, rfl, rfl⟩
  ·omega
  ·rw [leV_take (by omega), hx]
 ·have hi2 : i = q.length := by omega
  rw [hi2, List.take_length] at hx
  subst hx
  have hv : leV q < 2 ^ IntKind.u16.bits := by
   have := leV_lt q
   rw [hq] at this; exact this
  refine WC.exit ?_
  refine WC.seqR (xs := [om 24 (.t 3),
    oq 25 (.p (.cvI .u16 (.t 24))),
    om 1 (.t 25)]) (by kernel_rfl) ?_
  refine WS.mv rfl rfl ?_
  refine WS.c (One.cvI rfl (wrap_u rfl hv) rfl ?_)
  refine WS.mv rfl rfl ?_
  refine WS.nil ?_
  refine WC.ret ?_
  exact EndOk.now rfl rfl ⟨hle, by rw [← hqe]; rfl, hR2, hS2, hB2, hn2⟩
theorem spec92 (hsm : sm 92 = none) (hsm94 : sm 94 = none) (hsm93 : sm 93 = none) (hsm161 : sm 161 = none) (H : Hp) (nx r b e cb : Nat) (rest : List UInt8) (hR : WR H r b rest e) (hcb : H cb = some (.cells [.pointer (some ⟨r, 0, none⟩)] 108 0)) (hH : HB H nx) : FnOk (envS sm) 92 [.pointer (some ⟨cb, 0, none⟩)] H nx (fun v H' nx' => 4 ≤ rest.length ∧ v = .int .u32 (leV (rest.take 4) : Nat) ∧ WR H' r b (rest.drop 4) e ∧ HSub (del H r) H' ∧ HB H' nx' ∧ nx ≤ nx') (fun v H' nx' => rest.length < 4 ∧ v = .iface 31 (.int .i64 ((2 : Nat) : Int)) ∧ H = H' ∧ nx = nx') := by
 refine FnOk.of (fn := Tryz.f92) hsm rfl rfl rfl ?_
 refine WC.seqR (xs := [om 1 (.v (.int .u32 0))]) (by kernel_rfl) ?_
 refine WS.mv rfl rfl ?_
 refine WS.nil ?_
 refine WC.seqT (l := [oq 5 (.l (.ld none (.t 0))),
   oq 6 (.call (.v (.func (.func 94) #[] #[])) []),
   oq 7 (.call (.v (.func (.func 93) #[] #[])) [(.t 5), (.t 6)]),
   om 2 (.t 7)]) (ws := [(0, 1), (0, 1), (1, 2), (2, 2)]) (xs := [(oq 5 (.l (.ld none (.t 0))), [0]),
   (oq 6 (.call (.v (.func (.func 94) #[] #[])) []), []),
   (oq 7 (.call (.v (.func (.func 93) #[] #[])) [(.t 5), (.t 6)]), [5, 6]),
   (om 2 (.t 7), [7])]) (by kernel_rfl) (by kernel_rfl) ?_
 refine WD.r (One.ld rfl (ld_of hcb rfl) rfl ⟨_, rfl, ?_⟩)
 refine WD.l rfl (One.call rfl rfl (spec94 hsm94 _ _) rfl ?_ (fun _ _ _ h => h.elim))
 rintro _ _ _ ⟨rfl, rfl, rfl⟩
 refine ⟨rfl, ?_⟩
 refine WD.l rfl (One.call rfl rfl (spec93 hsm93 hsm161 _ _ r b e 4 rest hR hH (by omega)) rfl ?_ (fun _ _ _ h => ⟨⟨⟨veq_ptr _ _ _, ld_of hcb rfl, ld_of hcb rfl, trivial⟩, trivial⟩, rfl, .inl ⟨rfl, h⟩⟩))
 rintro v2 H2 n2 ⟨hle, hg, hR2, hS2, hB2, hn2⟩
 obtain ⟨q, hqe⟩ : ∃ q, q = rest.take 4 := ⟨_, rfl⟩
 have hq : q.length = 4 := by rw [hqe, List.length_take]; omega
 rw [← hqe] at hg
 have hg' : GS H2 v2 q.length (strCells q) 5 1 nx n2 := by rw [hq]; exact hg
 obtain ⟨a2, c2, rfl, hBo⟩ := hg'.bs
 refine ⟨rfl, ?_⟩
 refine WD.q rfl (One.mv rfl rfl ⟨rfl, ?_⟩)
 refine WD.nil (⟨⟨veq_ptr _ _ _, ld_of hcb rfl, ld_of hcb rfl, trivial⟩, trivial⟩) ?_
 refine WC.seqR (xs := [om 3 (.v (.int .u64 0))]) (by kernel_rfl) ?_
 refine WS.mv rfl rfl ?_
 refine WS.nil ?_
 refine WC.seq ?_
 refine WC.seqR (xs := [om 8 (.t 2),
   oq 9 (.p (.len (.t 8))),
   om 10 (.v (.int .i64 0))]) (by kernel_rfl) ?_
 refine WS.mv rfl rfl ?_
 refine WS.c (One.len rfl rfl ?_)
 refine WS.mv rfl rfl ?_
 refine WS.nil ?_
 refine WC.block ?_
 refine WC.loop (fun m env ds H' nx' => ∃ (i x : Nat), m = q.length - i ∧ SubE [(2, .slice a2 q.length c2), (3, .int .u64 (x : Int)), (9, .int .i64 (q.length : Int)), (10, .int .i64 (i : Int))] env ∧ ds = [] ∧ i ≤ q.length ∧ x = leV (q.take i) ∧ H2 = H' ∧ n2 = nx') (fun m env ds H' nx' hI => ?_) (m := q.length) (⟨0, 0, by omega, (by repeat (first | exact SubE.nil _ | refine SubE.cons rfl ?_)), rfl, Nat.zero_le _, rfl, rfl, rfl⟩)
 obtain ⟨i, x, rfl, hsub, rfl, hi, hx, rfl, rfl⟩ := hI
 refine WC.weak (env' := [(2, .slice a2 q.length c2), (3, .int .u64 (x : Int)), (9, .int .i64 (q.length : Int)), (10, .int .i64 (i : Int))]) ?_ hsub (fun _ _ h => h)
 refine WC.seqR (xs := [oq 11 (.p (.bin .lss .other false (.t 10) (.t 9)))]) (by kernel_rfl) ?_
 refine WS.c (One.bin rfl rfl bin_lss rfl ?_)
 refine WS.nil ?_
 refine WC.seq ?_
 refine WC.cond rfl (fun hc1 => ?_) (fun hc1 => ?_)
 ·obtain ⟨b1, o1, rfl, hr1⟩ := hBo.el (i := i) (by omega)
  refine WC.skip ?_
  refine WC.seq ?_
  refine WC.block ?_
  refine WC.seqR (xs := [om 12 (.t 10),
    om 4 (.t 12)]) (by kernel_rfl) ?_
  refine WS.mv rfl rfl ?_
  refine WS.mv rfl rfl ?_
  refine WS.nil ?_
  refine WC.region (xs := [om 13 (.t 3),
    om 14 (.t 2),
    om 15 (.t 4),
    oq 16 (.p (.iaS 1 (.t 14) (.t 15))),
    oq 17 (.l (.ld none (.t 16))),
    oq 18 (.p (.cvI .u64 (.t 17))),
    om 19 (.t 4),
    oq 20 (.p (.bin .mul .other true (.v (.int .i64 8)) (.t 19))),
    oq 21 (.p (.sh true (.t 18) (.t 20))),
    oq 22 (.p (.bin .or .other false (.t 13) (.t 21))),
    om 3 (.t 22)]) (by kernel_rfl) ?_
  refine WS.mv rfl rfl ?_
  refine WS.mv rfl rfl ?_
  refine WS.mv rfl rfl ?_
  refine WS.c (One.iaS rfl rfl rfl (by omega) rfl ?_)
  refine WS.c (One.ld rfl hr1 rfl ?_)
  refine WS.c (One.cvI rfl (wrap_u rfl (Nat.lt_trans (q[i]).toNat_lt (by decide))) rfl ?_)
  refine WS.mv rfl rfl ?_
  refine WS.c (One.bin rfl rfl (bin_mul64 (by omega) (by omega)) rfl ?_)
  refine WS.c (One.sh rfl rfl (sh8 (q[i]).toNat_lt (by omega)) rfl ?_)
  refine WS.c (One.bin rfl rfl (or8 (hx ▸ leV_tlt q (by omega)) (q[i]).toNat_lt (by omega)) rfl ?_)
  refine WS.mv rfl rfl ?_
  refine WS.nil ?_
  refine WC.region (xs := [oq 23 (.p (.bin .add .other true (.t 10) (.v (.int .i64 1)))),
    om 10 (.t 23)]) (by kernel_rfl) ?_
  refine WS.c (One.bin rfl rfl (bin_add64 (by omega) (by omega)) rfl ?_)
  refine WS.mv rfl rfl ?_
  refine WS.nil ?_
  refine ⟨_, ?_, i + 1, _, rfl, (by repeat (first | exact SubE.nil _ | refine SubE.cons rfl ?_)), rfl, by omega, ?_, rfl, rfl⟩
  ·omega
  ·rw [leV_take (by omega), hx]
 ·have hi2 : i = q.length := by omega
  rw [hi2, List.take_length] at hx
  subst hx
  have hv : leV q < 2 ^ IntKind.u32.bits := by
   have := leV_lt q
   rw [hq] at this; exact this
  refine WC.exit ?_
  refine WC.seqR (xs := [om 24 (.t 3),
    oq 25 (.p (.cvI .u32 (.t 24))),
    om 1 (.t 25)]) (by kernel_rfl) ?_
  refine WS.mv rfl rfl ?_
  refine WS.c (One.cvI rfl (wrap_u rfl hv) rfl ?_)
  refine WS.mv rfl rfl ?_
  refine WS.nil ?_
  refine WC.ret ?_
  exact EndOk.now rfl rfl ⟨hle, by rw [← hqe]; rfl, hR2, hS2, hB2, hn2⟩
theorem spec96 (hsm : sm 96 = none) (hsm163 : sm 163 = none) (hsm97 : sm 97 = none) (hsm98 : sm 98 = none) (hsm93 : sm 93 = none) (hsm161 : sm 161 = none) (H : Hp) (nx r b e cb : Nat) (rest : List UInt8) (hR : WR H r b rest e) (hcb : H cb = some (.cells [.pointer (some ⟨r, 0, none⟩)] 108 0)) (hH : HB H nx) : FnOk (envS sm) 96 [.pointer (some ⟨r, 0, none⟩), .func (.func 97) ⟨[]⟩ ⟨[.pointer (some ⟨cb, 0, none⟩)]⟩] H nx (fun v H' nx' => v = .int .u8 (leV (rawO rest e 1) : Nat) ∧ WR H' r b (rawR rest e 1) (rawE rest e 1) ∧ HSub (del H r) H' ∧ HB H' nx' ∧ nx ≤ nx') (fun _ _ _ => False) := by
 refine FnOk.of (fn := Tryz.f96) hsm rfl rfl rfl ?_
 have hrn := hR.lt hH
 have hbn := hR.ltb hH
 have hSA : HSub H (upd (upd H nx (.cells [.pointer (some ⟨r, 0, none⟩)] 108 0)) (nx + 1) (.cells [.int .u8 0] 5 0)) := HSub.new hH (by omega) (HSub.new hH (Nat.le_refl _) (HSub.refl H))
 have hRA := hR.mono hSA
 have hBA : HB (upd (upd H nx (.cells [.pointer (some ⟨r, 0, none⟩)] 108 0)) (nx + 1) (.cells [.int .u8 0] 5 0)) (nx + 1 + 1) := hH.new.new
 obtain ⟨p0, c0, hro⟩ := hRA.obj
 refine WC.seqR (xs := [oq 2 (.m (.box 108 (.t 0))),
   oq 4 (.m (.alc [(.int .u8 0)] 5))]) (by kernel_rfl) ?_
 refine WS.c (One.box rfl rfl rfl ?_)
 refine WS.c (One.alc rfl ?_)
 refine WS.nil ?_
 refine WC.seq ?_
 refine WC.seqR (xs := [oq 6 (.l (.ld none (.t 2))),
   oq 7 (.p (.nilc (.t 6))),
   oq 8 (.p (.fad (.t 7) 1)),
   oq 9 (.l (.ld none (.t 8))),
   oq 10 (.p (.bin .neq .other true (.t 9) (.v (.int .i64 0))))]) (by kernel_rfl) ?_
 refine WS.c (One.ld rfl (ld_of (cs := [.pointer (some ⟨r, 0, none⟩)]) (o := 0) (e := 108) (el := 0) ((upd_ne (by omega)).trans upd_eq) rfl) rfl ?_)
 refine WS.c (One.nilc rfl rfl ?_)
 refine WS.c (One.fad rfl rfl ?_)
 refine WS.c (One.ld rfl (ld_of hro rfl) rfl ?_)
 refine WS.c (One.bin rfl rfl bin_neq rfl ?_)
 refine WS.nil ?_
 refine WC.cond rfl (fun hc1 => ?_) (fun hc1 => ?_)
 ·refine WC.seqR (xs := [oq 11 (.l (.ld none (.t 4))),
    ⟨none, none, .w (.sto 1 (.t 4) (.t 11))⟩]) (by kernel_rfl) ?_
  refine WS.c (One.ld rfl (by first | exact ld_same rfl | (refine ld_skip (by omega) ?_; exact ld_same rfl) | assumption) rfl ?_)
  refine WS.z (One.sto (cs' := [.int .u8 0]) rfl rfl upd_eq rfl rfl rfl rfl ?_)
  refine WS.nil ?_
  refine WC.ret ?_
  have he : ¬ e = 0 := by omega
  simp only [rawO, rawR, rawE, if_neg he]
  exact EndOk.now rfl (resE_cell rfl (by kernel_rfl) (ld_same rfl) rfl) ⟨rfl, hRA.upd (by omega) (by omega), HSub.new hH.del (by omega) (hSA.delM r), hBA.upd (by omega), by omega⟩
 ·have he : e = 0 := by omega
  subst he
  obtain ⟨bs, p, hr, hb, hbr, hp, rfl, hbs⟩ := hR
  refine WC.skip ?_
  refine WC.seqR (xs := [oq 12 (.l (.ld none (.t 2))),
    oq 13 (.p (.nilc (.t 12))),
    oq 14 (.p (.fad (.t 13) 0)),
    oq 15 (.l (.ld none (.t 14))),
    oq 5 (.m (.alc [(.slice none 0 0)] 22)),
    ⟨none, none, .w (.sto 1 (.t 5) (.t 15))⟩]) (by kernel_rfl) ?_
  refine WS.c (One.ld rfl (ld_of (cs := [.pointer (some ⟨r, 0, none⟩)]) (o := 0) (e := 108) (el := 0) ((upd_ne (by omega)).trans upd_eq) rfl) rfl ?_)
  refine WS.c (One.nilc rfl rfl ?_)
  refine WS.c (One.fad rfl rfl ?_)
  refine WS.c (One.ld rfl (ld_of (hSA _ _ hr) rfl) rfl ?_)
  refine WS.c (One.alc rfl ?_)
  refine WS.z (One.sto (cs' := [.slice (some ⟨b, p, none⟩) (bs.length - p) (big + 1 * qq + (bs.length - p))]) rfl rfl upd_eq rfl rfl rfl rfl ?_)
  refine WS.nil ?_
  refine WC.seqR (xs := [oq 16 (.p (.mkF (.func 163) [] [(.t 5), (.t 4), (.t 2)])),
    ⟨none, none, .dfr (.t 16) []⟩]) (by kernel_rfl) ?_
  refine WS.c (One.mkF rfl rfl rfl ?_)
  refine WS.z (One.dfr rfl rfl rfl ?_)
  refine WS.nil ?_
  refine WC.seqR (xs := [om 17 (.t 1),
    oq 18 (.call (.t 17) []),
    ⟨none, none, .w (.sto 1 (.t 4) (.t 18))⟩]) (by kernel_rfl) ?_
  have hS3 : HSub H (upd (upd (upd (upd H nx (.cells [.pointer (some ⟨r, 0, none⟩)] 108 0)) (nx + 1) (.cells [.int .u8 0] 5 0)) (nx + 1 + 1) (.cells [.slice none 0 0] 22 0)) (nx + 1 + 1) (.cells [.slice (some ⟨b, p, none⟩) (bs.length - p) (big + 1 * qq + (bs.length - p))] 22 0)) := HSub.new hH (by omega) (HSub.new hH (by omega) hSA)
  have hB3 : HB (upd (upd (upd (upd H nx (.cells [.pointer (some ⟨r, 0, none⟩)] 108 0)) (nx + 1) (.cells [.int .u8 0] 5 0)) (nx + 1 + 1) (.cells [.slice none 0 0] 22 0)) (nx + 1 + 1) (.cells [.slice (some ⟨b, p, none⟩) (bs.length - p) (big + 1 * qq + (bs.length - p))] 22 0)) (nx + 1 + 1 + 1) := hBA.new.upd (by omega)
  have hr3 := hS3 _ _ hr
  have hb3 := hS3 _ _ hb
  have hR3 : WR _ r b (bs.drop p) 0 := ⟨bs, p, hr3, hb3, hbr, hp, rfl, hbs⟩
  refine WS.mv rfl rfl ?_
  refine WS.c (One.call rfl rfl (spec97 hsm97 hsm98 hsm93 hsm161 _ _ r b 0 cb _ hR3 (hS3 _ _ hcb) hB3) rfl ?_ (by
   intro v H' nx' h
   obtain ⟨hlt, rfl, rfl, rfl⟩ := h
   refine .inr ⟨163, _, _, rfl, hsm163, Arm.mono (arm163 _ _ (nx + 1 + 1) (nx + 1) nx r b p _ _ 2 _ _ upd_eq (by rw [upd_ne (by omega), upd_ne (by omega)]; exact upd_eq) (by rw [upd_ne (by omega), upd_ne (by omega), upd_ne (by omega)]; exact upd_eq) ⟨_, hr3⟩ (by omega) (by omega) (by omega)) ?_⟩
   rintro H' nx' ⟨rfl, rfl⟩
   refine ⟨_, resE_cell rfl (by kernel_rfl) (ld_skip (by omega) (ld_skip (by omega) (ld_same rfl))) rfl, ?_⟩
   have hn : ¬ 1 ≤ (bs.drop p).length := by omega
   simp only [rawO, rawR, rawE, if_true, if_neg hn]
   exact ⟨rfl, ⟨bs, p, upd_eq, by rw [upd_ne hbr, upd_ne hbr, upd_ne (by omega)]; exact hb3, hbr, hp, rfl, hbs⟩, HSub.delU (HSub.delU (HSub.new hH.del (by omega) (hS3.delM r))), ((hB3.upd (by omega)).upd (by omega)).upd (by omega), by omega⟩))
  rintro _ H5 n5 ⟨hle, rfl, hR5, hS5, hB5, hn5⟩
  have ho5 := del_at hS5 (show _ = some (.cells [.int .u8 0] 5 0) by rw [upd_ne (by omega), upd_ne (by omega)]; exact upd_eq) (show nx + 1 ≠ r by omega)
  refine WS.z (One.sto (cs' := [.int .u8 (leV ((bs.drop p).take 1) : Nat)]) rfl rfl ho5 rfl rfl rfl rfl ?_)
  refine WS.nil ?_
  refine WC.ret ?_
  refine .inr ⟨163, _, _, rfl, hsm163, (spec163 hsm163 _ _ _ _ _).mono ?_ (fun _ _ _ h => h)⟩
  rintro _ _ _ ⟨rfl, rfl⟩
  refine ⟨_, resE_cell rfl (by kernel_rfl) (ld_same rfl) rfl, ?_⟩
  simp only [rawO, rawR, rawE, if_true, if_pos hle]
  exact ⟨rfl, hR5.upd (by omega) (by omega), HSub.new hH.del (by omega) (HSub.delT (hS3.delM r) hS5), hB5.upd (by omega), by omega⟩
theorem spec237 (hsm : sm 237 = none) (hsm318 : sm 318 = none) (hsm238 : sm 238 = none) (hsm227 : sm 227 = none) (hsm93 : sm 93 = none) (hsm161 : sm 161 = none) (H : Hp) (nx r b e cb : Nat) (rest : List UInt8) (hR : WR H r b rest e) (hcb : H cb = some (.cells [.pointer (some ⟨r, 0, none⟩)] 108 0)) (hH : HB H nx) : FnOk (envS sm) 237 [.pointer (some ⟨r, 0, none⟩), .func (.func 238) ⟨[]⟩ ⟨[.pointer (some ⟨cb, 0, none⟩)]⟩] H nx (fun v H' nx' => v = .int .u16 (leV (rawO rest e 2) : Nat) ∧ WR H' r b (rawR rest e 2) (rawE rest e 2) ∧ HSub (del H r) H' ∧ HB H' nx' ∧ nx ≤ nx') (fun _ _ _ => False) := by
 refine FnOk.of (fn := Tryz.f237) hsm rfl rfl rfl ?_
 have hrn := hR.lt hH
 have hbn := hR.ltb hH
 have hSA : HSub H (upd (upd H nx (.cells [.pointer (some ⟨r, 0, none⟩)] 108 0)) (nx + 1) (.cells [.int .u16 0] 233 0)) := HSub.new hH (by omega) (HSub.new hH (Nat.le_refl _) (HSub.refl H))
 have hRA := hR.mono hSA
 have hBA : HB (upd (upd H nx (.cells [.pointer (some ⟨r, 0, none⟩)] 108 0)) (nx + 1) (.cells [.int .u16 0] 233 0)) (nx + 1 + 1) := hH.new.new
 obtain ⟨p0, c0, hro⟩ := hRA.obj
 refine WC.seqR (xs := [oq 2 (.m (.box 108 (.t 0))),
   oq 4 (.m (.alc [(.int .u16 0)] 233))]) (by kernel_rfl) ?_
 refine WS.c (One.box rfl rfl rfl ?_)
 refine WS.c (One.alc rfl ?_)
 refine WS.nil ?_
 refine WC.seq ?_
 refine WC.seqR (xs := [oq 6 (.l (.ld none (.t 2))),
   oq 7 (.p (.nilc (.t 6))),
   oq 8 (.p (.fad (.t 7) 1)),
   oq 9 (.l (.ld none (.t 8))),
   oq 10 (.p (.bin .neq .other true (.t 9) (.v (.int .i64 0))))]) (by kernel_rfl) ?_
 refine WS.c (One.ld rfl (ld_of (cs := [.pointer (some ⟨r, 0, none⟩)]) (o := 0) (e := 108) (el := 0) ((upd_ne (by omega)).trans upd_eq) rfl) rfl ?_)
 refine WS.c (One.nilc rfl rfl ?_)
 refine WS.c (One.fad rfl rfl ?_)
 refine WS.c (One.ld rfl (ld_of hro rfl) rfl ?_)
 refine WS.c (One.bin rfl rfl bin_neq rfl ?_)
 refine WS.nil ?_
 refine WC.cond rfl (fun hc1 => ?_) (fun hc1 => ?_)
 ·refine WC.seqR (xs := [oq 11 (.l (.ld none (.t 4))),
    ⟨none, none, .w (.sto 1 (.t 4) (.t 11))⟩]) (by kernel_rfl) ?_
  refine WS.c (One.ld rfl (by first | exact ld_same rfl | (refine ld_skip (by omega) ?_; exact ld_same rfl) | assumption) rfl ?_)
  refine WS.z (One.sto (cs' := [.int .u16 0]) rfl rfl upd_eq rfl rfl rfl rfl ?_)
  refine WS.nil ?_
  refine WC.ret ?_
  have he : ¬ e = 0 := by omega
  simp only [rawO, rawR, rawE, if_neg he]
  exact EndOk.now rfl (resE_cell rfl (by kernel_rfl) (ld_same rfl) rfl) ⟨rfl, hRA.upd (by omega) (by omega), HSub.new hH.del (by omega) (hSA.delM r), hBA.upd (by omega), by omega⟩
 ·have he : e = 0 := by omega
  subst he
  obtain ⟨bs, p, hr, hb, hbr, hp, rfl, hbs⟩ := hR
  refine WC.skip ?_
  refine WC.seqR (xs := [oq 12 (.l (.ld none (.t 2))),
    oq 13 (.p (.nilc (.t 12))),
    oq 14 (.p (.fad (.t 13) 0)),
    oq 15 (.l (.ld none (.t 14))),
    oq 5 (.m (.alc [(.slice none 0 0)] 22)),
    ⟨none, none, .w (.sto 1 (.t 5) (.t 15))⟩]) (by kernel_rfl) ?_
  refine WS.c (One.ld rfl (ld_of (cs := [.pointer (some ⟨r, 0, none⟩)]) (o := 0) (e := 108) (el := 0) ((upd_ne (by omega)).trans upd_eq) rfl) rfl ?_)
  refine WS.c (One.nilc rfl rfl ?_)
  refine WS.c (One.fad rfl rfl ?_)
  refine WS.c (One.ld rfl (ld_of (hSA _ _ hr) rfl) rfl ?_)
  refine WS.c (One.alc rfl ?_)
  refine WS.z (One.sto (cs' := [.slice (some ⟨b, p, none⟩) (bs.length - p) (big + 1 * qq + (bs.length - p))]) rfl rfl upd_eq rfl rfl rfl rfl ?_)
  refine WS.nil ?_
  refine WC.seqR (xs := [oq 16 (.p (.mkF (.func 318) [] [(.t 5), (.t 4), (.t 2)])),
    ⟨none, none, .dfr (.t 16) []⟩]) (by kernel_rfl) ?_
  refine WS.c (One.mkF rfl rfl rfl ?_)
  refine WS.z (One.dfr rfl rfl rfl ?_)
  refine WS.nil ?_
  refine WC.seqR (xs := [om 17 (.t 1),
    oq 18 (.call (.t 17) []),
    ⟨none, none, .w (.sto 1 (.t 4) (.t 18))⟩]) (by kernel_rfl) ?_
  have hS3 : HSub H (upd (upd (upd (upd H nx (.cells [.pointer (some ⟨r, 0, none⟩)] 108 0)) (nx + 1) (.cells [.int .u16 0] 233 0)) (nx + 1 + 1) (.cells [.slice none 0 0] 22 0)) (nx + 1 + 1) (.cells [.slice (some ⟨b, p, none⟩) (bs.length - p) (big + 1 * qq + (bs.length - p))] 22 0)) := HSub.new hH (by omega) (HSub.new hH (by omega) hSA)
  have hB3 : HB (upd (upd (upd (upd H nx (.cells [.pointer (some ⟨r, 0, none⟩)] 108 0)) (nx + 1) (.cells [.int .u16 0] 233 0)) (nx + 1 + 1) (.cells [.slice none 0 0] 22 0)) (nx + 1 + 1) (.cells [.slice (some ⟨b, p, none⟩) (bs.length - p) (big + 1 * qq + (bs.length - p))] 22 0)) (nx + 1 + 1 + 1) := hBA.new.upd (by omega)
  have hr3 := hS3 _ _ hr
  have hb3 := hS3 _ _ hb
  have hR3 : WR _ r b (bs.drop p) 0 := ⟨bs, p, hr3, hb3, hbr, hp, rfl, hbs⟩
  refine WS.mv rfl rfl ?_
  refine WS.c (One.call rfl rfl (spec238 hsm238 hsm227 hsm93 hsm161 _ _ r b 0 cb _ hR3 (hS3 _ _ hcb) hB3) rfl ?_ (by
   intro v H' nx' h
   obtain ⟨hlt, rfl, rfl, rfl⟩ := h
   refine .inr ⟨318, _, _, rfl, hsm318, Arm.mono (arm318 _ _ (nx + 1 + 1) (nx + 1) nx r b p _ _ 2 _ _ upd_eq (by rw [upd_ne (by omega), upd_ne (by omega)]; exact upd_eq) (by rw [upd_ne (by omega), upd_ne (by omega), upd_ne (by omega)]; exact upd_eq) ⟨_, hr3⟩ (by omega) (by omega) (by omega)) ?_⟩
   rintro H' nx' ⟨rfl, rfl⟩
   refine ⟨_, resE_cell rfl (by kernel_rfl) (ld_skip (by omega) (ld_skip (by omega) (ld_same rfl))) rfl, ?_⟩
   have hn : ¬ 2 ≤ (bs.drop p).length := by omega
   simp only [rawO, rawR, rawE, if_true, if_neg hn]
   exact ⟨rfl, ⟨bs, p, upd_eq, by rw [upd_ne hbr, upd_ne hbr, upd_ne (by omega)]; exact hb3, hbr, hp, rfl, hbs⟩, HSub.delU (HSub.delU (HSub.new hH.del (by omega) (hS3.delM r))), ((hB3.upd (by omega)).upd (by omega)).upd (by omega), by omega⟩))
  rintro _ H5 n5 ⟨hle, rfl, hR5, hS5, hB5, hn5⟩
  have ho5 := del_at hS5 (show _ = some (.cells [.int .u16 0] 233 0) by rw [upd_ne (by omega), upd_ne (by omega)]; exact upd_eq) (show nx + 1 ≠ r by omega)
  refine WS.z (One.sto (cs' := [.int .u16 (leV ((bs.drop p).take 2) : Nat)]) rfl rfl ho5 rfl rfl rfl rfl ?_)
  refine WS.nil ?_
  refine WC.ret ?_
  refine .inr ⟨318, _, _, rfl, hsm318, (spec318 hsm318 _ _ _ _ _).mono ?_ (fun _ _ _ h => h)⟩
  rintro _ _ _ ⟨rfl, rfl⟩
  refine ⟨_, resE_cell rfl (by kernel_rfl) (ld_same rfl) rfl, ?_⟩
  simp only [rawO, rawR, rawE, if_true, if_pos hle]
  exact ⟨rfl, hR5.upd (by omega) (by omega), HSub.new hH.del (by omega) (HSub.delT (hS3.delM r) hS5), hB5.upd (by omega), by omega⟩
theorem spec91 (hsm : sm 91 = none) (hsm160 : sm 160 = none) (hsm92 : sm 92 = none) (hsm94 : sm 94 = none) (hsm93 : sm 93 = none) (hsm161 : sm 161 = none) (H : Hp) (nx r b e cb : Nat) (rest : List UInt8) (hR : WR H r b rest e) (hcb : H cb = some (.cells [.pointer (some ⟨r, 0, none⟩)] 108 0)) (hH : HB H nx) : FnOk (envS sm) 91 [.pointer (some ⟨r, 0, none⟩), .func (.func 92) ⟨[]⟩ ⟨[.pointer (some ⟨cb, 0, none⟩)]⟩] H nx (fun v H' nx' => v = .int .u32 (leV (rawO rest e 4) : Nat) ∧ WR H' r b (rawR rest e 4) (rawE rest e 4) ∧ HSub (del H r) H' ∧ HB H' nx' ∧ nx ≤ nx') (fun _ _ _ => False) := by
 refine FnOk.of (fn := Tryz.f91) hsm rfl rfl rfl ?_
 have hrn := hR.lt hH
 have hbn := hR.ltb hH
 have hSA : HSub H (upd (upd H nx (.cells [.pointer (some ⟨r, 0, none⟩)] 108 0)) (nx + 1) (.cells [.int .u32 0] 26 0)) := HSub.new hH (by omega) (HSub.new hH (Nat.le_refl _) (HSub.refl H))
 have hRA := hR.mono hSA
 have hBA : HB (upd (upd H nx (.cells [.pointer (some ⟨r, 0, none⟩)] 108 0)) (nx + 1) (.cells [.int .u32 0] 26 0)) (nx + 1 + 1) := hH.new.new
 obtain ⟨p0, c0, hro⟩ := hRA.obj
 refine WC.seqR (xs := [oq 2 (.m (.box 108 (.t 0))),
   oq 4 (.m (.alc [(.int .u32 0)] 26))]) (by kernel_rfl) ?_
 refine WS.c (One.box rfl rfl rfl ?_)
 refine WS.c (One.alc rfl ?_)
 refine WS.nil ?_
 refine WC.seq ?_
 refine WC.seqR (xs := [oq 6 (.l (.ld none (.t 2))),
   oq 7 (.p (.nilc (.t 6))),
   oq 8 (.p (.fad (.t 7) 1)),
   oq 9 (.l (.ld none (.t 8))),
   oq 10 (.p (.bin .neq .other true (.t 9) (.v (.int .i64 0))))]) (by kernel_rfl) ?_
 refine WS.c (One.ld rfl (ld_of (cs := [.pointer (some ⟨r, 0, none⟩)]) (o := 0) (e := 108) (el := 0) ((upd_ne (by omega)).trans upd_eq) rfl) rfl ?_)
 refine WS.c (One.nilc rfl rfl ?_)
 refine WS.c (One.fad rfl rfl ?_)
 refine WS.c (One.ld rfl (ld_of hro rfl) rfl ?_)
 refine WS.c (One.bin rfl rfl bin_neq rfl ?_)
 refine WS.nil ?_
 refine WC.cond rfl (fun hc1 => ?_) (fun hc1 => ?_)
 ·refine WC.seqR (xs := [oq 11 (.l (.ld none (.t 4))),
    ⟨none, none, .w (.sto 1 (.t 4) (.t 11))⟩]) (by kernel_rfl) ?_
  refine WS.c (One.ld rfl (by first | exact ld_same rfl | (refine ld_skip (by omega) ?_; exact ld_same rfl) | assumption) rfl ?_)
  refine WS.z (One.sto (cs' := [.int .u32 0]) rfl rfl upd_eq rfl rfl rfl rfl ?_)
  refine WS.nil ?_
  refine WC.ret ?_
  have he : ¬ e = 0 := by omega
  simp only [rawO, rawR, rawE, if_neg he]
  exact EndOk.now rfl (resE_cell rfl (by kernel_rfl) (ld_same rfl) rfl) ⟨rfl, hRA.upd (by omega) (by omega), HSub.new hH.del (by omega) (hSA.delM r), hBA.upd (by omega), by omega⟩
 ·have he : e = 0 := by omega
  subst he
  obtain ⟨bs, p, hr, hb, hbr, hp, rfl, hbs⟩ := hR
  refine WC.skip ?_
  refine WC.seqR (xs := [oq 12 (.l (.ld none (.t 2))),
    oq 13 (.p (.nilc (.t 12))),
    oq 14 (.p (.fad (.t 13) 0)),
    oq 15 (.l (.ld none (.t 14))),
    oq 5 (.m (.alc [(.slice none 0 0)] 22)),
    ⟨none, none, .w (.sto 1 (.t 5) (.t 15))⟩]) (by kernel_rfl) ?_
  refine WS.c (One.ld rfl (ld_of (cs := [.pointer (some ⟨r, 0, none⟩)]) (o := 0) (e := 108) (el := 0) ((upd_ne (by omega)).trans upd_eq) rfl) rfl ?_)
  refine WS.c (One.nilc rfl rfl ?_)
  refine WS.c (One.fad rfl rfl ?_)
  refine WS.c (One.ld rfl (ld_of (hSA _ _ hr) rfl) rfl ?_)
  refine WS.c (One.alc rfl ?_)
  refine WS.z (One.sto (cs' := [.slice (some ⟨b, p, none⟩) (bs.length - p) (big + 1 * qq + (bs.length - p))]) rfl rfl upd_eq rfl rfl rfl rfl ?_)
  refine WS.nil ?_
  refine WC.seqR (xs := [oq 16 (.p (.mkF (.func 160) [] [(.t 5), (.t 4), (.t 2)])),
    ⟨none, none, .dfr (.t 16) []⟩]) (by kernel_rfl) ?_
  refine WS.c (One.mkF rfl rfl rfl ?_)
  refine WS.z (One.dfr rfl rfl rfl ?_)
  refine WS.nil ?_
  refine WC.seqR (xs := [om 17 (.t 1),
    oq 18 (.call (.t 17) []),
    ⟨none, none, .w (.sto 1 (.t 4) (.t 18))⟩]) (by kernel_rfl) ?_
  have hS3 : HSub H (upd (upd (upd (upd H nx (.cells [.pointer (some ⟨r, 0, none⟩)] 108 0)) (nx + 1) (.cells [.int .u32 0] 26 0)) (nx + 1 + 1) (.cells [.slice none 0 0] 22 0)) (nx + 1 + 1) (.cells [.slice (some ⟨b, p, none⟩) (bs.length - p) (big + 1 * qq + (bs.length - p))] 22 0)) := HSub.new hH (by omega) (HSub.new hH (by omega) hSA)
  have hB3 : HB (upd (upd (upd (upd H nx (.cells [.pointer (some ⟨r, 0, none⟩)] 108 0)) (nx + 1) (.cells [.int .u32 0] 26 0)) (nx + 1 + 1) (.cells [.slice none 0 0] 22 0)) (nx + 1 + 1) (.cells [.slice (some ⟨b, p, none⟩) (bs.length - p) (big + 1 * qq + (bs.length - p))] 22 0)) (nx + 1 + 1 + 1) := hBA.new.upd (by omega)
  have hr3 := hS3 _ _ hr
  have hb3 := hS3 _ _ hb
  have hR3 : WR _ r b (bs.drop p) 0 := ⟨bs, p, hr3, hb3, hbr, hp, rfl, hbs⟩
  refine WS.mv rfl rfl ?_
  refine WS.c (One.call rfl rfl (spec92 hsm92 hsm94 hsm93 hsm161 _ _ r b 0 cb _ hR3 (hS3 _ _ hcb) hB3) rfl ?_ (by
   intro v H' nx' h
   obtain ⟨hlt, rfl, rfl, rfl⟩ := h
   refine .inr ⟨160, _, _, rfl, hsm160, Arm.mono (arm160 _ _ (nx + 1 + 1) (nx + 1) nx r b p _ _ 2 _ _ upd_eq (by rw [upd_ne (by omega), upd_ne (by omega)]; exact upd_eq) (by rw [upd_ne (by omega), upd_ne (by omega), upd_ne (by omega)]; exact upd_eq) ⟨_, hr3⟩ (by omega) (by omega) (by omega)) ?_⟩
   rintro H' nx' ⟨rfl, rfl⟩
   refine ⟨_, resE_cell rfl (by kernel_rfl) (ld_skip (by omega) (ld_skip (by omega) (ld_same rfl))) rfl, ?_⟩
   have hn : ¬ 4 ≤ (bs.drop p).length := by omega
   simp only [rawO, rawR, rawE, if_true, if_neg hn]
   exact ⟨rfl, ⟨bs, p, upd_eq, by rw [upd_ne hbr, upd_ne hbr, upd_ne (by omega)]; exact hb3, hbr, hp, rfl, hbs⟩, HSub.delU (HSub.delU (HSub.new hH.del (by omega) (hS3.delM r))), ((hB3.upd (by omega)).upd (by omega)).upd (by omega), by omega⟩))
  rintro _ H5 n5 ⟨hle, rfl, hR5, hS5, hB5, hn5⟩
  have ho5 := del_at hS5 (show _ = some (.cells [.int .u32 0] 26 0) by rw [upd_ne (by omega), upd_ne (by omega)]; exact upd_eq) (show nx + 1 ≠ r by omega)
  refine WS.z (One.sto (cs' := [.int .u32 (leV ((bs.drop p).take 4) : Nat)]) rfl rfl ho5 rfl rfl rfl rfl ?_)
  refine WS.nil ?_
  refine WC.ret ?_
  refine .inr ⟨160, _, _, rfl, hsm160, (spec160 hsm160 _ _ _ _ _).mono ?_ (fun _ _ _ h => h)⟩
  rintro _ _ _ ⟨rfl, rfl⟩
  refine ⟨_, resE_cell rfl (by kernel_rfl) (ld_same rfl) rfl, ?_⟩
  simp only [rawO, rawR, rawE, if_true, if_pos hle]
  exact ⟨rfl, hR5.upd (by omega) (by omega), HSub.new hH.del (by omega) (HSub.delT (hS3.delM r) hS5), hB5.upd (by omega), by omega⟩
theorem spec44 (hsm : sm 44 = none) (hsm96 : sm 96 = none) (hsm163 : sm 163 = none) (hsm97 : sm 97 = none) (hsm98 : sm 98 = none) (hsm93 : sm 93 = none) (hsm161 : sm 161 = none) (H : Hp) (nx r b e : Nat) (rest : List UInt8) (hR : WR H r b rest e) (hH : HB H nx) : FnOk (envS sm) 44 [.pointer (some ⟨r, 0, none⟩)] H nx (fun v H' nx' => v = .int .u8 (leV (rawO rest e 1) : Nat) ∧ WR H' r b (rawR rest e 1) (rawE rest e 1) ∧ HSub (del H r) H' ∧ HB H' nx' ∧ nx ≤ nx') (fun _ _ _ => False) := by
 refine FnOk.of (fn := Tryz.f44) hsm rfl rfl rfl ?_
 have hrn := hR.lt hH
 have hbn := hR.ltb hH
 refine WC.seqR (xs := [oq 1 (.m (.box 108 (.t 0))),
   om 2 (.v (.int .u8 0))]) (by kernel_rfl) ?_
 refine WS.c (One.box rfl rfl rfl ?_)
 refine WS.mv rfl rfl ?_
 refine WS.nil ?_
 refine WC.seqR (xs := [oq 3 (.l (.ld none (.t 1))),
   oq 4 (.p (.mkF (.func 97) [] [(.t 1)])),
   oq 5 (.call (.v (.func (.func 96) #[] #[])) [(.t 3), (.t 4)]),
   om 2 (.t 5)]) (by kernel_rfl) ?_
 refine WS.c (One.ld rfl (by first | exact ld_same rfl | (refine ld_skip (by omega) ?_; exact ld_same rfl) | assumption) rfl ?_)
 refine WS.c (One.mkF rfl rfl rfl ?_)
 refine WS.c (One.call rfl rfl (spec96 hsm96 hsm163 hsm97 hsm98 hsm93 hsm161 _ _ r b e nx rest (hR.upd (by omega) (by omega)) upd_eq hH.new) rfl ?_ (fun _ _ _ h => h.elim))
 rintro _ H2 n2 ⟨rfl, hR2, hS2, hB2, hn2⟩
 refine WS.mv rfl rfl ?_
 refine WS.nil ?_
 refine WC.ret ?_
 exact EndOk.now rfl rfl ⟨rfl, hR2, HSub.delT (HSub.new hH.del (Nat.le_refl _) (HSub.delL H r)) hS2, hB2, by omega⟩
theorem spec166 (hsm : sm 166 = none) (hsm237 : sm 237 = none) (hsm318 : sm 318 = none) (hsm238 : sm 238 = none) (hsm227 : sm 227 = none) (hsm93 : sm 93 = none) (hsm161 : sm 161 = none) (H : Hp) (nx r b e : Nat) (rest : List UInt8) (hR : WR H r b rest e) (hH : HB H nx) : FnOk (envS sm) 166 [.pointer (some ⟨r, 0, none⟩)] H nx (fun v H' nx' => v = .int .u16 (leV (rawO rest e 2) : Nat) ∧ WR H' r b (rawR rest e 2) (rawE rest e 2) ∧ HSub (del H r) H' ∧ HB H' nx' ∧ nx ≤ nx') (fun _ _ _ => False) := by
 refine FnOk.of (fn := Tryz.f166) hsm rfl rfl rfl ?_
 have hrn := hR.lt hH
 have hbn := hR.ltb hH
 refine WC.seqR (xs := [oq 1 (.m (.box 108 (.t 0))),
   om 2 (.v (.int .u16 0))]) (by kernel_rfl) ?_
 refine WS.c (One.box rfl rfl rfl ?_)
 refine WS.mv rfl rfl ?_
 refine WS.nil ?_
 refine WC.seqR (xs := [oq 3 (.l (.ld none (.t 1))),
   oq 4 (.p (.mkF (.func 238) [] [(.t 1)])),
   oq 5 (.call (.v (.func (.func 237) #[] #[])) [(.t 3), (.t 4)]),
   om 2 (.t 5)]) (by kernel_rfl) ?_
 refine WS.c (One.ld rfl (by first | exact ld_same rfl | (refine ld_skip (by omega) ?_; exact ld_same rfl) | assumption) rfl ?_)
 refine WS.c (One.mkF rfl rfl rfl ?_)
 refine WS.c (One.call rfl rfl (spec237 hsm237 hsm318 hsm238 hsm227 hsm93 hsm161 _ _ r b e nx rest (hR.upd (by omega) (by omega)) upd_eq hH.new) rfl ?_ (fun _ _ _ h => h.elim))
 rintro _ H2 n2 ⟨rfl, hR2, hS2, hB2, hn2⟩
 refine WS.mv rfl rfl ?_
 refine WS.nil ?_
 refine WC.ret ?_
 exact EndOk.now rfl rfl ⟨rfl, hR2, HSub.delT (HSub.new hH.del (Nat.le_refl _) (HSub.delL H r)) hS2, hB2, by omega⟩
theorem spec41 (hsm : sm 41 = none) (hsm91 : sm 91 = none) (hsm160 : sm 160 = none) (hsm92 : sm 92 = none) (hsm94 : sm 94 = none) (hsm93 : sm 93 = none) (hsm161 : sm 161 = none) (H : Hp) (nx r b e : Nat) (rest : List UInt8) (hR : WR H r b rest e) (hH : HB H nx) : FnOk (envS sm) 41 [.pointer (some ⟨r, 0, none⟩)] H nx (fun v H' nx' => v = .int .u32 (leV (rawO rest e 4) : Nat) ∧ WR H' r b (rawR rest e 4) (rawE rest e 4) ∧ HSub (del H r) H' ∧ HB H' nx' ∧ nx ≤ nx') (fun _ _ _ => False) := by
 refine FnOk.of (fn := Tryz.f41) hsm rfl rfl rfl ?_
 have hrn := hR.lt hH
 have hbn := hR.ltb hH
 refine WC.seqR (xs := [oq 1 (.m (.box 108 (.t 0))),
   om 2 (.v (.int .u32 0))]) (by kernel_rfl) ?_
 refine WS.c (One.box rfl rfl rfl ?_)
 refine WS.mv rfl rfl ?_
 refine WS.nil ?_
 refine WC.seqR (xs := [oq 3 (.l (.ld none (.t 1))),
   oq 4 (.p (.mkF (.func 92) [] [(.t 1)])),
   oq 5 (.call (.v (.func (.func 91) #[] #[])) [(.t 3), (.t 4)]),
   om 2 (.t 5)]) (by kernel_rfl) ?_
 refine WS.c (One.ld rfl (by first | exact ld_same rfl | (refine ld_skip (by omega) ?_; exact ld_same rfl) | assumption) rfl ?_)
 refine WS.c (One.mkF rfl rfl rfl ?_)
 refine WS.c (One.call rfl rfl (spec91 hsm91 hsm160 hsm92 hsm94 hsm93 hsm161 _ _ r b e nx rest (hR.upd (by omega) (by omega)) upd_eq hH.new) rfl ?_ (fun _ _ _ h => h.elim))
 rintro _ H2 n2 ⟨rfl, hR2, hS2, hB2, hn2⟩
 refine WS.mv rfl rfl ?_
 refine WS.nil ?_
 refine WC.ret ?_
 exact EndOk.now rfl rfl ⟨rfl, hR2, HSub.delT (HSub.new hH.del (Nat.le_refl _) (HSub.delL H r)) hS2, hB2, by omega⟩
end Go.Proofs
