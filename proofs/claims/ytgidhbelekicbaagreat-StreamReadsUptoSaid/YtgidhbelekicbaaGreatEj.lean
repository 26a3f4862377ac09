/-
  Part of the proof of StreamReadsUptoSaid: Slices of bytes; rows apart.
-/
import Derived.Test.YtgidhbelekicbaaGreatEh
import Derived.Test.YtgidhbelekicbaaGreatEf
set_option linter.unusedVariables false
section
namespace Go.Eng
section
variable {tk : TK} {con : Bool} {k : IntKind}
theorem bin_lss {a b : Int} : rBinV .lss tk con (.int k a) (.int k b) = some (.bool (decide (a < b))) := by
 simp only [rBinV, show Nat.beq (kNum k) (kNum k) = true from Nat.beq_refl _, cond_true, arithI, leF_eq]
 congr 2
 by_cases h : a < b <;> simp [h] <;> omega
theorem bin_leq {a b : Int} : rBinV .leq tk con (.int k a) (.int k b) = some (.bool (decide (a ≤ b))) := by
 simp only [rBinV, show Nat.beq (kNum k) (kNum k) = true from Nat.beq_refl _, cond_true, arithI, leF_eq]
theorem bin_gtr {a b : Int} : rBinV .gtr tk con (.int k a) (.int k b) = some (.bool (decide (b < a))) := by
 simp only [rBinV, show Nat.beq (kNum k) (kNum k) = true from Nat.beq_refl _, cond_true, arithI, leF_eq]
 congr 2
 by_cases h : b < a <;> simp [h] <;> omega
theorem bin_geq {a b : Int} : rBinV .geq tk con (.int k a) (.int k b) = some (.bool (decide (b ≤ a))) := by
 simp only [rBinV, show Nat.beq (kNum k) (kNum k) = true from Nat.beq_refl _, cond_true, arithI, leF_eq]
theorem bin_eql {a b : Int} : rBinV .eql tk con (.int k a) (.int k b) = some (.bool (decide (a = b))) := by
 simp only [rBinV, show Nat.beq (kNum k) (kNum k) = true from Nat.beq_refl _, cond_true, arithI, eqF_eq]
theorem bin_neq {a b : Int} : rBinV .neq tk con (.int k a) (.int k b) = some (.bool (decide (a ≠ b))) := by
 simp only [rBinV, show Nat.beq (kNum k) (kNum k) = true from Nat.beq_refl _, cond_true, arithI, eqF_eq]
 congr 2
 by_cases h : a = b <;> simp [h]
theorem wrap_i64 {n : Int} (h1 : -9223372036854775808 ≤ n) (h2 : n ≤ 9223372036854775807) : IntKind.i64.wrap n = n := by
 simp only [IntKind.wrap, IntKind.signed, IntKind.bits]
 simp
 omega
theorem wrap_u {n : Nat} (hk : k.signed = false) (h : n < 2 ^ k.bits) : k.wrap (n : Int) = (n : Int) := by
 rw [IntKind.wrap]
 simp only [hk]
 have : (n : Int) < 2 ^ k.bits := by exact_mod_cast h
 simp
 exact Int.emod_eq_of_lt (by omega) this
theorem wrap_mod_u {n : Nat} (hk : k.signed = false) : k.wrap (n : Int) = ((n % 2 ^ k.bits : Nat) : Int) := by
 rw [IntKind.wrap]
 simp only [hk]
 simp
theorem bin_add64 {a b : Int} (h1 : -9223372036854775808 ≤ a + b) (h2 : a + b ≤ 9223372036854775807) : rBinV .add tk con (.int .i64 a) (.int .i64 b) = some (.int .i64 (a + b)) := by
 simp only [rBinV, show Nat.beq (kNum .i64) (kNum .i64) = true from rfl, cond_true, arithI, wrapF_eq, addF_eq, wrap_i64 h1 h2]
theorem bin_sub64 {a b : Int} (h1 : -9223372036854775808 ≤ a - b) (h2 : a - b ≤ 9223372036854775807) : rBinV .sub tk con (.int .i64 a) (.int .i64 b) = some (.int .i64 (a - b)) := by
 simp only [rBinV, show Nat.beq (kNum .i64) (kNum .i64) = true from rfl, cond_true, arithI, wrapF_eq, subF_eq, wrap_i64 h1 h2]
theorem bin_mul64 {a b : Int} (h1 : -9223372036854775808 ≤ a * b) (h2 : a * b ≤ 9223372036854775807) : rBinV .mul tk con (.int .i64 a) (.int .i64 b) = some (.int .i64 (a * b)) := by
 simp only [rBinV, show Nat.beq (kNum .i64) (kNum .i64) = true from rfl, cond_true, arithI, wrapF_eq, mulF_eq, wrap_i64 h1 h2]
theorem bin_addU {a b : Nat} (hk : k.signed = false) : rBinV .add tk con (.int k (a : Int)) (.int k (b : Int)) = some (.int k (((a + b) % 2 ^ k.bits : Nat) : Int)) := by
 simp only [rBinV, show Nat.beq (kNum k) (kNum k) = true from Nat.beq_refl _, cond_true, arithI, wrapF_eq, addF_eq, ← Int.natCast_add, wrap_mod_u hk]
theorem bin_mulU {a b : Nat} (hk : k.signed = false) : rBinV .mul tk con (.int k (a : Int)) (.int k (b : Int)) = some (.int k (((a * b) % 2 ^ k.bits : Nat) : Int)) := by
 simp only [rBinV, show Nat.beq (kNum k) (kNum k) = true from Nat.beq_refl _, cond_true, arithI, wrapF_eq, mulF_eq, ← Int.natCast_mul, wrap_mod_u hk]
theorem bin_rem {a b : Nat} (hb : 0 < b) : rBinV .rem tk con (.int k (a : Int)) (.int k (b : Int)) = some (.int k ((a % b : Nat) : Int)) := by
 simp only [rBinV, show Nat.beq (kNum k) (kNum k) = true from Nat.beq_refl _, cond_true]
 cases b with
 | zero => omega
 | succ b => rfl
theorem bin_quo {a b : Nat} (hb : 0 < b) (hk : k.signed = false) (ha : a < 2 ^ k.bits) : rBinV .quo tk con (.int k (a : Int)) (.int k (b : Int)) = some (.int k ((a / b : Nat) : Int)) := by
 simp only [rBinV, show Nat.beq (kNum k) (kNum k) = true from Nat.beq_refl _, cond_true]
 cases b with
 | zero => omega
 | succ b =>
  show some (Value.int k (wrapF k (((a / (b + 1) : Nat)) : Int))) = _
  rw [wrapF_eq, wrap_u hk (Nat.lt_of_le_of_lt (Nat.div_le_self _ _) ha)]
theorem bin_xor {a b : Nat} (hk : k.signed = false) (ha : a < 2 ^ k.bits) (hb : b < 2 ^ k.bits) : rBinV .xor tk con (.int k (a : Int)) (.int k (b : Int)) = some (.int k ((a ^^^ b : Nat) : Int)) := by
 simp only [rBinV, show Nat.beq (kNum k) (kNum k) = true from Nat.beq_refl _, cond_true]
 show some (Value.int k (wrapF k ((a ^^^ b : Nat) : Int))) = _
 rw [wrapF_eq, wrap_u hk (Nat.xor_lt_two_pow ha hb)]
theorem bin_and {a b : Nat} (hk : k.signed = false) (ha : a < 2 ^ k.bits) : rBinV .and tk con (.int k (a : Int)) (.int k (b : Int)) = some (.int k ((a &&& b : Nat) : Int)) := by
 simp only [rBinV, show Nat.beq (kNum k) (kNum k) = true from Nat.beq_refl _, cond_true]
 show some (Value.int k (wrapF k ((a &&& b : Nat) : Int))) = _
 rw [wrapF_eq, wrap_u hk (Nat.lt_of_le_of_lt Nat.and_le_left ha)]
theorem bin_or {a b : Nat} (hk : k.signed = false) (ha : a < 2 ^ k.bits) (hb : b < 2 ^ k.bits) : rBinV .or tk con (.int k (a : Int)) (.int k (b : Int)) = some (.int k ((a ||| b : Nat) : Int)) := by
 simp only [rBinV, show Nat.beq (kNum k) (kNum k) = true from Nat.beq_refl _, cond_true]
 show some (Value.int k (wrapF k ((a ||| b : Nat) : Int))) = _
 rw [wrapF_eq, wrap_u hk (Nat.or_lt_two_pow ha hb)]
theorem sh_l {a m : Nat} {l : Bool} (hl : l = true) (hm : m ≤ k.bits) : (bif l then shiftI .shl k (a : Int) (m : Int) else shiftI .shr k (a : Int) (m : Int)) = some (.int k (k.wrap ((a * 2 ^ m : Nat) : Int))) := by
 subst hl
 show (bif Nat.ble m k.bits then some (Value.int k (wrapF k ((a * 2 ^ m : Nat) : Int))) else none) = _
 rw [show Nat.ble m k.bits = true from Nat.ble_eq_true_of_le hm, cond_true, wrapF_eq]
theorem sh_r {a m : Nat} {l : Bool} (hl : l = false) (hm : m ≤ k.bits) : (bif l then shiftI .shl k (a : Int) (m : Int) else shiftI .shr k (a : Int) (m : Int)) = some (.int k ((a / 2 ^ m : Nat) : Int)) := by
 subst hl
 show (bif Nat.ble m k.bits then some (Value.int k ((a / 2 ^ m : Nat) : Int)) else none) = _
 rw [show Nat.ble m k.bits = true from Nat.ble_eq_true_of_le hm, cond_true]
end
section
variable {E : Env} {f n : Nat} {env : TEnv} {ds : List Deferred} {H : Hp} {nx : Nat} {K : TEnv → List Deferred → Hp → Nat → Prop} {P : Value → TEnv → List Deferred → Hp → Nat → Prop} {xs : List RX} {g : Option (Nat × Bool)} {d p : Nat} {o : RO}
theorem WS.c (h : One E f n ⟨g, some (d, p), o⟩ env ds H nx (fun v ds' H' nx' _ => WS E f n xs ((p, v) :: env) ds' H' nx' K P) (fun v H' nx' => P v env ds H' nx')) : WS E f n (⟨g, some (d, p), o⟩ :: xs) env ds H nx K P := WS.cons h
theorem WS.z (h : One E f n ⟨g, none, o⟩ env ds H nx (fun _ ds' H' nx' _ => WS E f n xs env ds' H' nx' K P) (fun v H' nx' => P v env ds H' nx')) : WS E f n (⟨g, none, o⟩ :: xs) env ds H nx K P := WS.cons h
theorem WS.mv {x : RP} {v : Value} (hx : lookO env x = some v) (hd : dOk n (some (d, p)) = true) (hk : WS E f n xs ((p, v) :: env) ds H nx K P) : WS E f n (⟨none, some (d, p), .p (.mv x)⟩ :: xs) env ds H nx K P := WS.c (One.mv hx hd hk)
theorem WS.split {t : Nat} {p : Prop} [Decidable p] (h : look env t = some (.bool (decide p))) (h1 : p → WS E f n xs env ds H nx K P) (h2 : ¬ p → WS E f n xs env ds H nx K P) : WS E f n xs env ds H nx K P := by
 by_cases hp : p
 ·exact h1 hp
 ·exact h2 hp
variable {ops : List Oper} {ws : List (Nat × Nat)} {ys : List (RX × List Nat)} {i : Nat} {G : List Hp} {L : List (Nat × LD × Value)} {KD : TEnv → Hp → Nat → Prop} {PD : Value → Hp → Nat → Prop} {ts : List Nat}
theorem WD.q (hl : o.loud = false) (h : One E f n ⟨g, some (d, p), o⟩ (envR ts env) ds H nx (fun v _ H' nx' rd => rd = none ∧ WD E f n ops ws ys (i + 1) ((p, v) :: env) ds H' nx' G L KD PD)
  (fun v H' nx' => readsE ws G L ∧ lastB ops i = true ∧ PD v H' nx')) : WD E f n ops ws ((⟨g, some (d, p), o⟩, ts) :: ys) i env ds H nx G L KD PD := by
 refine WD.cons fun fr s hf hS => ?_
 obtain ⟨N, ⟨v, ds', H', nx', s', rd, fr', h1, h2, h3, rfl, h5⟩ | h⟩ := h fr s hf hS
 ·exact ⟨N, .inl ⟨v, ds', H', nx', s', none, fr', h1, h2, h3, by simp only [hl, cond_false]; exact h5⟩⟩
 ·exact ⟨N, .inr h⟩
theorem WD.split {t : Nat} {p : Prop} [Decidable p] (_ : look env t = some (.bool (decide p))) (h1 : p → WD E f n ops ws ys i env ds H nx G L KD PD) (h2 : ¬ p → WD E f n ops ws ys i env ds H nx G L KD PD) : WD E f n ops ws ys i env ds H nx G L KD PD := by
 by_cases hp : p
 ·exact h1 hp
 ·exact h2 hp
theorem WD.r (h : One E f n ⟨g, some (d, p), o⟩ (envR ts env) ds H nx (fun v _ H' nx' rd => ∃ ld, rd = some ld ∧ WD E f n ops ws ys (i + 1) ((p, v) :: env) ds H' nx' G ((i, ld, v) :: L) KD PD)
  (fun v H' nx' => readsE ws G L ∧ lastB ops i = true ∧ PD v H' nx')) : WD E f n ops ws ((⟨g, some (d, p), o⟩, ts) :: ys) i env ds H nx G L KD PD := by
 refine WD.cons fun fr s hf hS => ?_
 obtain ⟨N, ⟨v, ds', H', nx', s', rd, fr', h1, h2, h3, ld, rfl, h5⟩ | h⟩ := h fr s hf hS
 ·exact ⟨N, .inl ⟨v, ds', H', nx', s', some ld, fr', h1, h2, h3, rfl, h5⟩⟩
 ·exact ⟨N, .inr h⟩
theorem WD.l {dd : Option (Nat × Nat)} (hl : o.loud = true) (h : One E f n ⟨g, dd, o⟩ (envR ts env) ds H nx (fun v _ H' nx' rd => rd = none ∧ WD E f n ops ws ys (i + 1) (putE dd v env) ds H' nx' (G ++ [H']) L KD PD)
  (fun v H' nx' => readsE ws G L ∧ lastB ops i = true ∧ PD v H' nx')) : WD E f n ops ws ((⟨g, dd, o⟩, ts) :: ys) i env ds H nx G L KD PD := by
 refine WD.cons fun fr s hf hS => ?_
 obtain ⟨N, ⟨v, ds', H', nx', s', rd, fr', h1, h2, h3, rfl, h5⟩ | h⟩ := h fr s hf hS
 ·exact ⟨N, .inl ⟨v, ds', H', nx', s', none, fr', h1, h2, h3, by simp only [hl, cond_true]; exact h5⟩⟩
 ·exact ⟨N, .inr h⟩
end
section
theorem resE_cell {E : Env} {env : TEnv} {H : Hp} {a : Nat} {t : TypeId} {b o : Nat} {g : Option Nat} {v : Value} {r : List ResultVar} {l : List Value} (h1 : look env a = some (.pointer (some ⟨b, o, none⟩))) (h2 : aggT E t = some g) (h3 : ldE H g b o = some v) (h4 : resE E env H r = some l) : resE E env H (.cell a t :: r) = some (v :: l) := by
 simp only [resE, h1, h2, h3, h4]
theorem resE_tmp {E : Env} {env : TEnv} {H : Hp} {a : Nat} {v : Value} {r : List ResultVar} {l : List Value} (h1 : look env a = some v) (h4 : resE E env H r = some l) : resE E env H (.tmp a :: r) = some (v :: l) := by
 simp only [resE, h1, h4]
theorem ld_same {H : Hp} {b o : Nat} {cs : List Value} {e : TypeId} {el : Nat} {v : Value} (h : cs[o]? = some v) : ldE (upd H b (.cells cs e el)) none b o = some v := by
 simp only [ldE, rdC, upd_eq]; exact h
theorem ld_sameA {H : Hp} {b o m : Nat} {cs l : List Value} {e : TypeId} {el : Nat} (hl : o + m ≤ cs.length) (h : (cs.drop o).take m = l) : ldE (upd H b (.cells cs e el)) (some m) b o = some (.agg ⟨l⟩) := by
 simp only [ldE, rdR, upd_eq, if_pos hl, h]
theorem ld_skip {H : Hp} {b b' o : Nat} {x : AO} {g : Option Nat} {v : Value} (hn : b ≠ b') (h : ldE H g b o = some v) : ldE (upd H b' x) g b o = some v := by
 cases g with
 | none => simp only [ldE, rdC, upd_ne hn] at h ⊢; exact h
 | some m => simp only [ldE, rdR, upd_ne hn] at h ⊢; exact h
theorem ld_of {H : Hp} {b o : Nat} {cs : List Value} {e : TypeId} {el : Nat} {v : Value} (hb : H b = some (.cells cs e el)) (h : cs[o]? = some v) : ldE H none b o = some v := by
 simp only [ldE, rdC, hb]; exact h
theorem ld_ofA {H : Hp} {b o m : Nat} {cs l : List Value} {e : TypeId} {el : Nat} (hb : H b = some (.cells cs e el)) (hl : o + m ≤ cs.length) (h : (cs.drop o).take m = l) : ldE H (some m) b o = some (.agg ⟨l⟩) := by
 simp only [ldE, rdR, hb, if_pos hl, h]
end
end Go.Eng
end
section
namespace Go.Eng
def bv (b : UInt8) : Value := .int .u8 (b.toNat : Int)
theorem strCells_map (l : List UInt8) : strCells l = l.map bv := by
 induction l with
 | nil => rfl
 | cons b r ih => simp only [strCells, ih, List.map_cons]; rfl
theorem strCells_len (l : List UInt8) : (strCells l).length = l.length := by rw [strCells_map, List.length_map]
theorem strCells_append (a b : List UInt8) : strCells (a ++ b) = strCells a ++ strCells b := by simp [strCells_map]
theorem strCells_take (l : List UInt8) (n : Nat) : (strCells l).take n = strCells (l.take n) := by simp [strCells_map, List.map_take]
theorem strCells_drop (l : List UInt8) (n : Nat) : (strCells l).drop n = strCells (l.drop n) := by simp [strCells_map, List.map_drop]
theorem strCells_one (l : List UInt8) : (strCells l).all oneCellB = true := by
 rw [strCells_map]; simp [bv, oneCellB]
theorem bytesL_str : ∀ (l : List UInt8), bytesL (strCells l) = some l
 | [] => rfl
 | b :: r => by
  have h := bytesL_str r
  show bytesL (.int .u8 (b.toNat : Int) :: strCells r) = _
  simp only [bytesL, h, Int.toNat_natCast, UInt8.ofNat_toNat]
structure BS (H : Hp) (a : Option Addr) (l : List UInt8) : Prop where
 sp : ∀ a', a = some a' → a'.spot = none
 row : l ≠ [] → ∃ b o cs e el, a = some ⟨b, o, none⟩ ∧ H b = some (.cells cs e el) ∧ o + l.length ≤ cs.length ∧ (cs.drop o).take l.length = strCells l
def AB (a : Option Addr) (nx : Nat) : Prop := ∀ a', a = some a' → a'.block < nx
theorem AB.mono {a : Option Addr} {n m : Nat} (h : AB a n) (hm : n ≤ m) : AB a m := fun a' ha => Nat.lt_of_lt_of_le (h a' ha) hm
theorem AB.nil (n : Nat) : AB none n := fun _ h => by cases h
theorem AB.at {b o n : Nat} (h : b < n) : AB (some ⟨b, o, none⟩) n := fun a' ha => by injection ha with ha; subst ha; exact h
variable {H H' : Hp} {a : Option Addr} {l : List UInt8}
theorem BS.nil (H : Hp) : BS H none [] := ⟨(fun _ h => by cases h), fun h => absurd rfl h⟩
theorem BS.empty (H : Hp) (b o : Nat) : BS H (some ⟨b, o, none⟩) [] := ⟨(fun _ h => by injection h with h; subst h; rfl), fun h => absurd rfl h⟩
theorem BS.of {b o : Nat} {cs : List Value} {e : TypeId} {el : Nat} (hb : H b = some (.cells cs e el)) (hl : o + l.length ≤ cs.length) (h : (cs.drop o).take l.length = strCells l) : BS H (some ⟨b, o, none⟩) l :=
 ⟨(fun _ h => by injection h with h; subst h; rfl), fun _ => ⟨b, o, cs, e, el, rfl, hb, hl, h⟩⟩
theorem BS.whole {b : Nat} {e : TypeId} {el : Nat} (hb : H b = some (.cells (strCells l) e el)) : BS H (some ⟨b, 0, none⟩) l :=
 BS.of hb (by rw [strCells_len]; omega) (by rw [List.drop_zero, ← strCells_len, List.take_length])
theorem BS.frame (h : BS H a l) (hf : ∀ b o, a = some ⟨b, o, none⟩ → H' b = H b) : BS H' a l :=
 ⟨h.sp, fun hl => by
  obtain ⟨b, o, cs, e, el, h1, h2, h3, h4⟩ := h.row hl
  exact ⟨b, o, cs, e, el, h1, by rw [hf b o h1]; exact h2, h3, h4⟩⟩
theorem BS.up (h : BS H a l) {nx b : Nat} {o : AO} (hb : AB a nx) (hn : nx ≤ b) : BS (upd H b o) a l :=
 h.frame fun b' o' ha => upd_ne (by have := hb _ ha; simp only at this; omega)
theorem BS.upne (h : BS H a l) {b : Nat} {o : AO} (hb : ∀ b' o', a = some ⟨b', o', none⟩ → b' ≠ b) : BS (upd H b o) a l :=
 h.frame fun b' o' ha => upd_ne (hb b' o' ha)
theorem BS.dn (h : BS H a l) {b : Nat} (hb : ∀ b' o', a = some ⟨b', o', none⟩ → b' ≠ b) : BS (del H b) a l :=
 h.frame fun b' o' ha => del_ne (hb b' o' ha)
theorem BS.el (h : BS H a l) {i : Nat} (hi : i < l.length) : ∃ b o, a = some ⟨b, o, none⟩ ∧ ldE H none b (o + i * 1) = some (bv l[i]) := by
 obtain ⟨b, o, cs, e, el, h1, h2, h3, h4⟩ := h.row (by intro hn; rw [hn] at hi; exact absurd hi (Nat.not_lt_zero _))
 refine ⟨b, o, h1, ld_of h2 ?_⟩
 have h5 : ((cs.drop o).take l.length)[i]? = (strCells l)[i]? := by rw [h4]
 rw [List.getElem?_take, if_pos hi, List.getElem?_drop, strCells_map, List.getElem?_map, List.getElem?_eq_getElem hi] at h5
 rw [Nat.mul_one]; exact h5
theorem BS.rdR (h : BS H a l) (hl : l ≠ []) {i m : Nat} (hm : i + m ≤ l.length) : ∃ b o, a = some ⟨b, o, none⟩ ∧ rdR H b (o + i) m = some (strCells ((l.drop i).take m)) := by
 obtain ⟨b, o, cs, e, el, h1, h2, h3, h4⟩ := h.row hl
 refine ⟨b, o, h1, ?_⟩
 simp only [Eng.rdR, h2]
 rw [if_pos (by omega)]
 congr 1
 have h5 : (((cs.drop o).take l.length).drop i).take m = (((strCells l)).drop i).take m := by rw [h4]
 rw [strCells_drop, strCells_take, List.drop_take, List.take_take, List.drop_drop] at h5
 rw [← h5, Nat.min_eq_left (by omega)]
theorem BS.src (h : BS H a l) {m c n : Nat} (hm : m ≤ l.length) : srcE H 1 m (.slice a n c) = some (strCells (l.take m)) := by
 by_cases h0 : m = 0
 ·subst h0
  cases a with
  | none => rfl
  | some a =>
   obtain ⟨b, o, sp⟩ := a
   rfl
 ·obtain ⟨b, o, rfl, h2⟩ := h.rdR (i := 0) (m := m) (by intro hn; rw [hn] at hm; simp at hm; exact h0 hm) (by omega)
  simp only [srcE, if_neg h0, Nat.mul_one]
  simpa using h2
theorem BS.srcAll (h : BS H a l) {c : Nat} : srcE H 1 l.length (.slice a l.length c) = some (strCells l) := by
 rw [h.src (Nat.le_refl _), List.take_length]
theorem BS.bytes (h : BS H a l) {c : Nat} : bytesE H (.slice a l.length c) = some l := by
 by_cases h0 : l = []
 ·subst h0
  cases a with
  | none => rfl
  | some a =>
   obtain ⟨b, o, sp⟩ := a
   have := h.sp _ rfl
   simp only at this
   subst this
   rfl
 ·obtain ⟨b, o, rfl, h2⟩ := h.rdR h0 (i := 0) (m := l.length) (by omega)
  have hn : ¬ l.length = 0 := by intro h; exact h0 (List.eq_nil_of_length_eq_zero h)
  simp only [bytesE, if_neg hn]
  rw [Nat.add_zero] at h2
  rw [h2]
  simp [bytesL_str]
theorem BS.take (h : BS H a l) (m : Nat) : BS H a (l.take m) :=
 ⟨h.sp, fun hl => by
  have hl0 : l ≠ [] := by intro hn; rw [hn] at hl; simp at hl
  obtain ⟨b, o, cs, e, el, h1, h2, h3, h4⟩ := h.row hl0
  refine ⟨b, o, cs, e, el, h1, h2, by rw [List.length_take]; omega, ?_⟩
  rw [← strCells_take, ← h4, List.take_take, List.length_take]⟩
theorem BS.drop {b o : Nat} (h : BS H (some ⟨b, o, none⟩) l) (m : Nat) : BS H (some ⟨b, o + m * 1, none⟩) (l.drop m) :=
 ⟨(fun _ h => by injection h with h; subst h; rfl), fun hl => by
  have hl0 : l ≠ [] := by intro hn; rw [hn] at hl; simp at hl
  have hm : m < l.length := by
   apply Nat.lt_of_not_le; intro hle
   exact hl (List.drop_eq_nil_of_le hle)
  obtain ⟨b', o', cs, e, el, h1, h2, h3, h4⟩ := h.row hl0
  injection h1 with h1; injection h1 with e1 e2
  subst e1; subst e2
  refine ⟨b, o + m * 1, cs, e, el, rfl, h2, by rw [List.length_drop]; omega, ?_⟩
  rw [← strCells_drop, ← h4, List.length_drop, Nat.mul_one, List.drop_take, List.drop_drop]⟩
theorem newE_bytes (h : BS H a l) {z : List Value} {c : Nat} : newE H z 1 false (.slice a l.length c) l.length (strCells l) :=
 ⟨rfl, h.srcAll, fun a' p q hh => by injection hh with hh; exact h.sp a' hh⟩
theorem layL_at {cs vs : List Value} {i : Nat} (h : i + vs.length ≤ cs.length) : layL cs i vs = some (cs.take i ++ (vs ++ cs.drop (i + vs.length))) := by
 rw [layL_eq, if_pos h]
section
variable {E : Env} {f n : Nat} {env : TEnv} {ds : List Deferred} {nx : Nat} {K : Value → List Deferred → Hp → Nat → Option LD → Prop} {P : Value → Hp → Nat → Prop} {d : Option (Nat × Nat)}
theorem One.slH {x hi : RP} {b o m c sz h : Nat} {hh : Int} {k : IntKind} (hx : lookO env x = some (.slice (some ⟨b, o, none⟩) m c)) (hc : (Nat.ble big c && !(Nat.beq (esCap c) sz)) = false) (hi' : lookO env hi = some (.int k hh)) (he : hh = (h : Int)) (hhc : h ≤ lowCap c) (hd : dOk n d = true)
  (hk : K (.slice (some ⟨b, o, none⟩) h c) ds H nx none) : One E f n ⟨none, d, .p (.slS sz x none (some hi) none)⟩ env ds H nx K P := by
 refine One.slS hx hc (bnd_int hi' he hhc) hhc bnd_none hd ?_
 simp only [Nat.sub_zero, Nat.zero_mul, Nat.add_zero]
 rw [ite_self]
 exact hk
theorem One.slL {x lo : RP} {b o m c sz l : Nat} {ll : Int} {k : IntKind} (hx : lookO env x = some (.slice (some ⟨b, o, none⟩) m c)) (hc : (Nat.ble big c && !(Nat.beq (esCap c) sz)) = false) (hl' : lookO env lo = some (.int k ll)) (he : ll = (l : Int)) (hm : m ≤ lowCap c) (hlm : l ≤ m) (hd : dOk n d = true)
  (hk : ∀ o', (o' = o ∧ m - l = 0 ∧ c - l = 0 ∨ o' = o + l * sz) → K (.slice (some ⟨b, o', none⟩) (m - l) (c - l)) ds H nx none) : One E f n ⟨none, d, .p (.slS sz x (some lo) none none)⟩ env ds H nx K P := by
 refine One.slS (h := m) hx hc bnd_none hm (bnd_int hl' he hlm) hd ?_
 by_cases hcl : c = l
 ·rw [if_pos hcl]
  refine hk o (.inl ⟨rfl, ?_, by omega⟩)
  have hlow : lowCap c ≤ c ∨ big ≤ c := by
   by_cases h : c < big
   ·left; rw [low_small h]; exact Nat.le_refl _
   ·right; omega
  rcases hlow with h | h
  ·omega
  ·unfold lowCap at hm
   rw [show Nat.ble big c = true from Nat.ble_eq_true_of_le h, cond_true] at hm
   have := Nat.mod_le (c - big) qq
   have : 0 < big := by decide
   omega
 ·rw [if_neg hcl]; exact hk _ (.inr rfl)
end
end Go.Eng
end
section
namespace Go.Eng
theorem BS.mono {A B : Hp} {a : Option Addr} {l : List UInt8} (h : BS A a l) (hs : HSub A B) : BS B a l :=
 ⟨h.sp, fun hl => by
  obtain ⟨b, o, cs, e, el, h1, h2, h3, h4⟩ := h.row hl
  exact ⟨b, o, cs, e, el, h1, hs _ _ h2, h3, h4⟩⟩
theorem HSub.updAt {A B : Hp} {b : Nat} {o : AO} (hs : HSub A B) (hb : B b = some o) : HSub (Eng.upd A b o) B := fun i o' ho => by
 by_cases hi : i = b
 ·subst hi; rw [upd_eq] at ho; injection ho with ho; subst ho; exact hb
 ·rw [upd_ne hi] at ho; exact hs i o' ho
theorem HSub.delL (A : Hp) (b : Nat) : HSub (Eng.del A b) A := fun i o' ho => by
 by_cases hi : i = b
 ·subst hi; simp [Eng.del] at ho
 ·rw [del_ne hi] at ho; exact ho
theorem rdC_mono {A B : Hp} (hs : HSub A B) {b o : Nat} {v : Value} (h : rdC A b o = some v) : rdC B b o = some v := by
 unfold rdC at h ⊢
 split at h
 ·rename_i ho; rw [hs _ _ ho]; exact h
 ·cases h
theorem rdR_mono {A B : Hp} (hs : HSub A B) {b o m : Nat} {l : List Value} (h : rdR A b o m = some l) : rdR B b o m = some l := by
 unfold rdR at h ⊢
 split at h
 ·rename_i ho; rw [hs _ _ ho]; exact h
 ·cases h
theorem ldE_mono {A B : Hp} (hs : HSub A B) {g : Option Nat} {b o : Nat} {v : Value} (h : ldE A g b o = some v) : ldE B g b o = some v := by
 cases g with
 | none => exact rdC_mono hs h
 | some m =>
  simp only [ldE] at h ⊢
  split at h
  ·rename_i hl; rw [rdR_mono hs hl]; exact h
  ·cases h
def GS (H : Hp) (v : Value) (n : Nat) (cells : List Value) (e : TypeId) (sz lo hi : Nat) : Prop :=
 (v = .slice none 0 0 ∧ n = 0 ∧ cells = []) ∨ ∃ b, v = .slice (some ⟨b, 0, none⟩) n (big + sz * qq + n) ∧ cells.length = n * sz ∧ H b = some (.cells cells e (sz + 1)) ∧ lo ≤ b ∧ b < hi
theorem GS.nil (H : Hp) (e : TypeId) (sz lo hi : Nat) : GS H (.slice none 0 0) 0 [] e sz lo hi := .inl ⟨rfl, rfl, rfl⟩
theorem GS.mono {A B : Hp} {v : Value} {n : Nat} {cells : List Value} {e : TypeId} {sz lo hi hi' : Nat} (h : GS A v n cells e sz lo hi) (hs : HSub A B) (hh : hi ≤ hi') : GS B v n cells e sz lo hi' := by
 rcases h with h | ⟨b, h1, h2, h3, h4, h5⟩
 ·exact .inl h
 ·exact .inr ⟨b, h1, h2, hs _ _ h3, h4, by omega⟩
theorem GS.len {H : Hp} {v : Value} {n : Nat} {cells : List Value} {e : TypeId} {sz lo hi : Nat} (h : GS H v n cells e sz lo hi) : cells.length = n * sz := by
 rcases h with ⟨_, rfl, rfl⟩ | ⟨b, _, h2, _⟩
 ·simp
 ·exact h2
theorem GS.shape {H : Hp} {v : Value} {n : Nat} {cells : List Value} {e : TypeId} {sz lo hi : Nat} (h : GS H v n cells e sz lo hi) : ∃ a c, v = .slice a n c := by
 rcases h with ⟨rfl, rfl, rfl⟩ | ⟨b, rfl, _⟩
 ·exact ⟨_, _, rfl⟩
 ·exact ⟨_, _, rfl⟩
theorem GS.bs {H : Hp} {v : Value} {l : List UInt8} {e : TypeId} {lo hi : Nat} (h : GS H v l.length (strCells l) e 1 lo hi) : ∃ a c, v = .slice a l.length c ∧ BS H a l := by
 rcases h with ⟨h1, h2, h3⟩ | ⟨b, h1, h2, h3, h4, h5⟩
 ·have : l = [] := List.eq_nil_of_length_eq_zero h2
  subst this
  exact ⟨none, 0, h1, BS.nil H⟩
 ·exact ⟨some ⟨b, 0, none⟩, _, h1, BS.whole h3⟩
section
variable {E : Env} {f n : Nat} {env : TEnv} {ds : List Deferred} {H : Hp} {nx : Nat} {K : Value → List Deferred → Hp → Nat → Option LD → Prop} {P : Value → Hp → Nat → Prop} {d : Option (Nat × Nat)}
theorem One.appGS {e : TypeId} {z : List Value} {i : Bool} {x y : RP} {sv w : Value} {m k lo : Nat} {cells new : List Value} (hx : lookO env x = some sv) (hy : lookO env y = some w) (hg : GS H sv m cells e z.length lo nx) (hlo : lo ≤ nx)
  (hn : newE H z z.length i w k new) (hlen : new.length = k * z.length) (hk1 : 1 ≤ k) (h1 : new.all oneCellB = true) (hneed : m + k ≤ 1073741824) (hd : dOk n d = true)
  (hk : ∀ sv' H1, GS H1 sv' (m + k) (cells ++ new) e z.length lo (nx + 1) → (∀ id o, H id = some o → id < lo → H1 id = some o) → (∀ id o, H id = some o → id ≠ nx → (∀ b, sv = .slice (some ⟨b, 0, none⟩) m (big + z.length * qq + m) → id ≠ b) → H1 id = some o) → (HB H nx → HB H1 (nx + 1)) → K sv' ds H1 (nx + 1) none) :
  One E f n ⟨none, d, .w (.app e z i x y)⟩ env ds H nx K P := by
 have hl := hg.len
 rcases hg with ⟨rfl, rfl, rfl⟩ | ⟨b, rfl, h2, h3, h4, h5⟩
 ·refine One.appO (old := []) hx hy (fun a h => by cases h) hn (by decide) (by omega) (by omega) rfl hd (hk _ _ ?_ ?_ ?_ ?_)
  ·exact .inr ⟨nx, rfl, by rw [List.nil_append]; rw [hlen, Nat.zero_add], upd_eq, hlo, by omega⟩
  ·intro id o ho hid
   rw [upd_ne (by omega)]; exact ho
  ·intro id o ho hid _
   rw [upd_ne hid]; exact ho
  ·intro hb; exact hb.new
 ·refine One.appG (old := cells) hx hy hn (by omega) (by omega) hneed h1 ?_ h3 hd (hk _ _ ?_ ?_ ?_ ?_)
  ·by_cases hm : m = 0
   ·subst hm
    have : cells = [] := List.eq_nil_of_length_eq_zero (by rw [h2, Nat.zero_mul])
    rw [this]; rfl
   ·simp only [srcE, if_neg hm, Eng.rdR, h3]
    rw [if_pos (by omega), List.drop_zero, ← h2, List.take_length]
  ·refine .inr ⟨nx, rfl, by rw [List.length_append, h2, hlen, Nat.add_mul], upd_eq, hlo, by omega⟩
  ·intro id o ho hid
   rw [upd_ne (by omega), del_ne (by omega)]; exact ho
  ·intro id o ho hid hb
   rw [upd_ne hid, del_ne (hb b rfl)]; exact ho
  ·intro hb; exact HB.new hb.del
end
theorem lt_big {n : Nat} (h : n ≤ 1073741824) : n < big := Nat.lt_of_le_of_lt h (by decide)
theorem low_le {n m : Nat} (h : n ≤ 1073741824) (hm : m ≤ n) : m ≤ lowCap n := by rw [low_small (lt_big h)]; exact hm
section
variable {E : Env} {f n : Nat} {env : TEnv} {ds : List Deferred} {H : Hp} {nx : Nat} {K : Value → List Deferred → Hp → Nat → Option LD → Prop} {P : Value → Hp → Nat → Prop} {d : Option (Nat × Nat)}
theorem One.slBS {x : RP} {lo hi : Option RP} {b o c l h : Nat} {bs : List UInt8} (hx : lookO env x = some (.slice (some ⟨b, o, none⟩) bs.length c)) (hB : BS H (some ⟨b, o, none⟩) bs) (hc : c ≤ 1073741824) (hcl : bs.length ≤ c) (hh : bndE env c hi bs.length = some h) (hhl : h ≤ bs.length) (hl : bndE env h lo 0 = some l) (hlh : l ≤ h) (hd : dOk n d = true)
  (hk : ∀ o', BS H (some ⟨b, o', none⟩) ((bs.drop l).take (h - l)) → K (.slice (some ⟨b, o', none⟩) ((bs.drop l).take (h - l)).length (c - l)) ds H nx none) : One E f n ⟨none, d, .p (.slS 1 x lo hi none)⟩ env ds H nx K P := by
 have hlen : ((bs.drop l).take (h - l)).length = h - l := by rw [List.length_take, List.length_drop]; omega
 refine One.slS hx (es_small (lt_big hc)) (by rw [low_small (lt_big hc)]; exact hh) (by rw [low_small (lt_big hc)]; omega) hl hd ?_
 by_cases hcc : c = l
 ·rw [if_pos hcc]
  have := hk o (by
   have : (bs.drop l).take (h - l) = [] := List.eq_nil_of_length_eq_zero (by rw [hlen]; omega)
   rw [this]; exact BS.empty H b o)
  rw [hlen] at this; exact this
 ·rw [if_neg hcc]
  have := hk (o + l * 1) ((hB.drop l).take (h - l))
  rw [hlen] at this; exact this
end
def NB (a : Option Addr) (r : Nat) : Prop := ∀ b o, a = some ⟨b, o, none⟩ → b ≠ r
theorem NB.nil (r : Nat) : NB none r := fun _ _ h => by cases h
theorem BS.del {A B : Hp} {a : Option Addr} {l : List UInt8} {r : Nat} (h : BS A a l) (hn : NB a r) (hs : HSub (Eng.del A r) B) : BS B a l := (h.dn hn).mono hs
theorem HSub.delM {A B : Hp} (r : Nat) (h : HSub A B) : HSub (Eng.del A r) B := (HSub.delL A r).trans h
theorem HSub.delU {A B : Hp} {r : Nat} {o : AO} (h : HSub (Eng.del A r) B) : HSub (Eng.del A r) (Eng.upd B r o) := fun i o' ho => by
 by_cases hi : i = r
 ·subst hi; simp [Eng.del] at ho
 ·rw [upd_ne hi]; exact h i o' ho
theorem HSub.delT {A B C : Hp} {r : Nat} (h : HSub (Eng.del A r) B) (k : HSub (Eng.del B r) C) : HSub (Eng.del A r) C := fun i o' ho => by
 by_cases hi : i = r
 ·subst hi; simp [Eng.del] at ho
 ·exact k i o' (by rw [del_ne hi]; exact h i o' ho)
theorem del_at {A B : Hp} {r b : Nat} {o : AO} (h : HSub (Eng.del A r) B) (hb : A b = some o) (hn : b ≠ r) : B b = some o := h b o (by rw [del_ne hn]; exact hb)
theorem lay1 {A B : List Value} {t v : Value} {i j : Nat} (hA : A.length = i) (hj : j = i) : layL (A ++ (t :: B)) j [v] = some (A ++ (v :: B)) := by
 subst hj
 subst hA
 rw [layL_at (by simp)]
 simp
theorem bin_xor64 {tk : TK} {con : Bool} {a b : Nat} (ha : a < 4611686018427387904) (hb : b < 4611686018427387904) : rBinV .xor tk con (.int .i64 (a : Int)) (.int .i64 (b : Int)) = some (.int .i64 ((a ^^^ b : Nat) : Int)) := by
 simp only [rBinV, show Nat.beq (kNum .i64) (kNum .i64) = true from rfl, cond_true]
 show some (Value.int .i64 (wrapF .i64 ((a ^^^ b : Nat) : Int))) = _
 have : a ^^^ b < 4611686018427387904 := Nat.xor_lt_two_pow (n := 62) ha hb
 rw [wrapF_eq, wrap_i64 (by omega) (by omega)]
theorem wrap_u8 (n : Nat) : IntKind.u8.wrap (n : Int) = ((UInt8.ofNat n).toNat : Int) := by
 rw [wrap_mod_u rfl]
 congr 1
end Go.Eng
end
section
namespace Go.Eng
section
variable {E : Env} {f n : Nat} {env : TEnv} {ds : List Deferred} {H : Hp} {nx : Nat} {Q : Ex → TEnv → List Deferred → Hp → Nat → Prop} {P : Value → TEnv → List Deferred → Hp → Nat → Prop}
theorem WC.mid {a b : Code} (I : TEnv → List Deferred → Hp → Nat → Prop) (h : WC E f n a env ds H nx (fun e env ds H nx => match e with
  | .normal => I env ds H nx
  | e => Q e env ds H nx) P) (k : ∀ env ds H nx, I env ds H nx → WC E f n b env ds H nx Q P) : WC E f n (.seq a b) env ds H nx Q P :=
 WC.seq (h.mono (fun e env ds H nx h => by cases e <;> first | exact k _ _ _ _ h | exact h) (fun _ _ _ _ _ h => h))
theorem WC.midR {id : Nat} {ops : Array Oper} {xs : List RX} {b : Code} (hc : compR E ops.toList ops.toList = some xs) (I : TEnv → List Deferred → Hp → Nat → Prop) (h : WS E f n xs env ds H nx I P) (k : ∀ env ds H nx, I env ds H nx → WC E f n b env ds H nx Q P) : WC E f n (.seq (.region id ops false) b) env ds H nx Q P :=
 WC.mid I (WC.region hc h) k
theorem WC.midT {id : Nat} {ops : Array Oper} {l : List RX} {ws : List (Nat × Nat)} {xs : List (RX × List Nat)} {b : Code} (hc : compD E ops.toList = some (l, ws)) (hx : l.zip (ops.toList.map (opTmps ops.toList)) = xs) (I : TEnv → List Deferred → Hp → Nat → Prop)
  (h : WD E f n ops.toList ws xs 0 env ds H nx [H] [] (fun env H nx => I env ds H nx) (fun v H' nx' => P v (dropE env (ops.toList.filterMap (·.dst))) ds H' nx')) (k : ∀ env ds H nx, I env ds H nx → WC E f n b env ds H nx Q P) : WC E f n (.seq (.region id ops true) b) env ds H nx Q P :=
 WC.mid I (WC.regionT hc hx h) k
end
theorem HSub.thr {F A B : Hp} {r : Nat} (h : HSub F A) (hn : F r = none) (k : HSub (Eng.del A r) B) : HSub F B := fun i o ho => by
 by_cases hi : i = r
 ·subst hi; rw [hn] at ho; cases ho
 ·exact k i o (by rw [del_ne hi]; exact h i o ho)
theorem HSub.updF {F A : Hp} {r : Nat} {o : AO} (h : HSub F A) (hn : F r = none) : HSub F (Eng.upd A r o) := fun i o' ho => by
 by_cases hi : i = r
 ·subst hi; rw [hn] at ho; cases ho
 ·rw [upd_ne hi]; exact h i o' ho
theorem HB.no {F : Hp} {n i : Nat} (h : HB F n) (hi : n ≤ i) : F i = none := by
 cases h1 : F i with
 | none => rfl
 | some o => have := h i o h1; omega
theorem HB.sub {F A : Hp} {n : Nat} (hs : HSub F A) (h : HB A n) : HB F n := fun i o ho => h i o (hs i o ho)
def outM (A : Hp) (S : Nat → Bool) : Hp := fun i => bif S i then none else A i
theorem outM_sub (A : Hp) (S : Nat → Bool) : HSub (outM A S) A := fun i o h => by
 unfold outM at h
 cases hS : S i with
 | true => rw [hS] at h; cases h
 | false => rw [hS] at h; exact h
theorem outM_no {A : Hp} {S : Nat → Bool} {i : Nat} (h : S i = true) : outM A S i = none := by simp [outM, h]
theorem outM_at {A : Hp} {S : Nat → Bool} {i : Nat} (h : S i = false) : outM A S i = A i := by simp [outM, h]
theorem HSub.out {F A : Hp} {S : Nat → Bool} (h : HSub F A) (hn : ∀ i, S i = true → F i = none) : HSub F (outM A S) := fun i o ho => by
 cases hS : S i with
 | true => rw [hn i hS] at ho; cases ho
 | false => rw [outM_at hS]; exact h i o ho
def isBl : Value → Nat → Bool
 | .slice (some ⟨b, _, none⟩) _ _, i => Nat.beq b i
 | _, _ => false
theorem isBl_iff {v : Value} {i : Nat} (h : isBl v i = true) : ∃ o n c, v = .slice (some ⟨i, o, none⟩) n c := by
 unfold isBl at h
 split at h
 ·rename_i b o n c
  have := Nat.eq_of_beq_eq_true h
  subst this
  exact ⟨o, n, c, rfl⟩
 ·cases h
theorem isBl_of {v : Value} {b o n c : Nat} (h : v = .slice (some ⟨b, o, none⟩) n c) : isBl v b = true := by
 subst h; exact Nat.beq_refl b
theorem GS.low {A B : Hp} {v : Value} {n : Nat} {cells : List Value} {e : TypeId} {sz lo hi hi' r : Nat} (h : GS A v n cells e sz lo hi) (hs : HSub (Eng.del A r) B) (hr : r < lo) (hh : hi ≤ hi') : GS B v n cells e sz lo hi' := by
 rcases h with h | ⟨b, h1, h2, h3, h4, h5⟩
 ·exact .inl h
 ·exact .inr ⟨b, h1, h2, hs _ _ (by rw [del_ne (by omega)]; exact h3), h4, by omega⟩
theorem GS.updLo {A : Hp} {v : Value} {n : Nat} {cells : List Value} {e : TypeId} {sz lo hi hi' r : Nat} {o : AO} (h : GS A v n cells e sz lo hi) (hr : r < lo ∨ hi ≤ r) (hh : hi ≤ hi') : GS (Eng.upd A r o) v n cells e sz lo hi' := by
 rcases h with h | ⟨b, h1, h2, h3, h4, h5⟩
 ·exact .inl h
 ·exact .inr ⟨b, h1, h2, by rw [upd_ne (by omega)]; exact h3, h4, by omega⟩
theorem GS.blk {A : Hp} {v : Value} {n : Nat} {cells : List Value} {e : TypeId} {sz lo hi i : Nat} (h : GS A v n cells e sz lo hi) (hb : isBl v i = true) : lo ≤ i ∧ i < hi := by
 obtain ⟨o, m, c, rfl⟩ := isBl_iff hb
 rcases h with ⟨h1, _⟩ | ⟨b, h1, h2, h3, h4, h5⟩
 ·cases h1
 ·injection h1 with h1 h6 h7
  injection h1 with h1
  injection h1 with h1
  subst h1
  exact ⟨h4, h5⟩
theorem GS.le {A : Hp} {v : Value} {n : Nat} {cells : List Value} {e : TypeId} {sz lo l hi : Nat} (h : GS A v n cells e sz lo hi) (hl : l ≤ lo) : GS A v n cells e sz l hi := by
 rcases h with h | ⟨b, h1, h2, h3, h4, h5⟩
 ·exact .inl h
 ·exact .inr ⟨b, h1, h2, h3, by omega, h5⟩
section
variable {E : Env} {f n : Nat} {env : TEnv} {ds : List Deferred} {H : Hp} {nx : Nat} {K : Value → List Deferred → Hp → Nat → Option LD → Prop} {P : Value → Hp → Nat → Prop} {d : Option (Nat × Nat)}
theorem One.appGB {e : TypeId} {z : List Value} {i : Bool} {x y : RP} {sv w : Value} {m k lo : Nat} {cells new : List Value} (hx : lookO env x = some sv) (hy : lookO env y = some w) (hg : GS H sv m cells e z.length lo nx) (hlo : lo ≤ nx)
  (hn : newE H z z.length i w k new) (hlen : new.length = k * z.length) (hk1 : 1 ≤ k) (h1 : new.all oneCellB = true) (hneed : m + k ≤ 1073741824) (hd : dOk n d = true)
  (hk : ∀ H1, GS H1 (.slice (some ⟨nx, 0, none⟩) (m + k) (big + z.length * qq + (m + k))) (m + k) (cells ++ new) e z.length lo (nx + 1) → (∀ id o, H id = some o → id < lo → H1 id = some o) → (∀ id o, H id = some o → id ≠ nx → isBl sv id = false → H1 id = some o) → (HB H nx → HB H1 (nx + 1)) → K (.slice (some ⟨nx, 0, none⟩) (m + k) (big + z.length * qq + (m + k))) ds H1 (nx + 1) none) :
  One E f n ⟨none, d, .w (.app e z i x y)⟩ env ds H nx K P := by
 have hl := hg.len
 rcases hg with ⟨rfl, rfl, rfl⟩ | ⟨b, rfl, h2, h3, h4, h5⟩
 ·refine One.appO (old := []) hx hy (fun a h => by cases h) hn (by decide) (by omega) (by omega) rfl hd (hk _ ?_ ?_ ?_ ?_)
  ·exact .inr ⟨nx, rfl, by rw [List.nil_append]; rw [hlen, Nat.zero_add], upd_eq, hlo, by omega⟩
  ·intro id o ho hid
   rw [upd_ne (by omega)]; exact ho
  ·intro id o ho hid _
   rw [upd_ne hid]; exact ho
  ·intro hb; exact hb.new
 ·refine One.appG (old := cells) hx hy hn (by omega) (by omega) hneed h1 ?_ h3 hd (hk _ ?_ ?_ ?_ ?_)
  ·by_cases hm : m = 0
   ·subst hm
    have : cells = [] := List.eq_nil_of_length_eq_zero (by rw [h2, Nat.zero_mul])
    rw [this]; rfl
   ·simp only [srcE, if_neg hm, Eng.rdR, h3]
    rw [if_pos (by omega), List.drop_zero, ← h2, List.take_length]
  ·refine .inr ⟨nx, rfl, by rw [List.length_append, h2, hlen, Nat.add_mul], upd_eq, hlo, by omega⟩
  ·intro id o ho hid
   rw [upd_ne (by omega), del_ne (by omega)]; exact ho
  ·intro id o ho hid hb
   rw [upd_ne hid, del_ne (by intro h; subst h; rw [isBl_of rfl] at hb; cases hb)]; exact ho
  ·intro hb; exact HB.new hb.del
end
section
variable {E : Env} {f n : Nat} {env : TEnv} {ds : List Deferred} {H : Hp} {nx : Nat} {K : Value → List Deferred → Hp → Nat → Option LD → Prop} {P : Value → Hp → Nat → Prop} {d : Option (Nat × Nat)}
theorem One.slU {x : RP} {lo hi : Option RP} {b o m q sz l h : Nat} (hx : lookO env x = some (.slice (some ⟨b, o, none⟩) m (big + sz * qq + q))) (hq : q ≤ 1073741824) (hh : bndE env q hi m = some h) (hhq : h ≤ q) (hl : bndE env h lo 0 = some l) (hlq : l ≤ q) (hd : dOk n d = true)
  (hk : K (.slice (some ⟨b, o + l * sz, none⟩) (h - l) (big + sz * qq + (q - l))) ds H nx none) : One E f n ⟨none, d, .p (.slS sz x lo hi none)⟩ env ds H nx K P := by
 refine One.slS hx (es_big hq) (by rw [low_big sz q hq]; exact hh) (by rw [low_big sz q hq]; exact hhq) hl hd ?_
 have hb : (1073741824 : Nat) < big := by decide
 rw [if_neg (by omega), show big + sz * qq + q - l = big + sz * qq + (q - l) by omega]
 exact hk
theorem One.appCp {y : RP} {a : Option Addr} {l : List UInt8} {c : Nat} (hy : lookO env y = some (.slice a l.length c)) (hB : BS H a l) (hlen : l.length ≤ 1073741824) (hH : HB H nx) (hd : dOk n d = true)
  (hk : ∀ sv' H1 n1, GS H1 sv' l.length (strCells l) 5 1 nx n1 → HSub H H1 → HB H1 n1 → nx ≤ n1 → K sv' ds H1 n1 none) : One E f n ⟨none, d, .w (.app 5 [.int .u8 0] false (.v (.slice none 0 0)) y)⟩ env ds H nx K P := by
 cases l with
 | nil =>
  exact One.app0 (a := none) (m := 0) (c := 0) rfl hy (newE_bytes hB) (Nat.zero_le _) hd (hk _ H nx (GS.nil _ _ _ _ _) (HSub.refl H) hH (Nat.le_refl _))
 | cons x r =>
  refine One.appGB (z := [.int .u8 0]) (m := 0) (k := (x :: r).length) (lo := nx) (cells := []) (new := strCells (x :: r)) rfl hy (GS.nil _ _ _ _ _) (Nat.le_refl _) (newE_bytes hB) (by rw [strCells_len]; simp) (by simp) (strCells_one _) (by omega) hd ?_
  intro H1 hg _ hoth hb
  rw [Nat.zero_add, List.nil_append] at hg
  rw [Nat.zero_add]
  refine hk _ H1 (nx + 1) hg (fun i o ho => hoth i o ho (by have := hH i o ho; omega) rfl) (hb hH) (Nat.le_succ _)
end
end Go.Eng
end
section
namespace Go.Eng
section
variable {μ : Mu} {s : St} {w : World}
theorem R.see (h : R μ s w) (hf : μ s.nx = none) {o : AO} {o' : Obj} {g : Img} (hw : w.heap[g.blk]? = some o') (hfr : ∀ id p gp, s.h.get id = some p → μ id = some gp → gp.blk ≠ g.blk) (hob : OB (μ.add s.nx g) g o o') :
  R (μ.add s.nx g) (newO s o) w := by
 have hle := Mu.add_le g hf
 have hget : ∀ j p, (newO s o).h.get j = some p → (j = s.nx ∧ o = p) ∨ (j ≠ s.nx ∧ s.h.get j = some p) := fun j p hp => by
  rw [newO_h] at hp
  rcases Tr.get_put _ _ _ _ _ hp with ⟨e, hv⟩ | hv
  ·exact .inl ⟨e, Option.some.inj hv⟩
  ·exact .inr hv
 have himg : ∀ j p gj, (newO s o).h.get j = some p → (μ.add s.nx g) j = some gj → (j = s.nx ∧ gj = g) ∨ (j ≠ s.nx ∧ s.h.get j = some p ∧ μ j = some gj) := fun j p gj hp hj => by
  rcases hget j p hp with ⟨e, _⟩ | ⟨e, e2⟩
  ·subst e; unfold Mu.add at hj; rw [if_pos rfl] at hj; exact .inl ⟨rfl, (Option.some.inj hj).symm⟩
  ·unfold Mu.add at hj; rw [if_neg e] at hj; exact .inr ⟨e, e2, hj⟩
 refine ⟨?_, ?_, ?_⟩
 ·intro j p hp
  rcases hget j p hp with ⟨e, e2⟩ | ⟨hne, e⟩
  ·subst e; subst e2
   exact ⟨g, o', by unfold Mu.add; rw [if_pos rfl], hw, hob⟩
  ·obtain ⟨gj, oj, a1, a2, a3⟩ := h.live j p e
   exact ⟨gj, oj, hle _ _ a1, a2, a3.mono hle⟩
 ·intro j k p q gj gk hp hq hj hk' hb
  rcases himg j p gj hp hj with ⟨e, e2⟩ | ⟨e, e2, e3⟩ <;> rcases himg k q gk hq hk' with ⟨f, f2⟩ | ⟨f, f2, f3⟩
  ·rw [e, f]
  ·subst e2; exact absurd hb.symm (hfr k q gk f2 f3)
  ·subst f2; exact absurd hb (hfr j p gj e2 e3)
  ·exact h.inj j k p q gj gk e2 f2 e3 f3 hb
 ·intro j p hp
  rw [newO_nx]
  rcases hget j p hp with ⟨e, _⟩ | ⟨_, e⟩
  ·omega
  ·have := h.nx j p e; omega
end
def El (H : Hp) (b : Nat) (v : Value) (n : Nat) : Prop :=
 (n = 0 ∧ ∃ a, v = .slice a 0 0 ∧ ∀ a', a = some a' → a'.spot = none) ∨
 ∃ c C e, v = .slice (some ⟨b, 0, none⟩) n c ∧ H b = some (.cells C e 4) ∧ n ≤ lowCap c ∧ lowCap c ≤ C.length ∧ (c ≤ 1073741824 ∨ n + 20 ≤ lowCap c)
theorem El.mono {A B : Hp} {b : Nat} (hs : ∀ o, A b = some o → B b = some o) {v : Value} {n : Nat} (h : El A b v n) : El B b v n := by
 rcases h with h | ⟨c, C, e, h1, h2, h3⟩
 ·exact .inl h
 ·exact .inr ⟨c, C, e, h1, hs _ h2, h3⟩
def ApOk (H : Hp) (nx t base : Nat) (u : Value) (ns : List Nat) : Prop := ∃ vs c e, u = .slice (some ⟨t, 0, none⟩) ns.length c ∧ H t = some (.cells vs e 4) ∧ vs.length = ns.length ∧ t = base + ns.length ∧ t < nx ∧
 (∀ i v n, vs[i]? = some v → ns[i]? = some n → El H (base + i) v n) ∧ (∀ n ∈ ns, n ≤ 1048576) ∧ ns.length ≤ 536870912
def ApIn (s : St) (args : List Value) (ns : List Nat) : Prop := ∃ b c cs e, args = [.slice (some ⟨b, 0, none⟩) ns.length c] ∧ s.h.get b = some (.cells cs e 2) ∧ cs.length = ns.length ∧ 0 < ns.length ∧ (∀ n ∈ ns, n ≤ 1048576) ∧ ns.length ≤ 536870912 ∧
 (∀ (i : Nat) (v : Value) (n : Nat), cs[i]? = some v → ns[i]? = some n → (v = .slice none 0 0 ∧ n = 0) ∨ ∃ q l f, v = .slice (some ⟨q, 0, none⟩) n (big + 1 * qq + n) ∧ s.h.get q = some (.cells l f 2) ∧ l.length = n ∧ q ≠ b) ∧
 ∀ (i j q n c m d : Nat), cs[i]? = some (Value.slice (some ⟨q, 0, none⟩) n c) → cs[j]? = some (Value.slice (some ⟨q, 0, none⟩) m d) → i = j
theorem LR.of_mem {μ : Mu} : ∀ {l' : List Value}, (∀ v' ∈ l', ∃ v, VR μ v v') → ∃ l, LR μ l l'
 | [], _ => ⟨[], .nil⟩
 | v' :: l', h => by
  obtain ⟨v, hv⟩ := h v' (List.mem_cons_self ..)
  obtain ⟨l, hl⟩ := LR.of_mem (fun u hu => h u (List.mem_cons_of_mem _ hu))
  exact ⟨v :: l, .cons _ _ _ _ hv hl⟩
theorem LR.snoc {μ : Mu} {l l' : List Value} (h : LR μ l l') {v v' : Value} (hv : VR μ v v') : LR μ (l ++ [v]) (l' ++ [v']) := h.append (.cons _ _ _ _ hv .nil)
theorem ap_see {μ : Mu} {s : St} {w : World} (hR : R μ s w) {cs cs' : List Value} {ns : List Nat} (hlr : LR μ cs cs') (hlen : cs.length = ns.length) (hns : ∀ n ∈ ns, n ≤ 1048576) {b top : Nat}
  (h1 : ∀ (i : Nat) (v : Value) (n : Nat), cs[i]? = some v → ns[i]? = some n → (v = .slice none 0 0 ∧ n = 0) ∨ ∃ q l f, v = .slice (some ⟨q, 0, none⟩) n (big + 1 * qq + n) ∧ s.h.get q = some (.cells l f 2) ∧ l.length = n ∧ q ≠ b)
  (h2 : ∀ (i j q n c m d : Nat), cs[i]? = some (Value.slice (some ⟨q, 0, none⟩) n c) → cs[j]? = some (Value.slice (some ⟨q, 0, none⟩) m d) → i = j)
  (hf : Fresh μ s.nx top) (htop : s.nx + ns.length ≤ top) : ∀ i, i ≤ ns.length → ∃ μ0 s0 l0, R μ0 s0 w ∧ μ.le μ0 ∧ s0.nx = s.nx + i ∧ Fresh μ0 (s.nx + i) top ∧ (∀ id g, μ0 id = some g → μ id = some g ∨ (s.nx ≤ id ∧ id < s.nx + i)) ∧
   (∀ id p g, s0.h.get id = some p → μ0 id = some g → ∃ j q n c gq, j < i ∧ cs[j]? = some (Value.slice (some ⟨q, 0, none⟩) n c) ∧ q ≠ b ∧ μ q = some gq ∧ gq.blk = g.blk ∧ (∃ l f, s.h.get q = some (.cells l f 2))) ∧
   LR μ0 l0 (cs'.take i) ∧ ∀ j v n, l0[j]? = some v → ns[j]? = some n → El s0.h.get (s.nx + j) v n := by
 intro i
 induction i with
 | zero => intro _; exact ⟨μ, ⟨.lf, s.nx⟩, [], ⟨fun _ _ h => by simp [Tr.get] at h, fun _ _ _ _ _ _ h => by simp [Tr.get] at h, fun _ _ h => by simp [Tr.get] at h⟩, fun _ _ h => h, rfl, hf, fun _ _ h => .inl h, fun _ _ _ h => by simp [Tr.get] at h, by simp; exact .nil, fun j v n h => by simp at h⟩
 | succ i ih =>
  intro hi
  obtain ⟨μ0, s0, l0, a1, a2, a3, a4, a9, a5, a6, a7⟩ := ih (by omega)
  have hci : i < cs.length := by omega
  have hnn : ns[i]? = some ns[i] := List.getElem?_eq_getElem (by omega)
  have hcc : cs[i]? = some cs[i] := List.getElem?_eq_getElem hci
  obtain ⟨v', hv', hvr⟩ := hlr.get hcc
  have htk : cs'.take (i + 1) = cs'.take i ++ [v'] := by rw [List.take_add_one, hv']; rfl
  have hl0 : l0.length = i := by
   have := a6.length
   rw [List.length_take, hlr.length] at this
   omega
  have hfi : μ0 s0.nx = none := a4 _ (by omega) (by omega)
  have none0 : ∀ v0, VR μ0 v0 v' → ns[i] = 0 → (∃ a, v0 = .slice a 0 0 ∧ ∀ a', a = some a' → a'.spot = none) → ∃ μ0 s0 l0, R μ0 s0 w ∧ μ.le μ0 ∧ s0.nx = s.nx + (i + 1) ∧ Fresh μ0 (s.nx + (i + 1)) top ∧ (∀ id g, μ0 id = some g → μ id = some g ∨ (s.nx ≤ id ∧ id < s.nx + (i + 1))) ∧
   (∀ id p g, s0.h.get id = some p → μ0 id = some g → ∃ j q n c gq, j < (i + 1) ∧ cs[j]? = some (Value.slice (some ⟨q, 0, none⟩) n c) ∧ q ≠ b ∧ μ q = some gq ∧ gq.blk = g.blk ∧ (∃ l f, s.h.get q = some (.cells l f 2))) ∧
   LR μ0 l0 (cs'.take (i + 1)) ∧ ∀ j v n, l0[j]? = some v → ns[j]? = some n → El s0.h.get (s.nx + j) v n := by
   intro v0 hv0 hn0 hsh
   refine ⟨μ0, ⟨s0.h, s0.nx + 1⟩, l0 ++ [v0], ⟨a1.live, a1.inj, fun id o ho => Nat.lt_succ_of_lt (a1.nx id o ho)⟩, a2, by show s0.nx + 1 = _; omega, a4.sub (by omega) (Nat.le_refl _), fun id g h => (a9 id g h).imp_right (fun h => ⟨h.1, by omega⟩), fun id p g h3 h4 => ?_, by rw [htk]; exact a6.snoc hv0, fun j v n h3 h4 => ?_⟩
   ·obtain ⟨j, q, n, c, gq, k1, k2⟩ := a5 id p g h3 h4
    exact ⟨j, q, n, c, gq, by omega, k2⟩
   ·rcases Nat.lt_or_ge j i with hj | hj
    ·rw [List.getElem?_append_left (by omega)] at h3
     exact a7 j v n h3 h4
    ·rw [List.getElem?_append_right (by omega), hl0] at h3
     have hj0 : j - i = 0 := by
      rcases Nat.eq_zero_or_pos (j - i) with h | h
      ·exact h
      ·rw [List.getElem?_eq_none (by simp; omega)] at h3; cases h3
     have : j = i := by omega
     subst this
     rw [hj0] at h3
     injection h3 with h3; subst h3
     rw [hnn] at h4; injection h4 with h4; subst h4
     exact .inl ⟨hn0, hsh⟩
  rcases h1 i _ _ hcc hnn with ⟨h3, h4⟩ | ⟨q, l, f, h3, h4, h5, h6⟩
  ·rw [h3] at hvr
   exact none0 _ (hvr.mono a2) h4 ⟨none, rfl, fun _ h => by cases h⟩
  ·generalize hcv : cs[i] = cv at h3 hvr
   subst h3
   have hnb : ns[i] ≤ 1048576 := hns _ (List.getElem_mem _)
   obtain ⟨k1, k2, k3⟩ := cap_new (sz := 1) (need := ns[i]) (by omega)
   generalize hcap : big + 1 * qq + ns[i] = cap at *
   generalize hni : ns[i] = ni at *
   cases hvr with
   | slE _ a' _ h0 =>
    rw [k2] at h0
    exact none0 (.slice (some ⟨0, 0, none⟩) 0 0) (.slE _ _ _ (by decide)) h0 ⟨_, rfl, fun a h => by injection h with h; subst h; rfl⟩
   | sl _ _ _ _ c' g hg hc =>
    have hc' : ni ≤ c' ∧ g.off + c' ≤ g.size := by
     rcases hc with ⟨h7, _⟩ | ⟨_, h7, h8⟩
     ·omega
     ·rw [k2] at h7; rw [k3] at h8; omega
    obtain ⟨o', o1, o2⟩ := hR.block h4 hg
    cases o2 with
    | @cells _ _ _ e' ws fz hel hsz hxx hbb hr hz hp =>
     obtain ⟨C, hC⟩ := LR.of_mem (μ := μ) (l' := ws.drop g.off) (fun v hv => hp (by decide) v (List.mem_of_mem_drop hv))
     have hCl : C.length = ws.length - g.off := by have := hC.length; rw [List.length_drop] at this; omega
     let g0 : Img := ⟨g.blk, g.off, 4, g.size⟩
     have hle := Mu.add_le g0 hfi
     have hsee := a1.see hfi (o := .cells C f 4) (o' := .cells ⟨ws⟩ e' fz) (g := g0) o1 (fun id p gp h7 h8 hb => by
      obtain ⟨j, q', n', c1, gq, m1, m2, m3, m4, m5, l', f', m6⟩ := a5 id p gp h7 h8
      have hqq : q' = q := hR.inj q' q _ _ gq g m6 h4 m4 hg (m5.trans hb)
      subst hqq
      have := h2 i j q' _ _ _ _ (hcc.trans (congrArg some hcv)) m2
      omega) (by
      refine .cells C f 4 ws fz rfl hsz (fun h => by cases h) (by show g.off + C.length ≤ _; omega) ?_ (fun _ => hz (by decide)) (fun _ v' hv => (hp (by decide) v' hv).imp fun _ k => k.mono (fun id g h => hle _ _ (a2 _ _ h)))
      show LR _ C ((ws.drop g.off).take C.length)
      rw [hC.length.symm, List.take_length]
      exact hC.mono (fun id g h => hle _ _ (a2 _ _ h)))
     have hgm : (μ0.add s0.nx g0) s0.nx = some g0 := by unfold Mu.add; rw [if_pos rfl]
     obtain ⟨c0, z1, z2, z3, z4⟩ : ∃ c0, CapOk g0 0 c0 c' ∧ ni ≤ lowCap c0 ∧ lowCap c0 ≤ C.length ∧ (c0 ≤ 1073741824 ∨ ni + 20 ≤ lowCap c0) := by
      rcases Nat.lt_or_ge c' big with hb | hb
      ·refine ⟨c', .inl ⟨hb, rfl⟩, ?_, ?_, ?_⟩
       ·rw [lowCap_small hb]; omega
       ·rw [lowCap_small hb]; omega
       ·rw [lowCap_small hb]; omega
      ·have hb2 : (2000000000 : Nat) < big := by decide
       obtain ⟨y1, y2, y3⟩ := cap_new (sz := 1) (need := ni + 20) (by omega)
       refine ⟨_, .inr ⟨y1, by rw [y2]; omega, by rw [y3]; show g.off + 0 + c' * 1 ≤ g.size; omega⟩, by rw [y2]; omega, by rw [y2]; omega, .inr (by rw [y2]; omega)⟩
     refine ⟨μ0.add s0.nx g0, newO s0 (.cells C f 4), l0 ++ [.slice (some ⟨s0.nx, 0, none⟩) ni c0], hsee, fun id g h => hle _ _ (a2 _ _ h), by rw [newO_nx]; omega, fun id h7 h8 => ?_, fun id gp h => ?_, fun id p gp h7 h8 => ?_, ?_, fun j v n h7 h8 => ?_⟩
     ·unfold Mu.add
      rw [if_neg (by omega)]
      exact a4 id (by omega) h8
     ·unfold Mu.add at h
      by_cases e : id = s0.nx
      ·exact .inr ⟨by omega, by omega⟩
      ·rw [if_neg e] at h; exact (a9 id gp h).imp_right (fun h => ⟨h.1, by omega⟩)
     ·rw [newO_h] at h7
      unfold Mu.add at h8
      by_cases e : id = s0.nx
      ·rw [if_pos e] at h8
       injection h8 with h8; subst h8
       exact ⟨i, q, _, _, g, by omega, hcc.trans (congrArg some hcv), h6, hg, rfl, _, _, h4⟩
      ·rw [if_neg e] at h8
       rcases Tr.get_put _ _ _ _ _ h7 with ⟨e2, _⟩ | hv
       ·exact absurd e2 e
       ·obtain ⟨j, q, n, c, gq, k1, k2⟩ := a5 id p gp hv.2 h8
        exact ⟨j, q, n, c, gq, by omega, k2⟩
     ·rw [htk]
      refine (a6.mono hle).snoc ?_
      exact .sl s0.nx 0 ni c0 c' g0 hgm z1
     ·have hput : ∀ j, j ≠ s0.nx → ∀ o, s0.h.get j = some o → (newO s0 (.cells C f 4)).h.get j = some o := fun j hj o ho => by
       rw [newO_h]; exact Tr.put_other _ _ _ _ _ hj ho
      rcases Nat.lt_or_ge j i with hj | hj
      ·rw [List.getElem?_append_left (by omega)] at h7
       exact (a7 j v n h7 h8).mono (fun o ho => hput _ (by omega) o ho)
      ·rw [List.getElem?_append_right (by omega), hl0] at h7
       have hj0 : j - i = 0 := by
        rcases Nat.eq_zero_or_pos (j - i) with h | h
        ·exact h
        ·rw [List.getElem?_eq_none (by simp; omega)] at h7; cases h7
       have : j = i := by omega
       subst this
       rw [hj0] at h7
       injection h7 with h7; subst h7
       rw [hnn] at h8; injection h8 with h8; subst h8
       refine .inr ⟨c0, C, f, by rw [← a3], ?_, z2, z3, z4⟩
       rw [← a3, newO_h]
       exact Tr.put_same _ _ _
theorem lf_none {id : Nat} : (Tr.lf : Tr AO).get id = none := by simp [Tr.get]
theorem R.none {μ : Mu} {w : World} (n : Nat) : R μ ⟨.lf, n⟩ w := ⟨fun id o h => (by rw [lf_none] at h; cases h), fun id _ o _ _ _ h => (by rw [lf_none] at h; cases h), fun id o h => (by rw [lf_none] at h; cases h)⟩
theorem R_sub {μ : Mu} {s s' : St} {w : World} (h : R μ s w) (hs : HSub s'.h.get s.h.get) (hn : s.nx ≤ s'.nx) : R μ s' w :=
 ⟨fun id o ho => h.live id o (hs id o ho), fun id id' o o' g g' h1 h2 => h.inj id id' o o' g g' (hs _ _ h1) (hs _ _ h2), fun id o ho => Nat.lt_of_lt_of_le (h.nx id o (hs id o ho)) hn⟩
theorem Ext_sub {μ μ' : Mu} {s s1 s' : St} {w w' : World} (h : Ext μ s w μ' s1 w') (hs : HSub s'.h.get s1.h.get) (hn : s1.nx ≤ s'.nx) : Ext μ s w μ' s' w' :=
 ⟨h.mu, fun id g hg => (h.new id g hg).imp_right (fun h1 => ⟨h1.1, by omega⟩), Nat.le_trans h.nx hn, h.os, h.tape, h.output, h.size, h.frame, fun id o g h1 h2 => h.img id o g (hs _ _ h1) h2, fun hi id id' o o' g g' h1 h2 => h.inj hi id id' o o' g g' (hs _ _ h1) (hs _ _ h2), fun hi id cs e g h1 h2 h3 => ⟨(h.ro hi id cs e g h1 h2 h3).1, fun id' o' g' q1 q2 q3 => (h.ro hi id cs e g h1 h2 h3).2 id' o' g' (hs _ _ q1) q2 q3⟩⟩
theorem call_frame {P : Program} {E1 E : Env} {f : FuncId} {args : List Value} {a a1 s s' : St} {v : Value} (hsm : E.sm f ≠ none) (h : CallOk P E1 f args a v a1) (hsub : HSub a.h.get s.h.get) (hnx : a.nx = s.nx) (hn : a1.nx ≤ s'.nx)
  (hs' : ∀ id o, s'.h.get id = some o → a1.h.get id = some o ∨ (s.h.get id = some o ∧ a.h.get id = none)) : CallOk P E f args s v s' := by
 refine ⟨h.1, ?_⟩
 intro μ w args' kind cs hR hF hargs hkind
 have hkn : kind = .normal := by
  rcases hkind with h | ⟨_, h, _⟩
  ·exact h
  ·exact absurd h hsm
 subst hkn
 have hRa : R μ a w := R_sub hR hsub (by omega)
 obtain ⟨μ2, w2, v2, fr2, p1, p2, p3, p4, p5⟩ := h.2 μ w args' .normal cs hRa (fun id h3 h4 => hF id (by omega) (by omega)) hargs (.inl rfl)
 have hout : ∀ id o g, s.h.get id = some o → a.h.get id = none → μ id = some g → ∀ id0 o0 g0, a.h.get id0 = some o0 → μ id0 = some g0 → g0.blk ≠ g.blk := fun id o g h1 h2 h3 id0 o0 g0 h4 h5 h6 => by
  have := hR.inj id0 id o0 o g0 g (hsub _ _ h4) h1 h5 h3 h6
  subst this
  rw [h2] at h4; cases h4
 have hsz : ∀ id o g, s.h.get id = some o → μ id = some g → g.blk < w.heap.size := fun id o g h1 h2 => by
  obtain ⟨o', h3, _⟩ := hR.block h1 h2
  exact lt_of_get h3
 have hmu : ∀ id o g, s.h.get id = some o → μ2 id = some g → μ id = some g := fun id o g h1 h2 => by
  obtain ⟨g0, o', h3, _⟩ := hR.live id o h1
  rw [p3.mu _ _ h3] at h2
  rw [h3]; exact h2
 have hRn : R μ2 s' w2 := by
  refine ⟨fun id o ho => ?_, fun id id' o o' g g' h1 h2 h3 h4 h5 => ?_, fun id o ho => ?_⟩
  ·rcases hs' id o ho with h1 | ⟨h1, h2⟩
   ·exact p2.live id o h1
   ·obtain ⟨g, o', h3, h4, h5⟩ := hR.live id o h1
    refine ⟨g, o', p3.mu _ _ h3, ?_, h5.mono p3.mu⟩
    rw [p3.frame g.blk (lt_of_get h4) (fun id0 o0 g0 h6 h7 => hout id o g h1 h2 h3 id0 o0 g0 h6 h7)]
    exact h4
  ·have mixed : ∀ i j oi oj gi gj, a1.h.get i = some oi → s.h.get j = some oj → a.h.get j = none → μ2 i = some gi → μ2 j = some gj → gi.blk ≠ gj.blk := fun i j oi oj gi gj k1 k2 k3 k4 k5 k6 => by
    have k7 := hmu j oj gj k2 k5
    rcases p3.img i oi gi k1 k4 with k8 | ⟨i0, o0, g0, k8, k9, k10⟩
    ·have := hsz j oj gj k2 k7; omega
    ·exact hout j oj gj k2 k3 k7 i0 o0 g0 k8 k9 (k10.trans k6)
   rcases hs' id o h1 with k1 | ⟨k1, k2⟩ <;> rcases hs' id' o' h2 with k3 | ⟨k3, k4⟩
   ·exact p2.inj id id' o o' g g' k1 k3 h3 h4 h5
   ·exact absurd h5 (mixed _ _ _ _ _ _ k1 k3 k4 h3 h4)
   ·exact absurd h5.symm (mixed _ _ _ _ _ _ k3 k1 k2 h4 h3)
   ·exact hR.inj id id' o o' g g' k1 k3 (hmu _ _ _ k1 h3) (hmu _ _ _ k3 h4) h5
  ·rcases hs' id o ho with h1 | ⟨h1, _⟩
   ·have := p2.nx id o h1; omega
   ·have := hR.nx id o h1
    have := p3.nx
    omega
 refine ⟨μ2, w2, v2, fr2, p1, hRn, ⟨p3.mu, fun id g hg => (p3.new id g hg).imp_right (fun h1 => ⟨by omega, by omega⟩), by have := p3.nx; omega, p3.os, p3.tape, p3.output, p3.size, fun b hb hf => p3.frame b hb (fun id o g h1 h2 => hf id o g (hsub _ _ h1) h2), fun id o g h1 h2 => ?_, fun _ => hRn.inj, fun hi => (RoOk.refl hi (fun _ _ h => h) (fun _ _ => rfl)).step (p3.ro hRa.inj) hsub (fun _ _ h => h) (Nat.le_refl _) p3.frame p3.img (fun id o h => (hs' id o h).imp_right (fun h1 => ⟨h1.1, (fun o' h2 => by
  have h3 : a.h.get id = some o' := h2
  rw [h1.2] at h3; cases h3), fun g' h2 => hmu id o g' h1.1 h2⟩))⟩, p4, p5⟩
 ·rcases hs' id o h1 with k1 | ⟨k1, k2⟩
  ·rcases p3.img id o g k1 h2 with k3 | ⟨i0, o0, g0, k3, k4, k5⟩
   ·exact .inl k3
   ·exact .inr ⟨i0, o0, g0, hsub _ _ k3, k4, k5⟩
  ·exact .inr ⟨id, o, g, k1, hmu _ _ _ k1 h2, rfl⟩
theorem ap_call {P : Program} {E0 E : Env} {f : FuncId} (hsound : ∀ n, Sound P E0 (ev E0 n)) (hsm : E.sm f ≠ none)
  (hfn : ∀ H nx t base u ns, 0 < ns.length → HB H nx → ApOk H nx t base u ns → FnOk E0 f [u] H nx (fun v _ nx' => v = .bool true ∧ nx' ≤ nx + 50 * ns.length + 20) (fun _ _ _ => False))
  {s : St} {args : List Value} {ns : List Nat} (hin : ApIn s args ns) : CallOk P E f args s (.bool true) ⟨.lf, s.nx + 60 * ns.length + 30⟩ := by
 refine ⟨?_, ?_⟩
 · -- some call of it is known
  have hS : SOk (newO ⟨.lf, 1⟩ (.cells [.slice none 0 0] 0 4)) (upd (fun _ => none) 1 (.cells [.slice none 0 0] 0 4)) 2 := SOk.new (s := ⟨.lf, 1⟩) (H := fun _ => none) (nx := 1) ⟨rfl, fun id o h => by cases h⟩ _
  obtain ⟨N, r, h1, h2⟩ := hfn (upd (fun _ => none) 1 (.cells [.slice none 0 0] 0 4)) 2 1 0 (.slice (some ⟨1, 0, none⟩) 1 1) [0] (by decide) (fun id o h => by
   by_cases e : id = 1
   ·omega
   ·rw [upd_ne e] at h; cases h) ⟨_, 1, 0, rfl, upd_eq, rfl, rfl, by decide, fun i v n h3 h4 => by
    cases i with
    | zero => injection h3 with h3; injection h4 with h4; subst h3; subst h4; exact .inl ⟨rfl, none, rfl, fun _ h => by cases h⟩
    | succ i => simp at h3, by simp, by decide⟩ _ hS
  cases r with
  | val v s1 => exact ((hsound N).call _ _ _ _ _ h1).1
  | thr v s1 => obtain ⟨_, _, _, h⟩ := h2; exact h.elim
  | code e fr s1 => exact h2.elim
  | pan fr v s1 => exact h2.elim
 ·intro μ w args' kind cs' hR hF hargs hkind
  have hkn : kind = .normal := by
   rcases hkind with h | ⟨_, h, _⟩
   ·exact h
   ·exact absurd h hsm
  subst hkn
  obtain ⟨b, c, cs, e, rfl, hb, hlen, hpos, hns, hle29, h1, h2⟩ := hin
  cases hargs with
  | cons _ u' _ r hu hrest =>
  cases hrest
  generalize hnl : ns.length = nl at hu hpos
  cases hu with
  | slE => omega
  | sl _ _ _ _ c' g hg hc =>
   obtain ⟨o', o1, o2⟩ := hR.block hb hg
   cases o2 with
   | @cells _ _ _ e' ws fz hel hsz hxx hbb hr hz hp =>
    have hF' : Fresh μ s.nx (s.nx + 60 * ns.length + 30) := hF
    obtain ⟨μ0, s0, l0, a1, a2, a3, a4, a9, a5, a6, a7⟩ := ap_see hR hr hlen hns h1 h2 hF' (by omega) ns.length (Nat.le_refl _)
    have hwl : ((ws.drop g.off).take cs.length).length = ns.length := by rw [hr.length, hlen]
    rw [show ((ws.drop g.off).take cs.length).take ns.length = (ws.drop g.off).take cs.length from by rw [List.take_take, hlen, Nat.min_self]] at a6
    have hl0 : l0.length = ns.length := by have := a6.length; omega
    have hfi : μ0 s0.nx = none := a4 _ (by omega) (by omega)
    let g0 : Img := ⟨g.blk, g.off, 4, g.size⟩
    have hle := Mu.add_le g0 hfi
    have hsee := a1.see hfi (o := .cells l0 e 4) (o' := .cells ⟨ws⟩ e' fz) (g := g0) o1 (fun id p gp h7 h8 hbk => by
     obtain ⟨j, q, n', c1, gq, m1, m2, m3, m4, m5, l', f', m6⟩ := a5 id p gp h7 h8
     exact m3 (hR.inj q b _ _ gq g m6 hb m4 hg (m5.trans hbk))) (by
     refine .cells l0 e 4 ws fz rfl hsz (fun h => by cases h) (by show g.off + l0.length ≤ _; omega) ?_ (fun _ => hz (by decide)) (fun _ v' hv => (hp (by decide) v' hv).imp fun _ k => k.mono (fun id g h => hle _ _ (a2 _ _ h)))
     show LR _ l0 ((ws.drop g.off).take l0.length)
     rw [hl0, ← hlen]
     exact a6.mono hle)
    have hgm : (μ0.add s0.nx g0) s0.nx = some g0 := by unfold Mu.add; rw [if_pos rfl]
    obtain ⟨c0, hc0⟩ : ∃ c0, CapOk g0 0 c0 c' := by
     rcases Nat.lt_or_ge c' big with hbg | hbg
     ·exact ⟨c', .inl ⟨hbg, rfl⟩⟩
     ·obtain ⟨y1, y2, y3⟩ := cap_new (sz := 0) (need := 0) (by omega)
      refine ⟨_, .inr ⟨y1, by rw [y2]; omega, ?_⟩⟩
      rw [y3]; show g.off + 0 + c' * 0 ≤ g.size; omega
    have hap : ApOk (newO s0 (.cells l0 e 4)).h.get (s0.nx + 1) s0.nx s.nx (.slice (some ⟨s0.nx, 0, none⟩) ns.length c0) ns := by
     refine ⟨l0, c0, e, rfl, by rw [newO_h]; exact Tr.put_same _ _ _, hl0, a3, by omega, fun i v n h3 h4 => ?_, hns, hle29⟩
     have hi : i < l0.length := (List.getElem?_eq_some_iff.1 h3).1
     refine (a7 i v n h3 h4).mono (fun o ho => ?_)
     rw [newO_h]
     exact Tr.put_other _ _ _ _ _ (by omega) ho
    have hnx : (newO s0 (.cells l0 e 4)).nx = s0.nx + 1 := newO_nx _ _
    obtain ⟨N, r, q1, q2⟩ := hfn _ _ _ _ _ ns (by omega) (fun id o h => by have := hsee.nx id o h; omega) hap (newO s0 (.cells l0 e 4)) ⟨hnx, fun _ _ h => h⟩
    cases r with
    | thr v s1 => obtain ⟨_, _, _, h⟩ := q2; exact h.elim
    | code e fr s1 => exact q2.elim
    | pan fr v s1 => exact q2.elim
    | val v s2 =>
     obtain ⟨H2, nx2, q3, rfl, q4⟩ := q2
     obtain ⟨-, hcall⟩ := (hsound N).call _ _ _ _ _ q1
     have hn2 : s2.nx ≤ s0.nx + 1 + 50 * ns.length + 20 := by rw [q3.nx]; exact q4
     obtain ⟨μ2, w2, v2, fr2, p1, p2, p3, p4, p5⟩ := hcall (μ0.add s0.nx g0) w [.slice (some ⟨g.blk, g.off + 0, none⟩) nl c'] .normal cs' hsee (fun id h3 h4 => by
      rw [hnx] at h3
      unfold Mu.add
      rw [if_neg (by omega)]
      exact a4 id (by omega) (by omega)) (.cons _ _ _ _ (hnl ▸ .sl s0.nx 0 ns.length c0 c' g0 hgm hc0) .nil) (.inl rfl)
     cases p4
     have himg : ∀ id o gi, (newO s0 (.cells l0 e 4)).h.get id = some o → (μ0.add s0.nx g0) id = some gi → ∃ q l f gq, s.h.get q = some (.cells l f 2) ∧ μ q = some gq ∧ gq.blk = gi.blk := fun id o gi h3 h4 => by
      rw [newO_h] at h3
      unfold Mu.add at h4
      by_cases e : id = s0.nx
      ·rw [if_pos e] at h4
       injection h4 with h4; subst h4
       exact ⟨b, _, _, g, hb, hg, rfl⟩
      ·rw [if_neg e] at h4
       rcases Tr.get_put _ _ _ _ _ h3 with ⟨e2, _⟩ | hv
       ·exact absurd e2 e
       ·obtain ⟨j, q, n', c1, gq, m1, m2, m3, m4, m5, l', f', m6⟩ := a5 id _ gi hv.2 h4
        exact ⟨q, l', f', gq, m6, m4, m5⟩
     refine ⟨μ2, w2, _, fr2, p1, R.none _, ⟨fun id g hg => p3.mu _ _ (hle _ _ (a2 _ _ hg)), fun id gi hgi => ?_, by show s.nx ≤ s.nx + _ + _; omega, p3.os, p3.tape, p3.output, p3.size, fun bk hbk hno => ?_, (fun id o g h => by rw [lf_none] at h; cases h), (fun _ id id' o o' g g' h => by
      have h : (Tr.lf : Tr AO).get id = some o := h
      rw [lf_none] at h; cases h), fun hi id cs1 e1 g1 h3 h4 h5 => ⟨?_, fun id' o' g' h => ?_⟩⟩, .bool true, p5⟩
     ·show _ ∨ (s.nx ≤ id ∧ id < s.nx + 60 * nl + 30)
      rcases p3.new id gi hgi with h3 | h3
      ·unfold Mu.add at h3
       by_cases e : id = s0.nx
       ·exact .inr ⟨by omega, by omega⟩
       ·rw [if_neg e] at h3
        exact (a9 id gi h3).imp_right (fun h4 => ⟨h4.1, by omega⟩)
      ·exact .inr ⟨by omega, by omega⟩
     ·refine p3.frame bk hbk (fun id o gi h3 h4 h5 => ?_)
      obtain ⟨q, l', f', gq, k1, k2, k3⟩ := himg id o gi h3 h4
      exact hno q _ gq k1 k2 (k3.trans h5)
     ·refine p3.frame _ h5 (fun id' o gi h6 h7 h8 => ?_)
      obtain ⟨q, l', f', gq, k1, k2, k3⟩ := himg id' o gi h6 h7
      have := hi q id _ _ gq g1 k1 h3 k2 h4 (k3.trans h8)
      subst this
      rw [show s.h.get q = _ from h3] at k1
      injection k1 with k1
      injection k1 with _ _ k1
      cases k1
     ·have h : (Tr.lf : Tr AO).get id' = some o' := h
      rw [lf_none] at h; cases h
end Go.Eng
end
section
namespace Go.Eng
def mkv (j k : Nat) : Value := .int .u8 ((UInt8.ofNat (j * 31 + k * 7 + 1)).toNat : Int)
def Mk (C : List Value) (j m : Nat) : Prop := ∀ k, k < m → C[k]? = some (mkv j k)
theorem Mk.mono {C : List Value} {j m m' : Nat} (h : Mk C j m) (hm : m' ≤ m) : Mk C j m' := fun k hk => h k (by omega)
theorem Mk.zero (C : List Value) (j : Nat) : Mk C j 0 := fun k hk => absurd hk (Nat.not_lt_zero k)
theorem mk_lay {C : List Value} {j m : Nat} (h : Mk C j m) (hm : m < C.length) : ∃ C', layL C m [mkv j m] = some C' ∧ C'.length = C.length ∧ Mk C' j (m + 1) := by
 refine ⟨_, layL_at (by simp; omega), by simp; omega, fun k hk => ?_⟩
 rcases Nat.lt_or_ge k m with h1 | h1
 ·rw [List.getElem?_append_left (by simp; omega), List.getElem?_take, if_pos h1]
  exact h k h1
 ·have : k = m := by omega
  subst this
  rw [List.getElem?_append_right (by simp; omega), List.length_take, Nat.min_eq_left (by omega), Nat.sub_self]
  rfl
theorem mk_lay2 {C C' : List Value} {j m n : Nat} (h : Mk C j n) (hl : layL C m [mkv j m] = some C') : Mk C' j n := by
 rw [layL_eq] at hl
 split at hl
 ·rename_i hle
  injection hl with hl
  subst hl
  simp only [List.length_cons, List.length_nil] at hle ⊢
  intro k hk
  rcases Nat.lt_trichotomy k m with h1 | h1 | h1
  ·rw [List.getElem?_append_left (by simp; omega), List.getElem?_take, if_pos h1]
   exact h k hk
  ·subst h1
   rw [List.getElem?_append_right (by simp; omega), List.length_take, Nat.min_eq_left (by omega), Nat.sub_self]
   rfl
  ·rw [List.getElem?_append_right (by simp; omega), List.length_take, Nat.min_eq_left (by omega), List.getElem?_append_right (by simp; omega), List.getElem?_drop]
   have := h k hk
   simp only [List.length_cons, List.length_nil]
   rw [show m + (0 + 1) + (k - m - (0 + 1)) = k by omega]
   exact this
 ·cases hl
def Em (H : Hp) (base j : Nat) (v : Value) (n m : Nat) : Prop :=
 (n = 0 ∧ ∃ a, v = .slice a 0 0 ∧ ∀ a', a = some a' → a'.spot = none) ∨
 ∃ c C e, v = .slice (some ⟨base + j, 0, none⟩) n c ∧ H (base + j) = some (.cells C e 4) ∧ n ≤ lowCap c ∧ lowCap c ≤ C.length ∧ (c ≤ 1073741824 ∨ n + 20 ≤ lowCap c) ∧ Mk C j m
theorem Em.of {H : Hp} {base j : Nat} {v : Value} {n : Nat} (h : El H (base + j) v n) : Em H base j v n 0 := by
 rcases h with h | ⟨c, C, e, h1, h2, h3, h4, h5⟩
 ·exact .inl h
 ·exact .inr ⟨c, C, e, h1, h2, h3, h4, h5, Mk.zero _ _⟩
theorem Em.shape {H : Hp} {base j : Nat} {v : Value} {n m : Nat} (h : Em H base j v n m) : ∃ a c, v = .slice a n c := by
 rcases h with ⟨rfl, a, h, _⟩ | ⟨c, C, e, h, _⟩
 ·exact ⟨_, _, h⟩
 ·exact ⟨_, _, h⟩
theorem Em.le {H : Hp} {base j : Nat} {v : Value} {n m m' : Nat} (h : Em H base j v n m) (hm : m' ≤ m) : Em H base j v n m' := by
 rcases h with h | ⟨c, C, e, h1, h2, h3, h4, h5, h6⟩
 ·exact .inl h
 ·exact .inr ⟨c, C, e, h1, h2, h3, h4, h5, h6.mono hm⟩
theorem Em.mono {A B : Hp} {base j : Nat} (hs : ∀ o, A (base + j) = some o → B (base + j) = some o) {v : Value} {n m : Nat} (h : Em A base j v n m) : Em B base j v n m := by
 rcases h with h | ⟨c, C, e, h1, h2, h3⟩
 ·exact .inl h
 ·exact .inr ⟨c, C, e, h1, hs _ h2, h3⟩
structure Tab (H : Hp) (t base : Nat) (vs : List Value) (ns : List Nat) (M : Nat → Nat → Nat) : Prop where
 tab : ∃ e, H t = some (.cells vs e 4)
 len : vs.length = ns.length
 tt : t = base + ns.length
 em : ∀ (j : Nat) (v : Value) (n : Nat), vs[j]? = some v → ns[j]? = some n → Em H base j v n (M j n)
 small : ∀ n ∈ ns, n ≤ 1048576
theorem Tab.at {H : Hp} {t base : Nat} {vs : List Value} {ns : List Nat} {M : Nat → Nat → Nat} (h : Tab H t base vs ns M) {i : Nat} (hi : i < ns.length) : ∃ a c n, vs[i]? = some (Value.slice a n c) ∧ ns[i]? = some n ∧ n ≤ 1048576 := by
 have hlt : i < vs.length := by rw [h.len]; exact hi
 have h1 : vs[i]? = some vs[i] := List.getElem?_eq_getElem hlt
 have h2 : ns[i]? = some ns[i] := List.getElem?_eq_getElem hi
 obtain ⟨a, c, h3⟩ := (h.em i _ _ h1 h2).shape
 exact ⟨a, c, ns[i], by rw [h1, h3], h2, h.small _ (List.getElem_mem _)⟩
theorem Tab.cell {H : Hp} {t base : Nat} {vs : List Value} {ns : List Nat} {M : Nat → Nat → Nat} (h : Tab H t base vs ns M) {i : Nat} {v : Value} (hv : vs[i]? = some v) : ldE H none t (0 + i * 1) = some v := by
 obtain ⟨e, he⟩ := h.tab
 show rdC H t _ = _
 simp only [rdC, he]
 rw [Nat.zero_add, Nat.mul_one]; exact hv
theorem Tab.congr {H : Hp} {t base : Nat} {vs : List Value} {ns : List Nat} {M N : Nat → Nat → Nat} (h : Tab H t base vs ns M) (hm : ∀ j n, ns[j]? = some n → N j n ≤ M j n) : Tab H t base vs ns N :=
 ⟨h.tab, h.len, h.tt, fun j v n h1 h2 => (h.em j v n h1 h2).le (hm j n h2), h.small⟩
def M1 (i k : Nat) : Nat → Nat → Nat := fun j n => if j < i then n else if j = i then k else 0
theorem Tab.next {H : Hp} {t base : Nat} {vs : List Value} {ns : List Nat} {i n : Nat} (h : Tab H t base vs ns (M1 i n)) (hn : ns[i]? = some n) : Tab H t base vs ns (M1 (i + 1) 0) :=
 h.congr (fun j m hm => by
  unfold M1
  by_cases h1 : j < i
  ·rw [if_pos h1, if_pos (by omega)]; exact Nat.le_refl _
  ·by_cases h2 : j = i
   ·subst h2
    rw [hn] at hm; injection hm with hm; subst hm
    rw [if_neg h1, if_pos rfl, if_pos (by omega)]; exact Nat.le_refl _
   ·rw [if_neg h1, if_neg h2, if_neg (by omega)]
    split <;> omega)
theorem Tab.fin {H : Hp} {t base : Nat} {vs : List Value} {ns : List Nat} (h : Tab H t base vs ns (M1 ns.length 0)) : Tab H t base vs ns (fun _ n => n) :=
 h.congr (fun j m hm => by
  have : j < ns.length := (List.getElem?_eq_some_iff.1 hm).1
  unfold M1
  rw [if_pos this]; exact Nat.le_refl _)
theorem Tab.mark {H : Hp} {t base : Nat} {vs : List Value} {ns : List Nat} {i k n c : Nat} {a : Option Addr} (h : Tab H t base vs ns (M1 i k)) (hv : vs[i]? = some (Value.slice a n c)) (hn : ns[i]? = some n) (hk : k < n) :
  ∃ C C' e, a = some ⟨base + i, 0, none⟩ ∧ H (base + i) = some (.cells C e 4) ∧ layL C k [mkv i k] = some C' ∧ Tab (upd H (base + i) (.cells C' e 4)) t base vs ns (M1 i (k + 1)) := by
 have hi : i < ns.length := (List.getElem?_eq_some_iff.1 hn).1
 rcases h.em i _ _ hv hn with ⟨h1, _⟩ | ⟨c', C, e, h1, h2, h3, h4, h5, h6⟩
 ·omega
 ·injection h1 with h1 _ h7
  subst h1
  have h6 : Mk C i k := by unfold M1 at h6; rw [if_neg (by omega), if_pos rfl] at h6; exact h6
  obtain ⟨C', g1, g2, g3⟩ := mk_lay h6 (by omega)
  refine ⟨C, C', e, rfl, h2, g1, ?_, h.len, h.tt, fun j v m hv' hn' => ?_, h.small⟩
  ·obtain ⟨e', he'⟩ := h.tab
   exact ⟨e', by rw [upd_ne (by have := h.tt; omega)]; exact he'⟩
  ·by_cases hj : j = i
   ·subst hj
    rw [hv] at hv'; injection hv' with hv'; subst hv'
    rw [hn] at hn'; injection hn' with hn'; subst hn'
    subst h7
    exact .inr ⟨c, C', e, rfl, upd_eq, h3, by omega, h5, by unfold M1; rw [if_neg (by omega), if_pos rfl]; exact g3⟩
   ·have := (h.em j v m hv' hn').mono (B := upd H (base + i) (.cells C' e 4)) (fun o ho => by rw [upd_ne (by omega)]; exact ho)
    exact this.le (by unfold M1; split <;> (try split) <;> omega)
def Gr (H : Hp) (base lo hi : Nat) (v : Value) (j m : Nat) (sv : Value) : Prop :=
 ∃ b c C e el, v = .slice (some ⟨b, 0, none⟩) m c ∧ H b = some (.cells C e el) ∧ Mk C j m ∧ (b = base + j ∨ (lo ≤ b ∧ b < hi)) ∧ isBl sv b = false
def Gi (H : Hp) (base lo hi : Nat) (v : Value) (j n m : Nat) : Prop :=
 (m = 0 ∧ n = 0 ∧ ∃ a, v = .slice a 0 0 ∧ ∀ a', a = some a' → a'.spot = none) ∨
 (∃ c C e, v = .slice (some ⟨base + j, 0, none⟩) m c ∧ H (base + j) = some (.cells C e 4) ∧ m ≤ lowCap c ∧ lowCap c ≤ C.length ∧ (c ≤ 1073741824 ∨ n + 20 ≤ lowCap c) ∧ Mk C j m) ∨
 (∃ b C, v = .slice (some ⟨b, 0, none⟩) m (big + 1 * qq + m) ∧ H b = some (.cells C 5 2) ∧ C.length = m ∧ Mk C j m ∧ lo ≤ b ∧ b < hi)
theorem Gi.of {H : Hp} {base lo hi j n : Nat} {v : Value} (h : Em H base j v n n) : Gi H base lo hi v j n n := by
 rcases h with ⟨h1, h2⟩ | ⟨c, C, e, h⟩
 ·exact .inl ⟨h1, h1, h2⟩
 ·exact .inr (.inl ⟨c, C, e, h⟩)
theorem Gi.shape {H : Hp} {base lo hi j n m : Nat} {v : Value} (h : Gi H base lo hi v j n m) : ∃ a c, v = .slice a m c := by
 rcases h with ⟨rfl, _, a, h, _⟩ | ⟨c, C, e, h, _⟩ | ⟨b, C, h, _⟩
 ·exact ⟨_, _, h⟩
 ·exact ⟨_, _, h⟩
 ·exact ⟨_, _, h⟩
structure G2 (H : Hp) (t base lo x : Nat) (vs : List Value) (ns : List Nat) (sv : Value) (gl : List Value) (i : Nat) : Prop where
 tab : Tab H t base vs ns (fun _ n => n)
 tlo : t < lo
 lox : lo ≤ x
 gs : GS H sv i gl 22 1 lo x
 gr : ∀ j, j < i → ∃ v n, gl[j]? = some v ∧ ns[j]? = some n ∧ Gr H base lo x v j (n + 20) sv
theorem G2.begin {H : Hp} {t base lo : Nat} {vs : List Value} {ns : List Nat} (h : Tab H t base vs ns (fun _ n => n)) (ht : t < lo) : G2 H t base lo lo vs ns (.slice none 0 0) [] 0 :=
 ⟨h, ht, Nat.le_refl _, GS.nil _ _ _ _ _, fun j hj => absurd hj (Nat.not_lt_zero j)⟩
theorem G2.up {H : Hp} {t base lo x y : Nat} {vs : List Value} {ns : List Nat} {sv : Value} {gl : List Value} {i : Nat} (h : G2 H t base lo x vs ns sv gl i) (hy : x ≤ y) : G2 H t base lo y vs ns sv gl i :=
 ⟨h.tab, h.tlo, Nat.le_trans h.lox hy, h.gs.mono (HSub.refl _) hy, fun j hj => by
  obtain ⟨v, n, h1, h2, b, c, C, e, el, h3, h4, h5, h6, h7⟩ := h.gr j hj
  exact ⟨v, n, h1, h2, b, c, C, e, el, h3, h4, h5, by omega, h7⟩⟩
theorem G2.keep {H B : Hp} {t base lo x : Nat} {vs : List Value} {ns : List Nat} {sv : Value} {gl : List Value} {i : Nat} {v : Value} {n : Nat} (h : G2 H t base lo x vs ns sv gl i) (hv : vs[i]? = some v) (hn : ns[i]? = some n)
  (hH : ∀ id o, H id = some o → id < x → id ≠ base + i → B id = some o) (he : Em B base i v n n) : G2 B t base lo x vs ns sv gl i := by
 have hi : i < ns.length := (List.getElem?_eq_some_iff.1 hn).1
 have htt := h.tab.tt
 have h1 := h.tlo
 have h2 := h.lox
 refine ⟨⟨?_, h.tab.len, h.tab.tt, fun j u m hu hm => ?_, h.tab.small⟩, h1, h2, ?_, fun j hj => ?_⟩
 ·obtain ⟨e, h3⟩ := h.tab.tab
  exact ⟨e, hH _ _ h3 (by omega) (by omega)⟩
 ·have hj : j < ns.length := (List.getElem?_eq_some_iff.1 hm).1
  by_cases hji : j = i
  ·subst hji
   rw [hv] at hu; injection hu with hu; subst hu
   rw [hn] at hm; injection hm with hm; subst hm
   exact he
  ·exact (h.tab.em j u m hu hm).mono (fun o ho => hH _ _ ho (by omega) (by omega))
 ·rcases h.gs with h3 | ⟨b, h3, h4, h5, h6, h7⟩
  ·exact .inl h3
  ·exact .inr ⟨b, h3, h4, hH _ _ h5 h7 (by omega), h6, h7⟩
 ·obtain ⟨u, m, k1, k2, b, c, C, e, el, k3, k4, k5, k6, k7⟩ := h.gr j hj
  exact ⟨u, m, k1, k2, b, c, C, e, el, k3, hH _ _ k4 (by omega) (by omega), k5, k6, k7⟩
section
variable {E : Env} {f n : Nat} {env : TEnv} {ds : List Deferred} {nx : Nat} {K : Value → List Deferred → Hp → Nat → Option LD → Prop} {P : Value → Hp → Nat → Prop} {d : Option (Nat × Nat)}
theorem newE_mk {H : Hp} {b : Nat} {v : Value} : newE (upd H b (.cells [v] 5 0)) [.int .u8 0] 1 false (.slice (some ⟨b, 0, none⟩) 1 1) 1 [v] :=
 ⟨rfl, by simp [srcE, Eng.rdR, upd_eq], fun a p q h => by injection h with h; injection h with h; subst h; rfl⟩
theorem One.appAp {x y : RP} {H : Hp} {t base lo u : Nat} {vs : List Value} {ns : List Nat} {sv gv v : Value} {gl : List Value} {i nn m : Nat} (hx : lookO env x = some gv) (hy : lookO env y = some (.slice (some ⟨nx, 0, none⟩) 1 1))
  (hG : G2 H t base lo u vs ns sv gl i) (hg : Gi H base u nx gv i nn m) (hv : vs[i]? = some v) (hn : ns[i]? = some nn) (hnm : nn ≤ m) (hm : m < nn + 20) (hu : u ≤ nx) (hd : dOk n d = true)
  (hk : ∀ gv' H' nx', G2 H' t base lo u vs ns sv gl i → Gi H' base u nx' gv' i nn (m + 1) → nx ≤ nx' → nx' ≤ nx + 2 → K gv' ds H' nx' none) :
  One E f n ⟨none, d, .w (.app 5 [.int .u8 0] false x y)⟩ env ds (upd H nx (.cells [mkv i m] 5 0)) (nx + 1) K P := by
 have hi : i < ns.length := (List.getElem?_eq_some_iff.1 hn).1
 have htt := hG.tab.tt
 have htl := hG.tlo
 have hlx := hG.lox
 have hns : nn ≤ 1048576 := hG.tab.small _ (List.mem_of_getElem? hn)
 have hem := hG.tab.em i v nn hv hn
 have h1 : ([mkv i m] : List Value).all oneCellB = true := rfl
 rcases hg with ⟨rfl, rfl, a, rfl, hsp⟩ | ⟨c, C, e, rfl, g1, g2, g3, g4, g5⟩ | ⟨b, C, rfl, g1, g2, g3, g4, g5⟩
 ·refine One.appO (z := [.int .u8 0]) (old := []) hx hy hsp newE_mk (by decide) (by decide) (by decide) (by cases a <;> simp [srcE]) hd (hk _ _ _ ?_ ?_ (by omega) (by omega))
  ·exact hG.keep hv hn (fun id o ho h3 h4 => by rw [upd_ne (by omega), upd_ne (by omega)]; exact ho) (hem.mono (fun o ho => by rw [upd_ne (by omega), upd_ne (by omega)]; exact ho))
  ·refine .inr (.inr ⟨nx + 1, [mkv i 0], rfl, upd_eq, rfl, fun k hk => ?_, by omega, by omega⟩)
   have : k = 0 := by omega
   subst this; rfl
 ·rcases Nat.lt_or_ge m (lowCap c) with hr | hr
  · -- there is room
   obtain ⟨C', l1, l2, l3⟩ := mk_lay g5 (by omega)
   refine One.appI (z := [.int .u8 0]) (cs' := C') hx hy newE_mk (by simp) (by omega) (by rw [upd_ne (by omega)]; exact g1) h1 (by rw [Nat.zero_add]; simp only [List.length_cons, List.length_nil]; rw [show m * (0 + 1) = m by omega]; exact l1) hd (hk _ _ _ ?_ ?_ (by omega) (by omega))
   ·refine hG.keep hv hn (fun id o ho h3 h4 => by rw [upd_ne h4, upd_ne (by omega)]; exact ho) ?_
    rcases hem with h2 | ⟨c1, C1, e1, k1, k2, k3, k4, k5, k6⟩
    ·exact .inl h2
    ·rw [g1] at k2; injection k2 with k2; injection k2 with k2 k7
     subst k2
     exact .inr ⟨c1, C', e, k1, upd_eq, k3, by omega, k5, mk_lay2 k6 l1⟩
   ·exact .inr (.inl ⟨c, C', e, rfl, upd_eq, by omega, by omega, g4, l3⟩)
  ·have hc : c ≤ 1073741824 := by omega
   have hcl : lowCap c = c := low_small (Nat.lt_of_le_of_lt hc (by decide))
   have hold : srcE (upd H nx (.cells [mkv i m] 5 0)) 1 m (.slice (some ⟨base + i, 0, none⟩) m c) = some (C.take m) := by
    simp only [srcE]
    by_cases hm0 : m = 0
    ·subst hm0; simp
    ·rw [if_neg hm0]
     simp only [Eng.rdR]
     rw [upd_ne (by omega), g1]
     simp only
     rw [if_pos (by omega), List.drop_zero, Nat.mul_one]
   refine One.appO (z := [.int .u8 0]) (old := C.take m) hx hy (fun a h => by injection h with h; subst h; rfl) newE_mk hc (by omega) (by omega) hold hd (hk _ _ _ ?_ ?_ (by omega) (by omega))
   ·exact hG.keep hv hn (fun id o ho h3 h4 => by rw [upd_ne (by omega), upd_ne (by omega)]; exact ho) (hem.mono (fun o ho => by rw [upd_ne (by omega), upd_ne (by omega)]; exact ho))
   ·refine .inr (.inr ⟨nx + 1, C.take m ++ [mkv i m], rfl, upd_eq, by simp; omega, fun k hk => ?_, by omega, by omega⟩)
    rcases Nat.lt_or_ge k m with h2 | h2
    ·rw [List.getElem?_append_left (by simp; omega), List.getElem?_take, if_pos h2]; exact g5 k h2
    ·have : k = m := by omega
     subst this
     rw [List.getElem?_append_right (by simp; omega), List.length_take, Nat.min_eq_left (by omega), Nat.sub_self]; rfl
 ·have hold : srcE (upd H nx (.cells [mkv i m] 5 0)) 1 m (.slice (some ⟨b, 0, none⟩) m (big + 1 * qq + m)) = some C := by
   simp only [srcE]
   by_cases hm0 : m = 0
   ·subst hm0
    have : C = [] := List.eq_nil_of_length_eq_zero g2
    rw [this]; rfl
   ·rw [if_neg hm0]
    simp only [Eng.rdR]
    rw [upd_ne (by omega), g1]
    simp only
    rw [if_pos (by omega), List.drop_zero, Nat.mul_one, ← g2, List.take_length]
  refine One.appG (z := [.int .u8 0]) (old := C) hx hy newE_mk (by omega) (by omega) (by omega) h1 hold (by rw [upd_ne (by omega)]; exact g1) hd (hk _ _ _ ?_ ?_ (by omega) (by omega))
  ·exact hG.keep hv hn (fun id o ho h3 h4 => by rw [upd_ne (by omega), del_ne (by omega), upd_ne (by omega)]; exact ho) (hem.mono (fun o ho => by rw [upd_ne (by omega), del_ne (by omega), upd_ne (by omega)]; exact ho))
  ·refine .inr (.inr ⟨nx + 1, C ++ [mkv i m], rfl, upd_eq, by simp; omega, fun k hk => ?_, by omega, by omega⟩)
   rcases Nat.lt_or_ge k m with h2 | h2
   ·rw [List.getElem?_append_left (by omega)]; exact g3 k h2
   ·have : k = m := by omega
    subst this
    rw [List.getElem?_append_right (by omega), g2, Nat.sub_self]; rfl
end
theorem G2.add {E : Env} {f n : Nat} {env : TEnv} {ds : List Deferred} {nx : Nat} {K : Value → List Deferred → Hp → Nat → Option LD → Prop} {P : Value → Hp → Nat → Prop} {d : Option (Nat × Nat)} {x y : RP} {H : Hp} {t base lo u : Nat} {vs : List Value} {ns : List Nat} {sv gv : Value} {gl : List Value} {i nn : Nat} (hx : lookO env x = some sv) (hy : lookO env y = some (.slice (some ⟨nx, 0, none⟩) 1 1))
  (hG : G2 H t base lo u vs ns sv gl i) (hg : Gi H base u nx gv i nn (nn + 20)) (hn : ns[i]? = some nn) (hu : u ≤ nx) (hlen : ns.length ≤ 536870912) (hd : dOk n d = true)
  (hk : ∀ sv' H', G2 H' t base lo (nx + 2) vs ns sv' (gl ++ [gv]) (i + 1) → K sv' ds H' (nx + 2) none) :
  One E f n ⟨none, d, .w (.app 22 [.slice none 0 0] false x y)⟩ env ds (upd H nx (.cells [gv] 22 0)) (nx + 1) K P := by
 have hi : i < ns.length := (List.getElem?_eq_some_iff.1 hn).1
 have htt := hG.tab.tt
 have htl := hG.tlo
 have hlx := hG.lox
 have hshape : ∃ a c, gv = .slice a (nn + 20) c := by
  rcases hg with ⟨h, _⟩ | ⟨c, C, e, rfl, _⟩ | ⟨b, C, rfl, _⟩
  ·omega
  ·exact ⟨_, _, rfl⟩
  ·exact ⟨_, _, rfl⟩
 have hlg := hG.gs.len
 refine One.appGB (z := [.slice none 0 0]) (m := i) (k := 1) (lo := lo) (cells := gl) (new := [gv]) hx hy ((hG.gs.mono (fun id o ho => ho) hu).updLo (.inr (Nat.le_refl _)) (Nat.le_succ _)) (by omega) (by
   exact ⟨rfl, by simp [srcE, Eng.rdR, upd_eq], fun a p q h => by injection h with h; injection h with h; subst h; rfl⟩) rfl (Nat.le_refl _) (by obtain ⟨a, c, rfl⟩ := hshape; rfl) (by omega) hd ?_
 intro H1 k1 k2 k3 _
 have hbl : ∀ b, b < lo → isBl sv b = false := fun b hb => by
  cases h : isBl sv b with
  | false => rfl
  | true => have := hG.gs.blk h; omega
 have hbl2 : ∀ b, u ≤ b → isBl sv b = false := fun b hb => by
  cases h : isBl sv b with
  | false => rfl
  | true => have := hG.gs.blk h; omega
 have keep : ∀ b o, H b = some o → b < nx → isBl sv b = false → H1 b = some o := fun b o ho hb hs => k3 b o (by rw [upd_ne (by omega)]; exact ho) (by omega) hs
 have hnb : ∀ b, b < nx → isBl (.slice (some ⟨nx + 1, 0, none⟩) (i + 1) (big + 1 * qq + (i + 1))) b = false := fun b hb => by
  show Nat.beq (nx + 1) b = false
  rw [show Nat.beq (nx + 1) b = decide (nx + 1 = b) from by rw [natBeq]]
  exact decide_eq_false (by omega)
 refine hk _ H1 ⟨⟨?_, hG.tab.len, htt, fun j v m hv hm => ?_, hG.tab.small⟩, htl, by omega, k1, fun j hj => ?_⟩
 ·obtain ⟨e, h3⟩ := hG.tab.tab
  exact ⟨e, keep _ _ h3 (by omega) (hbl _ htl)⟩
 ·have hj : j < ns.length := (List.getElem?_eq_some_iff.1 hm).1
  exact (hG.tab.em j v m hv hm).mono (fun o ho => keep _ _ ho (by omega) (hbl _ (by omega)))
 ·rcases Nat.lt_or_ge j i with hj' | hj'
  ·obtain ⟨v, m, j1, j2, b, c, C, e, el, j3, j4, j5, j6, j7⟩ := hG.gr j hj'
   refine ⟨v, m, by rw [List.getElem?_append_left (by omega)]; exact j1, j2, b, c, C, e, el, j3, keep _ _ j4 (by omega) j7, j5, by omega, hnb _ (by omega)⟩
  ·have : j = i := by omega
   subst this
   refine ⟨gv, nn, by rw [List.getElem?_append_right (by omega), hlg, Nat.mul_one, Nat.sub_self]; rfl, hn, ?_⟩
   rcases hg with ⟨h, _⟩ | ⟨c, C, e, rfl, g1, g2, g3, g4, g5⟩ | ⟨b, C, rfl, g1, g2, g3, g4, g5⟩
   ·omega
   ·exact ⟨_, c, C, e, _, rfl, keep _ _ g1 (by omega) (hbl _ (by omega)), g5, .inl rfl, hnb _ (by omega)⟩
   ·exact ⟨b, _, C, _, _, rfl, keep _ _ g1 g5 (hbl2 _ g4), g3, .inr ⟨by omega, by omega⟩, hnb _ g5⟩
theorem GS.tbl {H : Hp} {v : Value} {n : Nat} {cells : List Value} {e : TypeId} {sz lo hi : Nat} (h : GS H v n cells e sz lo hi) (hn : 0 < n) : ∃ b, v = .slice (some ⟨b, 0, none⟩) n (big + sz * qq + n) ∧ H b = some (.cells cells e (sz + 1)) := by
 rcases h with ⟨_, h, _⟩ | ⟨b, h1, h2, h3, h4, h5⟩
 ·omega
 ·exact ⟨b, h1, h3⟩
theorem bin_neqF {tk : TK} {con : Bool} {k : IntKind} {a b : Int} (h : a = b) : rBinV .neq tk con (.int k a) (.int k b) = some (.bool false) := by
 rw [bin_neq]; simp [h]
end Go.Eng
end
