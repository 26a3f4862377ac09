/-
  Part of the proof of StreamReadsUptoSaid: The program reads a stream.
-/
import Derived.Test.YtgidhbelekicbaaGreatSh
import Derived.Test.YtgidhbelekicbaaGreatSa
set_option linter.unusedVariables false
section
namespace Go.Proofs
open Go.Eng
variable {sm : Nat → Option (List Value → St → Option (Value × St))}
theorem GB.fr {A B : Hp} {v : Value} {l : List UInt8} {lo hi : Nat} (h : GB A v l lo hi) (hs : ∀ i o, lo ≤ i → A i = some o → B i = some o) : GB B v l lo hi := by
 rcases h with h | ⟨b, h1, h2, h3, h4, h5⟩
 ·exact .inl h
 ·exact .inr ⟨b, h1, h2, hs _ _ h4 h3, h4, h5⟩
theorem GB.sl {A : Hp} {v : Value} {l : List UInt8} {lo hi : Nat} (h : GB A v l lo hi) : SlB A lo v l := by
 rcases h with ⟨h1, h2, h3⟩ | ⟨b, h1, h2, h3, h4, h5⟩
 ·have h0 : l = [] := List.eq_nil_of_length_eq_zero h2
  subst h0; subst h1; exact SlB.nil _ _
 ·exact ⟨some ⟨b, 0, none⟩, _, h1, BS.whole h3, fun b' o hb => by injection hb with hb; injection hb with hb; omega⟩
def ChP (H : Hp) (hi : Nat) : Nat → List Chg → List Value → Prop
 | lo, [], l => l = [] ∧ lo ≤ hi
 | lo, c :: cl, l => ∃ v1 v2 v3 r m0 m1 m2 m3, l = chL c v1 v2 v3 ++ r ∧ GB H v1 c.key m0 m1 ∧ GB H v2 c.old m1 m2 ∧ GB H v3 c.new m2 m3 ∧ lo ≤ m0 ∧ m0 ≤ m1 ∧ m1 ≤ m2 ∧ m2 ≤ m3 ∧ ChP H hi m3 cl r
theorem ChP.le {H : Hp} {hi : Nat} : ∀ {cl : List Chg} {lo : Nat} {l : List Value}, ChP H hi lo cl l → lo ≤ hi
 | [], _, _, h => h.2
 | _ :: _, _, _, h => by
  obtain ⟨v1, v2, v3, r, m0, m1, m2, m3, _, _, _, _, h1, h2, h3, h4, h5⟩ := h
  have := ChP.le h5; omega
theorem ChP.hi {H : Hp} {hi hj : Nat} (hh : hi ≤ hj) : ∀ {cl : List Chg} {lo : Nat} {l : List Value}, ChP H hi lo cl l → ChP H hj lo cl l
 | [], _, _, h => ⟨h.1, Nat.le_trans h.2 hh⟩
 | _ :: _, _, _, h => by
  obtain ⟨v1, v2, v3, r, m0, m1, m2, m3, k1, k2, k3, k4, h1, h2, h3, h4, h5⟩ := h
  exact ⟨v1, v2, v3, r, m0, m1, m2, m3, k1, k2, k3, k4, h1, h2, h3, h4, ChP.hi hh h5⟩
theorem ChP.lo {H : Hp} {hi lo l2 : Nat} {cl : List Chg} {l : List Value} (h : ChP H hi lo cl l) (hl : l2 ≤ lo) : ChP H hi l2 cl l := by
 cases cl with
 | nil => exact ⟨h.1, Nat.le_trans hl h.2⟩
 | cons c cl =>
  obtain ⟨v1, v2, v3, r, m0, m1, m2, m3, k1, k2, k3, k4, h1, h2, h3, h4, h5⟩ := h
  exact ⟨v1, v2, v3, r, m0, m1, m2, m3, k1, k2, k3, k4, by omega, h2, h3, h4, h5⟩
theorem ChP.snoc {H : Hp} {hi m0 m1 m2 m3 : Nat} {c : Chg} {v1 v2 v3 : Value} (k1 : GB H v1 c.key m0 m1) (k2 : GB H v2 c.old m1 m2) (k3 : GB H v3 c.new m2 m3) (h0 : hi ≤ m0) (h1 : m0 ≤ m1) (h2 : m1 ≤ m2) (h3 : m2 ≤ m3) : ∀ {cl : List Chg} {lo : Nat} {l : List Value}, ChP H hi lo cl l → ChP H m3 lo (cl ++ [c]) (l ++ chL c v1 v2 v3)
 | [], lo, l, h => by
  obtain ⟨rfl, hl⟩ := h
  exact ⟨v1, v2, v3, [], m0, m1, m2, m3, by simp, k1, k2, k3, by omega, h1, h2, h3, rfl, Nat.le_refl _⟩
 | d :: cl, lo, l, h => by
  obtain ⟨w1, w2, w3, r, n0, n1, n2, n3, rfl, j1, j2, j3, i1, i2, i3, i4, i5⟩ := h
  exact ⟨w1, w2, w3, r ++ chL c v1 v2 v3, n0, n1, n2, n3, by simp, j1, j2, j3, i1, i2, i3, i4, ChP.snoc k1 k2 k3 h0 h1 h2 h3 i5⟩
theorem ChP.fr {A B : Hp} {hi L : Nat} (hs : ∀ i o, L ≤ i → A i = some o → B i = some o) : ∀ {cl : List Chg} {lo : Nat} {l : List Value}, L ≤ lo → ChP A hi lo cl l → ChP B hi lo cl l
 | [], _, _, _, h => h
 | _ :: _, lo, _, hl, h => by
  obtain ⟨w1, w2, w3, r, n0, n1, n2, n3, e, j1, j2, j3, i1, i2, i3, i4, i5⟩ := h
  exact ⟨w1, w2, w3, r, n0, n1, n2, n3, e, j1.fr (fun i o hi => hs i o (by omega)), j2.fr (fun i o hi => hs i o (by omega)), j3.fr (fun i o hi => hs i o (by omega)), i1, i2, i3, i4, ChP.fr hs (by omega) i5⟩
theorem ChP.toV {H : Hp} {hi : Nat} : ∀ {cl : List Chg} {lo : Nat} {l : List Value}, ChP H hi lo cl l → ChV H lo cl l
 | [], _, _, h => h.1
 | _ :: _, lo, _, h => by
  obtain ⟨w1, w2, w3, r, n0, n1, n2, n3, e, j1, j2, j3, i1, i2, i3, i4, i5⟩ := h
  exact ⟨w1, w2, w3, r, e, j1.sl.le i1, j2.sl.le (by omega), j3.sl.le (by omega), (ChP.toV (i5.lo (by omega) : ChP H hi lo _ r))⟩
def LsP (H : Hp) (lo hi : Nat) (v : Value) (cl : List Chg) : Prop := ∃ cells, GS H v cl.length cells 68 4 lo hi ∧ ChP H hi lo cl cells
theorem LsP.toC {H : Hp} {lo hi : Nat} {v : Value} {cl : List Chg} (h : LsP H lo hi v cl) : LsC H lo hi v cl := by
 obtain ⟨c, h1, h2⟩ := h
 exact ⟨c, h1, h2.toV⟩
theorem LsP.mono {A B : Hp} {lo hi hj : Nat} {v : Value} {cl : List Chg} (h : LsP A lo hi v cl) (hs : HSub A B) (hh : hi ≤ hj) : LsP B lo hj v cl := by
 obtain ⟨c, h1, h2⟩ := h
 exact ⟨c, h1.mono hs hh, (h2.fr (fun i o _ => hs i o) (Nat.le_refl _)).hi hh⟩
theorem LsP.le {A : Hp} {lo hi l : Nat} {v : Value} {cl : List Chg} (h : LsP A lo hi v cl) (hl : l ≤ lo) : LsP A l hi v cl := by
 obtain ⟨c, h1, h2⟩ := h
 exact ⟨c, h1.le hl, h2.lo hl⟩
def RdP (H : Hp) (lo hi : Nat) (l : List UInt8) (hd : List Value) (lv : Value) (e : Nat) : Prop := match parse l with
 | .error f => hd = hd0 ∧ lv = .slice none 0 0 ∧ e = f
 | .ok (hc, cl) => hd = hc ∧ LsP H lo hi lv cl ∧ e = 0
theorem RdP.err {H : Hp} {lo hi : Nat} {l : List UInt8} {f : Nat} (h : parse l = .error f) : RdP H lo hi l hd0 (.slice none 0 0) f := by unfold RdP; rw [h]; exact ⟨rfl, rfl, rfl⟩
theorem RdP.ok {H : Hp} {lo hi : Nat} {l : List UInt8} {hc : List Value} {cl : List Chg} {lv : Value} (h : parse l = .ok (hc, cl)) (hl : LsP H lo hi lv cl) : RdP H lo hi l hc lv 0 := by unfold RdP; rw [h]; exact ⟨rfl, hl, rfl⟩
theorem RdP.out {H : Hp} {lo hi : Nat} {l : List UInt8} {hd : List Value} {lv : Value} {e : Nat} (h : RdP H lo hi l hd lv e) (hlh : lo ≤ hi) : hd = hdOf l ∧ LsP H lo hi lv (chOf l) ∧ e = erOf l := by
 unfold RdP at h
 unfold hdOf chOf erOf
 cases hp : parse l with
 | error f =>
  rw [hp] at h
  obtain ⟨h1, rfl, h3⟩ := h
  exact ⟨h1, ⟨[], GS.nil _ _ _ _ _, rfl, hlh⟩, h3⟩
 | ok q =>
  obtain ⟨hc, cl⟩ := q
  rw [hp] at h
  exact h
theorem leN_leV : ∀ (t : List UInt8), leN (leV t) t.length = t
 | [] => rfl
 | b :: r => by
  have h := leN_leV r
  have hb := b.toNat_lt
  show UInt8.ofNat (b.toNat + 256 * leV r) :: leN ((b.toNat + 256 * leV r) / 256) r.length = _
  rw [show (b.toNat + 256 * leV r) / 256 = leV r by omega, h]
  congr 1
  apply UInt8.toNat_inj.1
  rw [UInt8.toNat_ofNat']
  omega
theorem leV_leN : ∀ (w x : Nat), x < 256 ^ w → leV (leN x w) = x
 | 0, x, h => by simp at h; subst h; rfl
 | w + 1, x, h => by
  have hx : x / 256 < 256 ^ w := by rw [Nat.pow_succ] at h; omega
  have := leV_leN w (x / 256) hx
  show (UInt8.ofNat x).toNat + 256 * leV (leN (x / 256) w) = x
  rw [this, UInt8.toNat_ofNat']
  omega
theorem sum4 {t : List UInt8} {x : Nat} (ht : t.length = 4) (hx : x < 4294967296) : gV (t, 0) 4 = x ↔ t = leN x 4 := by
 have e : gV (t, 0) 4 = leV t := by
  have h1 : 4 ≤ t.length := by omega
  have h2 : t.length ≤ 4 := by omega
  show leV (if (0 : Nat) = 0 then (if 4 ≤ t.length then t.take 4 else []) else []) = _
  rw [if_pos rfl, if_pos h1, List.take_of_length_le h2]
 rw [e]
 constructor
 ·intro h; rw [← h, ← ht, leN_leV]
 ·intro h; rw [h]; exact leV_leN 4 x hx
theorem bin_neqMark0 {con : Bool} {a b c : Nat} : rBinV .neq (.flat markK) con (.agg ⟨[.int .i64 (a : Int), .int .i64 (b : Int), .int .u32 (c : Int)]⟩) (.agg ⟨[.int .i64 0, .int .i64 0, .int .u32 0]⟩) = some (.bool (decide (¬ (a = 0 ∧ b = 0 ∧ c = 0)))) := by
 show some (Value.bool (not (and (eqF a 0) (and (eqF b 0) (and (eqF c 0) true))))) = _
 congr 2
 by_cases h : a = 0 ∧ b = 0 ∧ c = 0
 ·rw [decide_eq_false (not_not_intro h)]
  obtain ⟨rfl, rfl, rfl⟩ := h; rfl
 ·rw [decide_eq_true h]
  simp only [eqF_eq, Bool.and_true]
  by_cases h1 : a = 0
  ·by_cases h2 : b = 0
   ·have h3 : ¬ c = 0 := fun h3 => h ⟨h1, h2, h3⟩
    rw [decide_eq_false (p := (c : Int) = 0) (by omega)]; simp
   ·rw [decide_eq_false (p := (b : Int) = 0) (by omega)]; simp
  ·rw [decide_eq_false (p := (a : Int) = 0) (by omega)]; simp
theorem bin_neq2 {con : Bool} {p q : Prop} [Decidable p] [Decidable q] : rBinV .neq (.flat (List.replicate 2 .b)) con (.agg ⟨[.bool (decide p), .bool (decide q)]⟩) (.agg ⟨[.bool true, .bool true]⟩) = some (.bool (decide (¬ (p ∧ q)))) := by
 by_cases hp : p <;> by_cases hq : q <;> simp only [hp, hq, decide_true, decide_false, and_self, not_true, not_false_eq_true, and_false, false_and] <;> rfl
theorem spec19 (hsm : sm 19 = none) (hsm40 : sm 40 = none) (hsm42 : sm 42 = none) (hsm43 : sm 43 = none) (hsm95 : sm 95 = none) (hsm162 : sm 162 = none) (hsm45 : sm 45 = none) (hsm46 : sm 46 = none) (hsm47 : sm 47 = none) (hsm41 : sm 41 = none) (hsm91 : sm 91 = none) (hsm160 : sm 160 = none) (hsm92 : sm 92 = none) (hsm94 : sm 94 = none) (hsm100 : sm 100 = none) (hsm167 : sm 167 = none) (hsm166 : sm 166 = none) (hsm237 : sm 237 = none) (hsm318 : sm 318 = none) (hsm238 : sm 238 = none) (hsm227 : sm 227 = none) (hsm168 : sm 168 = none) (hsm239 : sm 239 = none) (hsm164 : sm 164 = none) (hsm236 : sm 236 = none) (hsm44 : sm 44 = none) (hsm96 : sm 96 = none) (hsm163 : sm 163 = none) (hsm97 : sm 97 = none) (hsm98 : sm 98 = none) (hsm99 : sm 99 = none) (hsm165 : sm 165 = none) (hsm101 : sm 101 = none) (hsm102 : sm 102 = none) (hsm169 : sm 169 = none) (hsm93 : sm 93 = none) (hsm161 : sm 161 = none) (H : Hp) (nx : Nat) (hH : HB H nx) (a : Option Addr) (l : List UInt8) (c : Nat) (ha : BS H a l) (hl : l.length ≤ 536870912) (hcl0 : l.length ≤ c) (hc0 : c ≤ 1073741824) : FnOk (envS sm) 19 [.slice a l.length c] H nx (fun v H' nx' => ∃ hd lv e, v = .tuple ⟨[.agg ⟨hd⟩, lv, .int .i64 ((e : Nat) : Int)]⟩ ∧ RdP H' (nx + 1) nx' l hd lv e ∧ HSub H H' ∧ HB H' nx' ∧ nx < nx') (fun _ _ _ => False) := by
 refine FnOk.of (fn := Tryz.f19) hsm rfl rfl rfl ?_
 refine WC.seqR (xs := [oq 2 (.m (.alc [(.bool false), (.int .i64 0), (.int .i64 0), (.int .u32 0), (.int .i64 0), (.int .i64 0), (.int .u32 0), (.int .i64 0)] 30)),
   om 3 (.v (.slice none 0 0)),
   om 4 (.v (.int .i64 0))]) (by kernel_rfl) ?_
 refine WS.c (One.alc rfl ?_)
 have hB1 := hH.new (o := .cells hd0 30 0)
 have hS1 : HSub H (upd H nx (.cells hd0 30 0)) := HSub.new hH (Nat.le_refl _) (HSub.refl H)
 have hA1 := ha.mono hS1
 refine WS.mv rfl rfl ?_
 refine WS.mv rfl rfl ?_
 refine WS.nil ?_
 refine WC.seqR (xs := [om 5 (.v (.func (.func 40) #[] #[]))]) (by kernel_rfl) ?_
 refine WS.mv rfl rfl ?_
 refine WS.nil ?_
 refine WC.seq ?_
 refine WC.block ?_
 refine WC.seqR (xs := [om 18 (.t 0),
   oq 19 (.p (.len (.t 18))),
   oq 20 (.p (.bin .gtr .other true (.t 19) (.v (.int .i64 16777216)))),
   om 17 (.t 20)]) (by kernel_rfl) ?_
 refine WS.mv rfl rfl ?_
 refine WS.c (One.len rfl rfl ?_)
 refine WS.c (One.bin rfl rfl bin_gtr rfl ?_)
 refine WS.mv rfl rfl ?_
 refine WS.nil ?_
 refine WC.cond rfl (fun hc1 => ?_) (fun hc1 => ?_)
 ·refine WC.seqR (xs := [om 21 (.t 5),
    oq 22 (.call (.t 21) [(.v (.int .i64 4))]),
    oq 23 (.p (.ext (.t 22) 0)),
    oq 24 (.p (.ext (.t 22) 1)),
    oq 25 (.p (.ext (.t 22) 2)),
    ⟨none, none, .w (.sto 8 (.t 2) (.t 23))⟩,
    om 3 (.t 24),
    om 4 (.t 25)]) (by kernel_rfl) ?_
  refine WS.mv rfl rfl ?_
  refine WS.c (One.call rfl rfl (spec40 hsm40 _ _ 4 hB1) rfl ?_ (fun _ _ _ h => h.elim))
  rintro _ _ _ ⟨rfl, rfl, rfl⟩
  refine WS.c (One.ext rfl rfl rfl ?_)
  refine WS.c (One.ext rfl rfl rfl ?_)
  refine WS.c (One.ext rfl rfl rfl ?_)
  refine WS.z (One.sto (cs' := hd0) rfl rfl upd_eq rfl rfl rfl rfl ?_)
  refine WS.mv rfl rfl ?_
  refine WS.mv rfl rfl ?_
  refine WS.nil ?_
  refine WC.ret ?_
  exact EndOk.now rfl (resE_cell rfl (by kernel_rfl) (ld_sameA (m := 8) (Nat.le_refl 8) rfl) rfl) ⟨_, _, 4, rfl, RdP.err (parse_4 (by omega)), HSub.new hH (Nat.le_refl _) hS1, (hB1.mono (by omega)).upd (by omega), by omega⟩
 ·refine WC.seqR (xs := [om 27 (.t 0),
    oq 28 (.p (.len (.t 27))),
    oq 29 (.p (.bin .lss .other true (.t 28) (.v (.int .i64 37)))),
    om 26 (.t 29)]) (by kernel_rfl) ?_
  refine WS.mv rfl rfl ?_
  refine WS.c (One.len rfl rfl ?_)
  refine WS.c (One.bin rfl rfl bin_lss rfl ?_)
  refine WS.mv rfl rfl ?_
  refine WS.nil ?_
  refine WC.cond rfl (fun hc2 => ?_) (fun hc2 => ?_)
  ·refine WC.seqR (xs := [om 30 (.t 5),
     oq 31 (.call (.t 30) [(.v (.int .i64 2))]),
     oq 32 (.p (.ext (.t 31) 0)),
     oq 33 (.p (.ext (.t 31) 1)),
     oq 34 (.p (.ext (.t 31) 2)),
     ⟨none, none, .w (.sto 8 (.t 2) (.t 32))⟩,
     om 3 (.t 33),
     om 4 (.t 34)]) (by kernel_rfl) ?_
   refine WS.mv rfl rfl ?_
   refine WS.c (One.call rfl rfl (spec40 hsm40 _ _ 2 hB1) rfl ?_ (fun _ _ _ h => h.elim))
   rintro _ _ _ ⟨rfl, rfl, rfl⟩
   refine WS.c (One.ext rfl rfl rfl ?_)
   refine WS.c (One.ext rfl rfl rfl ?_)
   refine WS.c (One.ext rfl rfl rfl ?_)
   refine WS.z (One.sto (cs' := hd0) rfl rfl upd_eq rfl rfl rfl rfl ?_)
   refine WS.mv rfl rfl ?_
   refine WS.mv rfl rfl ?_
   refine WS.nil ?_
   refine WC.ret ?_
   exact EndOk.now rfl (resE_cell rfl (by kernel_rfl) (ld_sameA (m := 8) (Nat.le_refl 8) rfl) rfl) ⟨_, _, 2, rfl, RdP.err (parse_2 (by omega) (by omega)), HSub.new hH (Nat.le_refl _) hS1, (hB1.mono (by omega)).upd (by omega), by omega⟩
  ·refine WC.skip ?_
   refine WC.seqR (xs := [om 35 (.t 0),
     om 36 (.t 0),
     oq 37 (.p (.len (.t 36))),
     oq 38 (.p (.bin .sub .other true (.t 37) (.v (.int .i64 4)))),
     oq 39 (.p (.slS 1 (.t 35) none (some (.t 38)) none)),
     om 6 (.t 39)]) (by kernel_rfl) ?_
   refine WS.mv rfl rfl ?_
   refine WS.mv rfl rfl ?_
   refine WS.c (One.len rfl rfl ?_)
   refine WS.c (One.bin rfl rfl (bin_sub64 (by omega) (by omega)) rfl ?_)
   obtain ⟨b1, o1, hb1, rfl⟩ : ∃ b o, b < nx ∧ a = some ⟨b, o, none⟩ := by
    obtain ⟨b, o, _, _, _, h, h2, _⟩ := ha.row (by intro h; rw [h] at hc2; exact hc2 (by decide))
    exact ⟨b, o, hH _ _ h2, h⟩
   refine WS.c (One.slBS (l := 0) (h := l.length - 4) rfl hA1 hc0 hcl0 (bnd_int rfl (by omega) (by omega)) (by omega) rfl (Nat.zero_le _) rfl ?_)
   intro o' hBo
   rw [List.drop_zero, Nat.sub_zero] at hBo ⊢
   obtain ⟨al, hal⟩ : ∃ al, al = l.take (l.length - 4) := ⟨_, rfl⟩
   rw [← hal] at hBo ⊢
   have hall : al.length ≤ l.length := by rw [hal, List.length_take]; omega
   have hal4 : al.length = l.length - 4 := by rw [hal, List.length_take]; omega
   refine WS.mv rfl rfl ?_
   refine WS.nil ?_
   refine WC.seq ?_
   refine WC.seqR (xs := [om 40 (.t 0),
     om 41 (.t 6),
     oq 42 (.p (.len (.t 41))),
     oq 43 (.p (.slS 1 (.t 40) (some (.t 42)) none none)),
     oq 44 (.call (.v (.func (.func 42) #[] #[])) [(.t 43)]),
     oq 45 (.call (.v (.func (.func 41) #[] #[])) [(.t 44)]),
     om 46 (.t 6),
     oq 47 (.call (.v (.func (.func 43) #[] #[])) [(.t 46)]),
     oq 48 (.p (.bin .neq .other false (.t 45) (.t 47)))]) (by kernel_rfl) ?_
   refine WS.mv rfl rfl ?_
   refine WS.mv rfl rfl ?_
   refine WS.c (One.len rfl rfl ?_)
   refine WS.c (One.slBS (bs := l) (l := al.length) (h := l.length) rfl hA1 hc0 hcl0 rfl (Nat.le_refl _) (bnd_int rfl rfl (by omega)) (by omega) rfl ?_)
   intro o2 hBt
   rw [List.take_of_length_le (by rw [List.length_drop]; omega), show List.drop al.length l = List.drop (l.length - 4) l by rw [hal4]] at hBt ⊢
   refine WS.c (One.call rfl rfl (spec42 hsm42 _ _ hB1 _ (l.drop (l.length - 4)) _ hBt (by rw [List.length_drop]; omega) (by intro h; have := congrArg List.length h; rw [List.length_drop] at this; simp only [List.length_nil] at this; omega)) rfl ?_ (fun _ _ _ h => h.elim))
   rintro _ H2 n2 ⟨r0, b0, rfl, hr0, hR0, hb0, hS2, hB2, hn2⟩
   refine WS.c (One.call rfl rfl (spec41s hsm41 hsm91 hsm160 hsm92 hsm94 hsm93 hsm161 _ _ r0 b0 (l.drop (l.length - 4), 0) hR0 hB2) rfl ?_ (fun _ _ _ h => h.elim))
   rintro _ H3 n3 ⟨rfl, _, hS3, hB3, hn3⟩
   have hT3 := hS2.thr (hB1.no (by omega)) hS3
   refine WS.mv rfl rfl ?_
   refine WS.c (One.call rfl rfl (spec43 hsm43 hsm95 hsm162 _ _ hB3 _ al _ (hBo.mono hT3) (by omega) (AB.at (by omega))) rfl ?_ (fun _ _ _ h => h.elim))
   rintro _ _ _ ⟨rfl, rfl, rfl⟩
   refine WS.c (One.bin rfl rfl bin_neq rfl ?_)
   refine WS.nil ?_
   refine WC.cond rfl (fun hc3 => ?_) (fun hc3 => ?_)
   ·refine WC.seqR (xs := [om 49 (.t 5),
      oq 50 (.call (.t 49) [(.v (.int .i64 6))]),
      oq 51 (.p (.ext (.t 50) 0)),
      oq 52 (.p (.ext (.t 50) 1)),
      oq 53 (.p (.ext (.t 50) 2)),
      ⟨none, none, .w (.sto 8 (.t 2) (.t 51))⟩,
      om 3 (.t 52),
      om 4 (.t 53)]) (by kernel_rfl) ?_
    refine WS.mv rfl rfl ?_
    refine WS.c (One.call rfl rfl (spec40 hsm40 _ _ 6 (hB3.mono (by omega))) rfl ?_ (fun _ _ _ h => h.elim))
    rintro _ _ _ ⟨rfl, rfl, rfl⟩
    refine WS.c (One.ext rfl rfl rfl ?_)
    refine WS.c (One.ext rfl rfl rfl ?_)
    refine WS.c (One.ext rfl rfl rfl ?_)
    refine WS.z (One.sto (cs' := hd0) rfl rfl (hT3 _ _ upd_eq) rfl rfl rfl rfl ?_)
    refine WS.mv rfl rfl ?_
    refine WS.mv rfl rfl ?_
    refine WS.nil ?_
    refine WC.ret ?_
    exact EndOk.now rfl (resE_cell rfl (by kernel_rfl) (ld_sameA (m := 8) (Nat.le_refl 8) rfl) rfl) ⟨_, _, 6, rfl, RdP.err (parse_6 (by omega) (by omega) (by rw [← hal]; exact fun h => hc3 (congrArg _ ((sum4 (by rw [List.length_drop]; omega) (crcN_lt al)).2 h)))), HSub.new hH (Nat.le_refl _) (hS1.trans hT3), (hB3.mono (by omega)).upd (by omega), by omega⟩
   ·have hsum := (sum4 (t := l.drop (l.length - 4)) (by rw [List.length_drop]; omega) (crcN_lt al)).1 (by have := Decidable.of_not_not hc3; omega)
    refine WC.skip ?_
    refine WC.seqR (xs := [om 54 (.t 6),
      oq 55 (.call (.v (.func (.func 42) #[] #[])) [(.t 54)]),
      oq 56 (.p (.bld [(0, 1, (.t 55))] [(.pointer none)])),
      oq 7 (.m (.alc [(.pointer none)] 112)),
      ⟨none, none, .w (.sto 1 (.t 7) (.t 56))⟩]) (by kernel_rfl) ?_
    refine WS.mv rfl rfl ?_
    refine WS.c (One.call rfl rfl (spec42 hsm42 _ _ (hB3.mono (by omega)) _ al _ (hBo.mono hT3) (by omega) (by intro h; rw [h] at hal4; simp only [List.length_nil] at hal4; omega)) rfl ?_ (fun _ _ _ h => h.elim))
    rintro _ H4 n4 ⟨r, b, rfl, hr4, hR4, hb4, hS4, hB4, hn4⟩
    have hrn := hR4.lt hB4
    have hbn := hR4.ltb hB4
    have hT4 := hT3.trans hS4
    refine WS.c (One.bld rfl rfl ?_)
    refine WS.c (One.alc rfl ?_)
    refine WS.z (One.sto (cs' := [.pointer (some ⟨r, 0, none⟩)]) rfl rfl upd_eq rfl rfl rfl rfl ?_)
    refine WS.nil ?_
    refine WC.seqT (l := [oq 57 (.p (.fad (.t 7) 0)),
      oq 58 (.l (.ld none (.t 57))),
      oq 59 (.call (.v (.func (.func 41) #[] #[])) [(.t 58)]),
      oq 60 (.p (.fad (.t 7) 0)),
      oq 61 (.l (.ld none (.t 60))),
      oq 62 (.call (.v (.func (.func 44) #[] #[])) [(.t 61)]),
      om 8 (.t 59),
      om 9 (.t 62)]) (ws := [(0, 0), (0, 0), (0, 1), (0, 1), (0, 1), (1, 2), (2, 2), (2, 2)]) (xs := [(oq 57 (.p (.fad (.t 7) 0)), [7]),
      (oq 58 (.l (.ld none (.t 57))), [57]),
      (oq 59 (.call (.v (.func (.func 41) #[] #[])) [(.t 58)]), [58]),
      (oq 60 (.p (.fad (.t 7) 0)), [7]),
      (oq 61 (.l (.ld none (.t 60))), [60]),
      (oq 62 (.call (.v (.func (.func 44) #[] #[])) [(.t 61)]), [61]),
      (om 8 (.t 59), [59]),
      (om 9 (.t 62), [62])]) (by kernel_rfl) (by kernel_rfl) ?_
    have hRa := (hR4.upd (c := n4) (o := .cells [.pointer none] 112 0) (by omega) (by omega)).upd (c := n4) (o := .cells [.pointer (some ⟨r, 0, none⟩)] 112 0) (by omega) (by omega)
    have hBa := (hB4.new (o := .cells [.pointer none] 112 0)).upd (b := n4) (o := .cells [.pointer (some ⟨r, 0, none⟩)] 112 0) (by omega)
    have hTa := HSub.new (b := n4) (o := .cells [.pointer (some ⟨r, 0, none⟩)] 112 0) hB1 (by omega) (HSub.new (b := n4) (o := .cells [.pointer none] 112 0) hB1 (by omega) hT4)
    have hrba : (upd (upd H4 n4 (.cells [.pointer none] 112 0)) n4 (.cells [.pointer (some ⟨r, 0, none⟩)] 112 0)) n4 = some (.cells [.pointer (some ⟨r, 0, none⟩)] 112 0) := upd_eq
    refine WD.q rfl (One.fad rfl rfl ⟨rfl, ?_⟩)
    refine WD.r (One.ld rfl (ld_of (o := 0) (v := .pointer (some ⟨r, 0, none⟩)) hrba rfl) rfl ⟨_, rfl, ?_⟩)
    refine WD.l rfl (One.call rfl rfl (spec41s hsm41 hsm91 hsm160 hsm92 hsm94 hsm93 hsm161 _ _ r b ((al, 0)) hRa hBa) rfl ?_ (fun _ _ _ h => h.elim))
    rintro _ H5 n5 ⟨rfl, hR5, hS5, hB5, hn5⟩
    refine ⟨rfl, ?_⟩
    have hrb5 := del_at hS5 hrba (show n4 ≠ r by omega)
    have hT5 := hTa.thr (hB1.no (by omega)) hS5
    refine WD.q rfl (One.fad rfl rfl ⟨rfl, ?_⟩)
    refine WD.r (One.ld rfl (ld_of (o := 0) (v := .pointer (some ⟨r, 0, none⟩)) hrb5 rfl) rfl ⟨_, rfl, ?_⟩)
    refine WD.l rfl (One.call rfl rfl (spec44s hsm44 hsm96 hsm163 hsm97 hsm98 hsm93 hsm161 _ _ r b (gS (al, 0) 4) hR5 hB5) rfl ?_ (fun _ _ _ h => h.elim))
    rintro _ H6 n6 ⟨rfl, hR6, hS6, hB6, hn6⟩
    refine ⟨rfl, ?_⟩
    have hrb6 := del_at hS6 hrb5 (show n4 ≠ r by omega)
    have hT6 := hT5.thr (hB1.no (by omega)) hS6
    refine WD.q rfl (One.mv rfl rfl ⟨rfl, ?_⟩)
    refine WD.q rfl (One.mv rfl rfl ⟨rfl, ?_⟩)
    refine WD.nil (⟨⟨veq_ptr _ _ _, ld_of (o := 0) (v := .pointer (some ⟨r, 0, none⟩)) hrba rfl, ld_of (o := 0) (v := .pointer (some ⟨r, 0, none⟩)) hrb5 rfl, trivial⟩, ⟨veq_ptr _ _ _, ld_of (o := 0) (v := .pointer (some ⟨r, 0, none⟩)) hrba rfl, trivial⟩, trivial⟩) ?_
    refine WC.seqR (xs := [om 63 (.t 9),
      oq 64 (.p (.bin .eql .other true (.t 63) (.v (.int .u8 1)))),
      oq 65 (.p (.bld [(0, 1, (.t 64))] [(.bool false), (.int .i64 0), (.int .i64 0), (.int .u32 0), (.int .i64 0), (.int .i64 0), (.int .u32 0), (.int .i64 0)])),
      oq 10 (.m (.alc [(.bool false), (.int .i64 0), (.int .i64 0), (.int .u32 0), (.int .i64 0), (.int .i64 0), (.int .u32 0), (.int .i64 0)] 30)),
      ⟨none, none, .w (.sto 8 (.t 10) (.t 65))⟩]) (by kernel_rfl) ?_
    refine WS.mv rfl rfl ?_
    refine WS.c (One.bin rfl rfl bin_eql rfl ?_)
    refine WS.c (One.bld rfl rfl ?_)
    refine WS.c (One.alc rfl ?_)
    refine WS.z (One.sto (cs' := [.bool (decide (isW (al, 0))), .int .i64 0, .int .i64 0, .int .u32 0, .int .i64 0, .int .i64 0, .int .u32 0, .int .i64 0]) rfl rfl upd_eq rfl rfl rfl rfl ?_)
    refine WS.nil ?_
    refine WC.seqR (xs := [oq 11 (.m (.alc [(.bool false), (.bool false)] 114))]) (by kernel_rfl) ?_
    refine WS.c (One.alc rfl ?_)
    refine WS.nil ?_
    refine WC.seqR (xs := [oq 67 (.l (.ld (some 1) (.t 7))),
      oq 68 (.call (.v (.func (.func 45) #[] #[])) [(.t 67)]),
      om 66 (.t 68),
      oq 69 (.p (.ext (.t 66) 0)),
      oq 70 (.p (.ext (.t 66) 1)),
      oq 71 (.p (.fad (.t 10) 1)),
      ⟨none, none, .w (.sto 3 (.t 71) (.t 69))⟩,
      oq 72 (.p (.iaA 2 1 (.t 11) (.v (.int .i64 0)))),
      ⟨none, none, .w (.sto 1 (.t 72) (.t 70))⟩]) (by kernel_rfl) ?_
    have hRb := ((hR6.upd (c := n6) (o := .cells [.bool false, .int .i64 0, .int .i64 0, .int .u32 0, .int .i64 0, .int .i64 0, .int .u32 0, .int .i64 0] 30 0) (by omega) (by omega)).upd (c := n6) (o := .cells [.bool (decide (isW (al, 0))), .int .i64 0, .int .i64 0, .int .u32 0, .int .i64 0, .int .i64 0, .int .u32 0, .int .i64 0] 30 0) (by omega) (by omega)).upd (c := n6 + 1) (o := .cells [.bool false, .bool false] 114 0) (by omega) (by omega)
    have hBb := (((hB6.new (o := .cells [.bool false, .int .i64 0, .int .i64 0, .int .u32 0, .int .i64 0, .int .i64 0, .int .u32 0, .int .i64 0] 30 0)).upd (b := n6) (o := .cells [.bool (decide (isW (al, 0))), .int .i64 0, .int .i64 0, .int .u32 0, .int .i64 0, .int .i64 0, .int .u32 0, .int .i64 0] 30 0) (by omega)).new (o := .cells [.bool false, .bool false] 114 0))
    have hTb := HSub.new (b := n6 + 1) (o := .cells [.bool false, .bool false] 114 0) hB1 (by omega) (HSub.new (b := n6) (o := .cells [.bool (decide (isW (al, 0))), .int .i64 0, .int .i64 0, .int .u32 0, .int .i64 0, .int .i64 0, .int .u32 0, .int .i64 0] 30 0) hB1 (by omega) (HSub.new (b := n6) (o := .cells [.bool false, .int .i64 0, .int .i64 0, .int .u32 0, .int .i64 0, .int .i64 0, .int .u32 0, .int .i64 0] 30 0) hB1 (by omega) hT6))
    have hrbb : (upd (upd (upd H6 n6 (.cells [.bool false, .int .i64 0, .int .i64 0, .int .u32 0, .int .i64 0, .int .i64 0, .int .u32 0, .int .i64 0] 30 0)) n6 (.cells [.bool (decide (isW (al, 0))), .int .i64 0, .int .i64 0, .int .u32 0, .int .i64 0, .int .i64 0, .int .u32 0, .int .i64 0] 30 0)) (n6 + 1) (.cells [.bool false, .bool false] 114 0)) n4 = some (.cells [.pointer (some ⟨r, 0, none⟩)] 112 0) := by rw [upd_ne (by omega), upd_ne (by omega), upd_ne (by omega)]; exact hrb6
    have hhb : (upd (upd (upd H6 n6 (.cells [.bool false, .int .i64 0, .int .i64 0, .int .u32 0, .int .i64 0, .int .i64 0, .int .u32 0, .int .i64 0] 30 0)) n6 (.cells [.bool (decide (isW (al, 0))), .int .i64 0, .int .i64 0, .int .u32 0, .int .i64 0, .int .i64 0, .int .u32 0, .int .i64 0] 30 0)) (n6 + 1) (.cells [.bool false, .bool false] 114 0)) n6 = some (.cells [.bool (decide (isW (al, 0))), .int .i64 0, .int .i64 0, .int .u32 0, .int .i64 0, .int .i64 0, .int .u32 0, .int .i64 0] 30 0) := by rw [upd_ne (by omega)]; exact upd_eq
    refine WS.c (One.ld rfl (ld_ofA (cs := [.pointer (some ⟨r, 0, none⟩)]) (e := 112) (el := 0) (o := 0) (m := 1) (l := [.pointer (some ⟨r, 0, none⟩)]) hrbb (Nat.le_refl 1) rfl) rfl ?_)
    refine WS.c (One.call rfl rfl (spec45 hsm45 hsm41 hsm91 hsm160 hsm92 hsm94 hsm93 hsm161 _ _ r b (hdS (al, 0)) hRb hBb) rfl ?_ (fun _ _ _ h => h.elim))
    rintro _ H7 n7 ⟨rfl, hR7, hS7, hB7, hn7⟩
    have hT7 := hTb.thr (hB1.no (by omega)) hS7
    have hh7 := del_at hS7 hhb (show n6 ≠ r by omega)
    have hm7 := del_at hS7 upd_eq (show n6 + 1 ≠ r by omega)
    have hrb7 := del_at hS7 hrbb (show n4 ≠ r by omega)
    refine WS.mv rfl rfl ?_
    refine WS.c (One.ext rfl rfl rfl ?_)
    refine WS.c (One.ext rfl rfl rfl ?_)
    refine WS.c (One.fad rfl rfl ?_)
    refine WS.z (One.sto (cs' := (.bool (decide (isW (al, 0))) :: (mkC (hdS (al, 0)) ++ [.int .i64 0, .int .i64 0, .int .u32 0, .int .i64 0]))) rfl rfl hh7 rfl rfl rfl rfl ?_)
    refine WS.c (One.iaA (j := 0) rfl rfl rfl (by decide) rfl ?_)
    refine WS.z (One.sto (cs' := [.bool (decide (mkOk (hdS (al, 0)))), .bool false]) rfl rfl ((upd_ne (by omega)).trans hm7) rfl rfl rfl rfl ?_)
    refine WS.nil ?_
    refine WC.seqR (xs := [oq 74 (.l (.ld (some 1) (.t 7))),
      oq 75 (.call (.v (.func (.func 45) #[] #[])) [(.t 74)]),
      om 73 (.t 75),
      oq 76 (.p (.ext (.t 73) 0)),
      oq 77 (.p (.ext (.t 73) 1)),
      oq 78 (.p (.fad (.t 10) 4)),
      ⟨none, none, .w (.sto 3 (.t 78) (.t 76))⟩,
      oq 79 (.p (.iaA 2 1 (.t 11) (.v (.int .i64 1)))),
      ⟨none, none, .w (.sto 1 (.t 79) (.t 77))⟩]) (by kernel_rfl) ?_
    have hRc := (hR7.upd (c := n6) (o := .cells (.bool (decide (isW (al, 0))) :: (mkC (hdS (al, 0)) ++ [.int .i64 0, .int .i64 0, .int .u32 0, .int .i64 0])) 30 0) (by omega) (by omega)).upd (c := n6 + 1) (o := .cells [.bool (decide (mkOk (hdS (al, 0)))), .bool false] 114 0) (by omega) (by omega)
    have hBc := (hB7.upd (b := n6) (o := .cells (.bool (decide (isW (al, 0))) :: (mkC (hdS (al, 0)) ++ [.int .i64 0, .int .i64 0, .int .u32 0, .int .i64 0])) 30 0) (by omega)).upd (b := n6 + 1) (o := .cells [.bool (decide (mkOk (hdS (al, 0)))), .bool false] 114 0) (by omega)
    have hTc := HSub.new (b := n6 + 1) (o := .cells [.bool (decide (mkOk (hdS (al, 0)))), .bool false] 114 0) hB1 (by omega) (HSub.new (b := n6) (o := .cells (.bool (decide (isW (al, 0))) :: (mkC (hdS (al, 0)) ++ [.int .i64 0, .int .i64 0, .int .u32 0, .int .i64 0])) 30 0) hB1 (by omega) hT7)
    have hrbc : (upd (upd H7 n6 (.cells (.bool (decide (isW (al, 0))) :: (mkC (hdS (al, 0)) ++ [.int .i64 0, .int .i64 0, .int .u32 0, .int .i64 0])) 30 0)) (n6 + 1) (.cells [.bool (decide (mkOk (hdS (al, 0)))), .bool false] 114 0)) n4 = some (.cells [.pointer (some ⟨r, 0, none⟩)] 112 0) := by rw [upd_ne (by omega), upd_ne (by omega)]; exact hrb7
    have hhc : (upd (upd H7 n6 (.cells (.bool (decide (isW (al, 0))) :: (mkC (hdS (al, 0)) ++ [.int .i64 0, .int .i64 0, .int .u32 0, .int .i64 0])) 30 0)) (n6 + 1) (.cells [.bool (decide (mkOk (hdS (al, 0)))), .bool false] 114 0)) n6 = some (.cells (.bool (decide (isW (al, 0))) :: (mkC (hdS (al, 0)) ++ [.int .i64 0, .int .i64 0, .int .u32 0, .int .i64 0])) 30 0) := by rw [upd_ne (by omega)]; exact upd_eq
    refine WS.c (One.ld rfl (ld_ofA (cs := [.pointer (some ⟨r, 0, none⟩)]) (e := 112) (el := 0) (o := 0) (m := 1) (l := [.pointer (some ⟨r, 0, none⟩)]) hrbc (Nat.le_refl 1) rfl) rfl ?_)
    refine WS.c (One.call rfl rfl (spec45 hsm45 hsm41 hsm91 hsm160 hsm92 hsm94 hsm93 hsm161 _ _ r b (mkS (hdS (al, 0))) hRc hBc) rfl ?_ (fun _ _ _ h => h.elim))
    rintro _ H8 n8 ⟨rfl, hR8, hS8, hB8, hn8⟩
    have hT8 := hTc.thr (hB1.no (by omega)) hS8
    have hh8 := del_at hS8 hhc (show n6 ≠ r by omega)
    have hm8 := del_at hS8 upd_eq (show n6 + 1 ≠ r by omega)
    have hrb8 := del_at hS8 hrbc (show n4 ≠ r by omega)
    refine WS.mv rfl rfl ?_
    refine WS.c (One.ext rfl rfl rfl ?_)
    refine WS.c (One.ext rfl rfl rfl ?_)
    refine WS.c (One.fad rfl rfl ?_)
    refine WS.z (One.sto (cs' := (hdC (al, 0) 0)) rfl rfl hh8 rfl rfl rfl rfl ?_)
    refine WS.c (One.iaA (j := 1) rfl rfl rfl (by decide) rfl ?_)
    refine WS.z (One.sto (cs' := [.bool (decide (mkOk (hdS (al, 0)))), .bool (decide (mkOk (mkS (hdS (al, 0)))))]) rfl rfl ((upd_ne (by omega)).trans hm8) rfl rfl rfl rfl ?_)
    refine WS.nil ?_
    refine WC.seqR (xs := [oq 80 (.p (.fad (.t 7) 0)),
      oq 81 (.l (.ld none (.t 80))),
      oq 82 (.call (.v (.func (.func 41) #[] #[])) [(.t 81)]),
      om 12 (.t 82)]) (by kernel_rfl) ?_
    have hRd := (hR8.upd (c := n6) (o := .cells (hdC (al, 0) 0) 30 0) (by omega) (by omega)).upd (c := n6 + 1) (o := .cells [.bool (decide (mkOk (hdS (al, 0)))), .bool (decide (mkOk (mkS (hdS (al, 0)))))] 114 0) (by omega) (by omega)
    have hBd := (hB8.upd (b := n6) (o := .cells (hdC (al, 0) 0) 30 0) (by omega)).upd (b := n6 + 1) (o := .cells [.bool (decide (mkOk (hdS (al, 0)))), .bool (decide (mkOk (mkS (hdS (al, 0)))))] 114 0) (by omega)
    have hTd := HSub.new (b := n6 + 1) (o := .cells [.bool (decide (mkOk (hdS (al, 0)))), .bool (decide (mkOk (mkS (hdS (al, 0)))))] 114 0) hB1 (by omega) (HSub.new (b := n6) (o := .cells (hdC (al, 0) 0) 30 0) hB1 (by omega) hT8)
    have hrbd : (upd (upd H8 n6 (.cells (hdC (al, 0) 0) 30 0)) (n6 + 1) (.cells [.bool (decide (mkOk (hdS (al, 0)))), .bool (decide (mkOk (mkS (hdS (al, 0)))))] 114 0)) n4 = some (.cells [.pointer (some ⟨r, 0, none⟩)] 112 0) := by rw [upd_ne (by omega), upd_ne (by omega)]; exact hrb8
    have hhdd : (upd (upd H8 n6 (.cells (hdC (al, 0) 0) 30 0)) (n6 + 1) (.cells [.bool (decide (mkOk (hdS (al, 0)))), .bool (decide (mkOk (mkS (hdS (al, 0)))))] 114 0)) n6 = some (.cells (hdC (al, 0) 0) 30 0) := by rw [upd_ne (by omega)]; exact upd_eq
    refine WS.c (One.fad rfl rfl ?_)
    refine WS.c (One.ld rfl (ld_of (o := 0) (v := .pointer (some ⟨r, 0, none⟩)) hrbd rfl) rfl ?_)
    refine WS.c (One.call rfl rfl (spec41s hsm41 hsm91 hsm160 hsm92 hsm94 hsm93 hsm161 _ _ r b (mnS (al, 0)) hRd hBd) rfl ?_ (fun _ _ _ h => h.elim))
    rintro _ H9 n9 ⟨rfl, hR9, hS9, hB9, hn9⟩
    have hS9b := hS9
    have hS9 := hTd.thr (hB1.no (by omega)) hS9b
    have hhd := del_at hS9b hhdd (show n6 ≠ r by omega)
    have hmay := del_at hS9b upd_eq (show n6 + 1 ≠ r by omega)
    have hrb9 := del_at hS9b hrbd (show n4 ≠ r by omega)
    refine WS.mv rfl rfl ?_
    refine WS.nil ?_
    refine WC.seq ?_
    refine WC.midR (xs := [om 83 (.t 8),
      oq 84 (.p (.bin .neq .other true (.t 83) (.v (.int .u32 827609923)))),
      om 85 (.t 84),
      ⟨(some (85, false)), (some (86, 86)), .p (.mv (.t 9))⟩,
      ⟨(some (85, false)), (some (87, 87)), .p (.bin .gtr .other true (.t 86) (.v (.int .u8 1)))⟩,
      oq 88 (.p (.pick (.t 85) (.v (.bool true)) (.t 87))),
      om 89 (.t 88),
      ⟨(some (89, false)), (some (90, 90)), .l (.ld (some 2) (.t 11))⟩,
      ⟨(some (89, false)), (some (91, 91)), .p (.bld [(0, 1, (.v (.bool true))), (1, 1, (.v (.bool true)))] [(.bool false), (.bool false)])⟩,
      ⟨(some (89, false)), (some (92, 92)), .p (.bin .neq (.flat (List.replicate 2 .b)) false (.t 90) (.t 91))⟩,
      oq 93 (.p (.pick (.t 89) (.v (.bool true)) (.t 92))),
      om 94 (.t 93),
      ⟨(some (94, false)), (some (95, 95)), .p (.fad (.t 10) 0)⟩,
      ⟨(some (94, false)), (some (96, 96)), .l (.ld none (.t 95))⟩,
      ⟨(some (94, false)), (some (97, 97)), .p (.mv (.t 96))⟩,
      ⟨(some (97, true)), (some (98, 98)), .p (.fad (.t 10) 1)⟩,
      ⟨(some (97, true)), (some (99, 99)), .l (.ld (some 3) (.t 98))⟩,
      ⟨(some (97, true)), (some (100, 100)), .p (.bld [] [(.int .i64 0), (.int .i64 0), (.int .u32 0)])⟩,
      ⟨(some (97, true)), (some (101, 101)), .p (.bin .neq (.flat markK) false (.t 99) (.t 100))⟩,
      ⟨(some (94, false)), (some (102, 102)), .p (.pick (.t 97) (.t 101) (.v (.bool false)))⟩,
      oq 103 (.p (.pick (.t 94) (.v (.bool true)) (.t 102)))]) (by kernel_rfl) (fun env ds H' nx' => ∃ (bad : Prop) (db : Decidable bad), SubE [(2, .pointer (some ⟨nx, 0, none⟩)), (5, .func (.func 40) ⟨[]⟩ ⟨[]⟩), (7, .pointer (some ⟨n4, 0, none⟩)), (10, .pointer (some ⟨n6, 0, none⟩)), (12, .int .u32 (mnV (al, 0) : Nat)), (103, .bool (decide bad))] env ∧ ds = [] ∧ ((bad ↔ ¬ okH (al, 0)) ∧ WR H' r b (boS (al, 0)).1 (boS (al, 0)).2 ∧ HB H' nx' ∧ nx' = n9 ∧ H' n6 = some (.cells (hdC (al, 0) 0) 30 0) ∧ H' n4 = some (.cells [.pointer (some ⟨r, 0, none⟩)] 112 0) ∧ HSub (upd H nx (.cells hd0 30 0)) H')) ?_ (fun env ds H' nx' hI => ?_)
    ·refine WS.mv rfl rfl ?_
     refine WS.c (One.bin rfl rfl bin_neq rfl ?_)
     refine WS.mv rfl rfl ?_
     refine WS.split (t := 85) rfl (fun hg4 => ?_) (fun hg4 => ?_)
     ·refine WS.c (One.gNF rfl hg4 rfl ?_)
      refine WS.c (One.gNF rfl hg4 rfl ?_)
      refine WS.c (One.pickT rfl hg4 rfl rfl ?_)
      refine WS.mv rfl rfl ?_
      refine WS.c (One.gF rfl rfl rfl ?_)
      refine WS.c (One.gF rfl rfl rfl ?_)
      refine WS.c (One.gF rfl rfl rfl ?_)
      refine WS.c (One.pick rfl rfl rfl ?_)
      refine WS.mv rfl rfl ?_
      refine WS.c (One.gF rfl rfl rfl ?_)
      refine WS.c (One.gF rfl rfl rfl ?_)
      refine WS.c (One.gF rfl rfl rfl ?_)
      refine WS.c (One.gU rfl rfl ?_)
      refine WS.c (One.gU rfl rfl ?_)
      refine WS.c (One.gU rfl rfl ?_)
      refine WS.c (One.gU rfl rfl ?_)
      refine WS.c (One.gF rfl rfl rfl ?_)
      refine WS.c (One.pick rfl rfl rfl ?_)
      refine WS.nil ?_
      refine ⟨True, instDecidableTrue, (by repeat (first | exact SubE.nil _ | refine SubE.cons rfl ?_)), rfl, ?_, hR9, hB9, by omega, hhd, hrb9, hS9⟩
      first
      | exact ⟨fun _ h => by obtain ⟨h1, h2, h3, h4, h5⟩ := h; omega, fun _ => trivial⟩
      | exact ⟨fun _ h => by obtain ⟨h1, h2, h3, h4, h5⟩ := h; exact (show ¬ (mkOk (hdS (al, 0)) ∧ mkOk (mkS (hdS (al, 0)))) by assumption) ⟨h3, h4⟩, fun _ => trivial⟩
      | exact ⟨False.elim, fun h => h ⟨by omega, by omega, (Decidable.of_not_not (by assumption) : mkOk _ ∧ mkOk _).1, (Decidable.of_not_not (by assumption) : mkOk _ ∧ mkOk _).2, fun hw => absurd hw (by assumption)⟩⟩
      | exact ⟨fun h k => h (k.2.2.2.2 (by assumption)), fun h k => h ⟨by omega, by omega, (Decidable.of_not_not (by assumption) : mkOk _ ∧ mkOk _).1, (Decidable.of_not_not (by assumption) : mkOk _ ∧ mkOk _).2, fun _ => k⟩⟩
     ·refine WS.c (One.gNT rfl hg4 (One.mv rfl rfl ?_))
      refine WS.c (One.gNT rfl hg4 (One.bin rfl rfl bin_gtr rfl ?_))
      refine WS.c (One.pickF rfl hg4 rfl rfl ?_)
      refine WS.mv rfl rfl ?_
      refine WS.split (t := 89) rfl (fun hg5 => ?_) (fun hg5 => ?_)
      ·refine WS.c (One.gNF rfl hg5 rfl ?_)
       refine WS.c (One.gNF rfl hg5 rfl ?_)
       refine WS.c (One.gNF rfl hg5 rfl ?_)
       refine WS.c (One.pickT rfl hg5 rfl rfl ?_)
       refine WS.mv rfl rfl ?_
       refine WS.c (One.gF rfl rfl rfl ?_)
       refine WS.c (One.gF rfl rfl rfl ?_)
       refine WS.c (One.gF rfl rfl rfl ?_)
       refine WS.c (One.gU rfl rfl ?_)
       refine WS.c (One.gU rfl rfl ?_)
       refine WS.c (One.gU rfl rfl ?_)
       refine WS.c (One.gU rfl rfl ?_)
       refine WS.c (One.gF rfl rfl rfl ?_)
       refine WS.c (One.pick rfl rfl rfl ?_)
       refine WS.nil ?_
       refine ⟨True, instDecidableTrue, (by repeat (first | exact SubE.nil _ | refine SubE.cons rfl ?_)), rfl, ?_, hR9, hB9, by omega, hhd, hrb9, hS9⟩
       first
       | exact ⟨fun _ h => by obtain ⟨h1, h2, h3, h4, h5⟩ := h; omega, fun _ => trivial⟩
       | exact ⟨fun _ h => by obtain ⟨h1, h2, h3, h4, h5⟩ := h; exact (show ¬ (mkOk (hdS (al, 0)) ∧ mkOk (mkS (hdS (al, 0)))) by assumption) ⟨h3, h4⟩, fun _ => trivial⟩
       | exact ⟨False.elim, fun h => h ⟨by omega, by omega, (Decidable.of_not_not (by assumption) : mkOk _ ∧ mkOk _).1, (Decidable.of_not_not (by assumption) : mkOk _ ∧ mkOk _).2, fun hw => absurd hw (by assumption)⟩⟩
       | exact ⟨fun h k => h (k.2.2.2.2 (by assumption)), fun h k => h ⟨by omega, by omega, (Decidable.of_not_not (by assumption) : mkOk _ ∧ mkOk _).1, (Decidable.of_not_not (by assumption) : mkOk _ ∧ mkOk _).2, fun _ => k⟩⟩
      ·refine WS.c (One.gNT rfl hg5 (One.ld rfl (ld_ofA (o := 0) (m := 2) (l := [.bool (decide (mkOk (hdS (al, 0)))), .bool (decide (mkOk (mkS (hdS (al, 0)))))]) hmay (Nat.le_refl 2) rfl) rfl ?_))
       refine WS.c (One.gNT rfl hg5 (One.bld rfl rfl ?_))
       refine WS.c (One.gNT rfl hg5 (One.bin rfl rfl bin_neq2 rfl ?_))
       refine WS.c (One.pickF rfl hg5 rfl rfl ?_)
       refine WS.mv rfl rfl ?_
       refine WS.split (t := 94) rfl (fun hg6 => ?_) (fun hg6 => ?_)
       ·refine WS.c (One.gNF rfl hg6 rfl ?_)
        refine WS.c (One.gNF rfl hg6 rfl ?_)
        refine WS.c (One.gNF rfl hg6 rfl ?_)
        refine WS.c (One.gU rfl rfl ?_)
        refine WS.c (One.gU rfl rfl ?_)
        refine WS.c (One.gU rfl rfl ?_)
        refine WS.c (One.gU rfl rfl ?_)
        refine WS.c (One.gNF rfl hg6 rfl ?_)
        refine WS.c (One.pickT rfl hg6 rfl rfl ?_)
        refine WS.nil ?_
        refine ⟨True, instDecidableTrue, (by repeat (first | exact SubE.nil _ | refine SubE.cons rfl ?_)), rfl, ?_, hR9, hB9, by omega, hhd, hrb9, hS9⟩
        first
        | exact ⟨fun _ h => by obtain ⟨h1, h2, h3, h4, h5⟩ := h; omega, fun _ => trivial⟩
        | exact ⟨fun _ h => by obtain ⟨h1, h2, h3, h4, h5⟩ := h; exact (show ¬ (mkOk (hdS (al, 0)) ∧ mkOk (mkS (hdS (al, 0)))) by assumption) ⟨h3, h4⟩, fun _ => trivial⟩
        | exact ⟨False.elim, fun h => h ⟨by omega, by omega, (Decidable.of_not_not (by assumption) : mkOk _ ∧ mkOk _).1, (Decidable.of_not_not (by assumption) : mkOk _ ∧ mkOk _).2, fun hw => absurd hw (by assumption)⟩⟩
        | exact ⟨fun h k => h (k.2.2.2.2 (by assumption)), fun h k => h ⟨by omega, by omega, (Decidable.of_not_not (by assumption) : mkOk _ ∧ mkOk _).1, (Decidable.of_not_not (by assumption) : mkOk _ ∧ mkOk _).2, fun _ => k⟩⟩
       ·refine WS.c (One.gNT rfl hg6 (One.fad rfl rfl ?_))
        refine WS.c (One.gNT rfl hg6 (One.ld rfl (ld_of hhd rfl) rfl ?_))
        refine WS.c (One.gNT rfl hg6 (One.mv rfl rfl ?_))
        refine WS.split (t := 97) rfl (fun hg7 => ?_) (fun hg7 => ?_)
        ·refine WS.c (One.gPT rfl hg7 (One.fad rfl rfl ?_))
         refine WS.c (One.gPT rfl hg7 (One.ld rfl (ld_ofA (l := mkC (hdS (al, 0))) hhd (by simp [hdC, mkC]) rfl) rfl ?_))
         refine WS.c (One.gPT rfl hg7 (One.bld rfl rfl ?_))
         refine WS.c (One.gPT rfl hg7 (One.bin rfl rfl (bin_neqMark0 (a := gV (hdS (al, 0)) 4) (b := gV (gS (hdS (al, 0)) 4) 4) (c := gV (gS (gS (hdS (al, 0)) 4) 4) 4)) rfl ?_))
         refine WS.c (One.gNT rfl hg6 (One.pickT rfl hg7 rfl rfl ?_))
         refine WS.c (One.pickF rfl hg6 rfl rfl ?_)
         refine WS.nil ?_
         refine ⟨_, _, (by repeat (first | exact SubE.nil _ | refine SubE.cons rfl ?_)), rfl, ?_, hR9, hB9, by omega, hhd, hrb9, hS9⟩
         first
         | exact ⟨fun _ h => by obtain ⟨h1, h2, h3, h4, h5⟩ := h; omega, fun _ => trivial⟩
         | exact ⟨fun _ h => by obtain ⟨h1, h2, h3, h4, h5⟩ := h; exact (show ¬ (mkOk (hdS (al, 0)) ∧ mkOk (mkS (hdS (al, 0)))) by assumption) ⟨h3, h4⟩, fun _ => trivial⟩
         | exact ⟨False.elim, fun h => h ⟨by omega, by omega, (Decidable.of_not_not (by assumption) : mkOk _ ∧ mkOk _).1, (Decidable.of_not_not (by assumption) : mkOk _ ∧ mkOk _).2, fun hw => absurd hw (by assumption)⟩⟩
         | exact ⟨fun h k => h (k.2.2.2.2 (by assumption)), fun h k => h ⟨by omega, by omega, (Decidable.of_not_not (by assumption) : mkOk _ ∧ mkOk _).1, (Decidable.of_not_not (by assumption) : mkOk _ ∧ mkOk _).2, fun _ => k⟩⟩
        ·refine WS.c (One.gPF rfl hg7 rfl ?_)
         refine WS.c (One.gPF rfl hg7 rfl ?_)
         refine WS.c (One.gPF rfl hg7 rfl ?_)
         refine WS.c (One.gPF rfl hg7 rfl ?_)
         refine WS.c (One.gNT rfl hg6 (One.pickF rfl hg7 rfl rfl ?_))
         refine WS.c (One.pickF rfl hg6 rfl rfl ?_)
         refine WS.nil ?_
         refine ⟨False, instDecidableFalse, (by repeat (first | exact SubE.nil _ | refine SubE.cons rfl ?_)), rfl, ?_, hR9, hB9, by omega, hhd, hrb9, hS9⟩
         first
         | exact ⟨fun _ h => by obtain ⟨h1, h2, h3, h4, h5⟩ := h; omega, fun _ => trivial⟩
         | exact ⟨fun _ h => by obtain ⟨h1, h2, h3, h4, h5⟩ := h; exact (show ¬ (mkOk (hdS (al, 0)) ∧ mkOk (mkS (hdS (al, 0)))) by assumption) ⟨h3, h4⟩, fun _ => trivial⟩
         | exact ⟨False.elim, fun h => h ⟨by omega, by omega, (Decidable.of_not_not (by assumption) : mkOk _ ∧ mkOk _).1, (Decidable.of_not_not (by assumption) : mkOk _ ∧ mkOk _).2, fun hw => absurd hw (by assumption)⟩⟩
         | exact ⟨fun h k => h (k.2.2.2.2 (by assumption)), fun h k => h ⟨by omega, by omega, (Decidable.of_not_not (by assumption) : mkOk _ ∧ mkOk _).1, (Decidable.of_not_not (by assumption) : mkOk _ ∧ mkOk _).2, fun _ => k⟩⟩
    ·obtain ⟨bad, db, hsub, rfl, hbad, hR, hB, hn9e, hhd, hrb, hS⟩ := hI
     refine WC.weak (env' := [(2, .pointer (some ⟨nx, 0, none⟩)), (5, .func (.func 40) ⟨[]⟩ ⟨[]⟩), (7, .pointer (some ⟨n4, 0, none⟩)), (10, .pointer (some ⟨n6, 0, none⟩)), (12, .int .u32 (mnV (al, 0) : Nat)), (103, .bool (decide bad))]) ?_ hsub (fun _ _ h => h)
     have hmn : mnV (al, 0) < 4294967296 := gV4 _
     refine WC.cond rfl (fun hc8 => ?_) (fun hc8 => ?_)
     ·refine WC.seqR (xs := [om 104 (.t 5),
        oq 105 (.call (.t 104) [(.v (.int .i64 5))]),
        oq 106 (.p (.ext (.t 105) 0)),
        oq 107 (.p (.ext (.t 105) 1)),
        oq 108 (.p (.ext (.t 105) 2)),
        ⟨none, none, .w (.sto 8 (.t 2) (.t 106))⟩,
        om 3 (.t 107),
        om 4 (.t 108)]) (by kernel_rfl) ?_
      refine WS.mv rfl rfl ?_
      refine WS.c (One.call rfl rfl (spec40 hsm40 _ _ 5 hB) rfl ?_ (fun _ _ _ h => h.elim))
      rintro _ _ _ ⟨rfl, rfl, rfl⟩
      refine WS.c (One.ext rfl rfl rfl ?_)
      refine WS.c (One.ext rfl rfl rfl ?_)
      refine WS.c (One.ext rfl rfl rfl ?_)
      refine WS.z (One.sto (cs' := hd0) rfl rfl (hS _ _ upd_eq) rfl rfl rfl rfl ?_)
      refine WS.mv rfl rfl ?_
      refine WS.mv rfl rfl ?_
      refine WS.nil ?_
      refine WC.ret ?_
      exact EndOk.now rfl (resE_cell rfl (by kernel_rfl) (ld_sameA (m := 8) (Nat.le_refl 8) rfl) rfl) ⟨_, _, 5, rfl, RdP.err (parse_no (by omega) (by omega) (by rw [← hal]; exact hsum) (by rw [← hal]; exact rest_no (hbad.1 hc8))), HSub.new hH (Nat.le_refl _) (hS1.trans hS), (hB.mono (by omega)).upd (by omega), by omega⟩
     ·refine WC.skip ?_
      refine WC.seqR (xs := [om 13 (.v (.slice none 0 0))]) (by kernel_rfl) ?_
      refine WS.mv rfl rfl ?_
      refine WS.nil ?_
      refine WC.seqR (xs := [om 14 (.v (.slice none 0 0))]) (by kernel_rfl) ?_
      refine WS.mv rfl rfl ?_
      refine WS.nil ?_
      refine WC.seq ?_
      refine WC.seqR (xs := [om 109 (.t 12),
        om 110 (.v (.int .u32 0))]) (by kernel_rfl) ?_
      refine WS.mv rfl rfl ?_
      refine WS.mv rfl rfl ?_
      refine WS.nil ?_
      refine WC.block ?_
      refine WC.loop (fun m env ds H' nx' => ∃ (i : Nat) (cl : List Chg) (s : RS) (last : List UInt8) (sv lv : Value) (cells : List Value) (F : Hp), m = mnV (al, 0) - i ∧ SubE [(2, .pointer (some ⟨nx, 0, none⟩)), (5, .func (.func 40) ⟨[]⟩ ⟨[]⟩), (7, .pointer (some ⟨n4, 0, none⟩)), (10, .pointer (some ⟨n6, 0, none⟩)), (12, .int .u32 (mnV (al, 0) : Nat)), (13, sv), (14, lv), (109, .int .u32 (mnV (al, 0) : Nat)), (110, .int .u32 (i : Int))] env ∧ ds = [] ∧ (cl.length = i ∧ i ≤ mnV (al, 0) ∧ i + s.1.length ≤ l.length ∧ GS H' sv i cells 68 4 n9 nx' ∧ ChP F nx' n9 cl cells ∧ SlB F n9 lv last ∧ HSub F H' ∧ HSub (upd H nx (.cells hd0 30 0)) F ∧ F r = none ∧ F n6 = none ∧ (∀ j, isBl sv j = true → F j = none) ∧ WR H' r b s.1 s.2 ∧ H' n6 = some (.cells (hdC (al, 0) 0) 30 0) ∧ F n4 = some (.cells [.pointer (some ⟨r, 0, none⟩)] 112 0) ∧ HB H' nx' ∧ n9 ≤ nx' ∧ rest (al, 0) = (chs (isW (al, 0)) (mnV (al, 0) - i) s last).map (fun q => (cl ++ q.1, q.2)))) (fun m env ds H' nx' hI => ?_) (m := mnV (al, 0)) (⟨0, [], boS (al, 0), [], .slice none 0 0, .slice none 0 0, [], outM H' (fun j => Nat.beq j r || Nat.beq j n6), by omega, (by repeat (first | exact SubE.nil _ | refine SubE.cons rfl ?_)), rfl, rfl, by omega, by have := boS_le (al, 0); simp only at this; omega, GS.nil _ _ _ _ _, ⟨rfl, by omega⟩, SlB.nil _ _, outM_sub _ _, hS.out (fun j hj => by rw [Bool.or_eq_true] at hj; rcases hj with hj | hj <;> rw [Nat.eq_of_beq_eq_true hj] <;> exact hB1.no (by omega)), outM_no (by rw [Nat.beq_refl]; rfl), outM_no (by rw [Nat.beq_refl, Bool.or_true]), (fun j hj => by cases hj), hR, hhd, (outM_at (by rw [nbeq (by omega), nbeq (by omega)]; rfl)).trans hrb, hB, by omega, rest_ok (Decidable.of_not_not (fun h => hc8 (hbad.2 h)))⟩)
      obtain ⟨i, cl, s, last, sv, lv, cells, F, rfl, hsub, rfl, hcl, hi, hle, hG, hV, hLv, hF, hHF, hFr, hFh, hFG, hR, hhd, hrb, hB, hn, hrest⟩ := hI
      refine WC.weak (env' := [(2, .pointer (some ⟨nx, 0, none⟩)), (5, .func (.func 40) ⟨[]⟩ ⟨[]⟩), (7, .pointer (some ⟨n4, 0, none⟩)), (10, .pointer (some ⟨n6, 0, none⟩)), (12, .int .u32 (mnV (al, 0) : Nat)), (13, sv), (14, lv), (109, .int .u32 (mnV (al, 0) : Nat)), (110, .int .u32 (i : Int))]) ?_ hsub (fun _ _ h => h)
      obtain ⟨ga, gc, rfl⟩ := hG.shape
      refine WC.seqR (xs := [oq 111 (.p (.bin .lss .other false (.t 110) (.t 109)))]) (by kernel_rfl) ?_
      refine WS.c (One.bin rfl rfl bin_lss rfl ?_)
      refine WS.nil ?_
      refine WC.seq ?_
      refine WC.cond rfl (fun hc9 => ?_) (fun hc9 => ?_)
      ·refine WC.skip ?_
       refine WC.seq ?_
       refine WC.block ?_
       refine WC.seqR (xs := [oq 113 (.l (.ld (some 1) (.t 7))),
         om 114 (.t 14),
         oq 115 (.p (.fad (.t 10) 0)),
         oq 116 (.l (.ld none (.t 115))),
         oq 117 (.call (.v (.func (.func 46) #[] #[])) [(.t 113), (.t 114), (.t 116)]),
         om 112 (.t 117),
         oq 118 (.p (.ext (.t 112) 0)),
         oq 119 (.p (.ext (.t 112) 1)),
         oq 15 (.m (.alc [(.int .i64 0), (.slice none 0 0), (.slice none 0 0), (.slice none 0 0)] 68)),
         ⟨none, none, .w (.sto 4 (.t 15) (.t 118))⟩,
         om 16 (.t 119)]) (by kernel_rfl) ?_
       refine WS.c (One.ld rfl (ld_ofA (cs := [.pointer (some ⟨r, 0, none⟩)]) (e := 112) (el := 0) (o := 0) (m := 1) (l := [.pointer (some ⟨r, 0, none⟩)]) (hF _ _ hrb) (Nat.le_refl 1) rfl) rfl ?_)
       refine WS.mv rfl rfl ?_
       refine WS.c (One.fad rfl rfl ?_)
       refine WS.c (One.ld rfl (ld_of hhd rfl) rfl ?_)
       obtain ⟨la, lc, hlv, hlB, hlb⟩ := hLv.mono hF
       subst hlv
       refine WS.c (One.call rfl rfl (spec46 hsm46 hsm100 hsm167 hsm166 hsm237 hsm318 hsm238 hsm227 hsm168 hsm239 hsm164 hsm236 hsm44 hsm96 hsm163 hsm97 hsm98 hsm99 hsm165 hsm101 hsm102 hsm169 hsm93 hsm161 _ _ r b s la last lc (isW (al, 0)) hR hB hlB (fun b' o hb => by have := hlb b' o hb; omega)) rfl ?_ (fun _ _ _ h => h.elim))
       rintro _ H2 n2 ⟨v1, v2, v3, m1, m2, rfl, q1, q2, q3, hm1, hm2, hm3, hR2, hS2, hB2⟩
       have hn2 : nx' ≤ n2 := by omega
       have hF2 := hF.thr hFr hS2
       have hG2 := hG.low hS2 (by omega) hn2
       have hhd2 := del_at hS2 hhd (show n6 ≠ r by omega)
       obtain ⟨a1, c1, hv1, _⟩ := q1.shape
       obtain ⟨a2, c2, hv2, _⟩ := q2.shape
       obtain ⟨a3, c3, hv3, _⟩ := q3.shape
       subst hv1 hv2 hv3
       refine WS.mv rfl rfl ?_
       refine WS.c (One.ext rfl rfl rfl ?_)
       refine WS.c (One.ext rfl rfl rfl ?_)
       refine WS.c (One.alc rfl ?_)
       refine WS.z (One.sto (cs' := (chL (chC true s) (.slice a1 (keV s).length c1) (.slice a2 (olV true s).length c2) (.slice a3 (neV true s).length c3))) rfl rfl upd_eq rfl rfl rfl rfl ?_)
       have hSA := HSub.new (b := n2) (o := .cells (chL (chC true s) (.slice a1 (keV s).length c1) (.slice a2 (olV true s).length c2) (.slice a3 (neV true s).length c3)) 68 0) hB2 (Nat.le_refl _) (HSub.new (b := n2) (o := .cells [.int .i64 0, .slice none 0 0, .slice none 0 0, .slice none 0 0] 68 0) hB2 (Nat.le_refl _) (HSub.refl H2))
       have hBA := (hB2.new (o := .cells [.int .i64 0, .slice none 0 0, .slice none 0 0, .slice none 0 0] 68 0)).upd (b := n2) (o := .cells (chL (chC true s) (.slice a1 (keV s).length c1) (.slice a2 (olV true s).length c2) (.slice a3 (neV true s).length c3)) 68 0) (by omega)
       refine WS.mv rfl rfl ?_
       refine WS.nil ?_
       refine WC.seq ?_
       refine WC.seqR (xs := [om 120 (.t 16),
         oq 121 (.p (.not (.t 120)))]) (by kernel_rfl) ?_
       refine WS.mv rfl rfl ?_
       refine WS.c (One.not rfl rfl ?_)
       refine WS.nil ?_
       refine WC.cond rfl (fun hc10 => ?_) (fun hc10 => ?_)
       ·refine WC.seqR (xs := [om 122 (.t 5),
          oq 123 (.call (.t 122) [(.v (.int .i64 5))]),
          oq 124 (.p (.ext (.t 123) 0)),
          oq 125 (.p (.ext (.t 123) 1)),
          oq 126 (.p (.ext (.t 123) 2)),
          ⟨none, none, .w (.sto 8 (.t 2) (.t 124))⟩,
          om 3 (.t 125),
          om 4 (.t 126)]) (by kernel_rfl) ?_
        refine WS.mv rfl rfl ?_
        refine WS.c (One.call rfl rfl (spec40 hsm40 _ _ 5 hBA) rfl ?_ (fun _ _ _ h => h.elim))
        rintro _ _ _ ⟨rfl, rfl, rfl⟩
        refine WS.c (One.ext rfl rfl rfl ?_)
        refine WS.c (One.ext rfl rfl rfl ?_)
        refine WS.c (One.ext rfl rfl rfl ?_)
        refine WS.z (One.sto (cs' := hd0) rfl rfl (hSA _ _ (hF2 _ _ (hHF _ _ upd_eq))) rfl rfl rfl rfl ?_)
        refine WS.mv rfl rfl ?_
        refine WS.mv rfl rfl ?_
        refine WS.nil ?_
        refine WC.ret ?_
        have hSf := (hS1.trans hHF).trans hF
        exact EndOk.now rfl (resE_cell rfl (by kernel_rfl) (ld_sameA (m := 8) (Nat.le_refl 8) rfl) rfl) ⟨_, _, 5, rfl, RdP.err (parse_no (by omega) (by omega) (by rw [← hal]; exact hsum) (by rw [← hal, hrest, show mnV (al, 0) - i = (mnV (al, 0) - (i + 1)) + 1 by omega, chs_bad (fun h => hc10 (okP_iff.2 h))]; rfl)), HSub.new hH (Nat.le_refl _) (((hS1.trans hHF).trans hF2).trans hSA), (hBA.mono (by omega)).upd (by omega), by omega⟩
       ·refine WC.skip ?_
        refine WC.seqR (xs := [oq 127 (.p (.fad (.t 15) 1)),
          oq 128 (.l (.ld none (.t 127))),
          om 14 (.t 128)]) (by kernel_rfl) ?_
        refine WS.c (One.fad rfl rfl ?_)
        refine WS.c (One.ld rfl (ld_same rfl) rfl ?_)
        refine WS.mv rfl rfl ?_
        refine WS.nil ?_
        refine WC.region (xs := [om 129 (.t 13),
          oq 130 (.l (.ld (some 4) (.t 15))),
          oq 131 (.m (.sl [(.int .i64 0), (.slice none 0 0), (.slice none 0 0), (.slice none 0 0)] 68 1 [(0, 4, (.t 130))])),
          oq 132 (.w (.app 68 [(.int .i64 0), (.slice none 0 0), (.slice none 0 0), (.slice none 0 0)] false (.t 129) (.t 131))),
          om 13 (.t 132)]) (by kernel_rfl) ?_
        refine WS.mv rfl rfl ?_
        refine WS.c (One.ld rfl (ld_sameA (m := 4) (Nat.le_refl 4) rfl) rfl ?_)
        refine WS.c (One.sl (cs := (chL (chC true s) (.slice a1 (keV s).length c1) (.slice a2 (olV true s).length c2) (.slice a3 (neV true s).length c3))) rfl rfl ?_)
        refine WS.c (One.appGB (m := i) (k := 1) (lo := n9) (z := [.int .i64 0, .slice none 0 0, .slice none 0 0, .slice none 0 0]) (cells := cells) (new := (chL (chC true s) (.slice a1 (keV s).length c1) (.slice a2 (olV true s).length c2) (.slice a3 (neV true s).length c3))) rfl rfl (hG2.mono (HSub.new hB2 (by omega) hSA) (by omega)) (by omega) (newE_blk upd_eq rfl (by decide)) rfl (by omega) rfl (by omega) rfl ?_)
        intro H3 hg' hlow hoth hb3
        refine WS.mv rfl rfl ?_
        refine WS.nil ?_
        refine WC.region (xs := [oq 133 (.p (.bin .add .other true (.t 110) (.v (.int .u32 1)))),
          om 110 (.t 133)]) (by kernel_rfl) ?_
        refine WS.c (One.bin rfl rfl (bin_addU (a := i) (b := 1) rfl) rfl ?_)
        rw [show (i + 1) % 2 ^ IntKind.u32.bits = i + 1 from Nat.mod_eq_of_lt (by show _ < 4294967296; omega)]
        refine WS.mv rfl rfl ?_
        refine WS.nil ?_
        obtain ⟨F2, hF2e⟩ : ∃ F2, F2 = outM H2 (fun j => Nat.beq j r || Nat.beq j n6 || isBl (.slice ga i gc) j) := ⟨_, rfl⟩
        have hOut : ∀ j, nx' ≤ j → (Nat.beq j r || Nat.beq j n6 || isBl (.slice ga i gc) j) = false := by
         intro j hj
         rw [show Nat.beq j r = false from nbeq (by omega), show Nat.beq j n6 = false from nbeq (by omega), Bool.false_or, Bool.false_or]
         cases hbl : isBl (.slice ga i gc) j with
         | false => rfl
         | true => have := (hG.blk hbl).2; omega
        have hFF2 : HSub F F2 := by
         rw [hF2e]
         refine hF2.out fun j hj => ?_
         rw [Bool.or_eq_true, Bool.or_eq_true] at hj
         rcases hj with (hj | hj) | hj
         ·rw [Nat.eq_of_beq_eq_true hj]; exact hFr
         ·rw [Nat.eq_of_beq_eq_true hj]; exact hFh
         ·exact hFG j hj
        have hF2H : HSub F2 H2 := by rw [hF2e]; exact outM_sub _ _
        have hF2a : ∀ j o, nx' ≤ j → H2 j = some o → F2 j = some o := fun j o hj ho => by rw [hF2e, outM_at (hOut j hj)]; exact ho
        have hF2b : ∀ j, isBl (.slice ga i gc) j = true → F2 j = none := fun j hj => by rw [hF2e]; exact outM_no (by rw [hj, Bool.or_true])
        have hHB2 : HB F2 n2 := HB.sub hF2H hB2
        have hokk := Decidable.of_not_not hc10
        have hsame := okP_same hokk
        obtain ⟨hz, hci⟩ := okP_iff.1 hokk
        have hlt := neS_lt hz
        have hlow2 : ∀ j o, nx' ≤ j → H2 j = some o → F2 j = some o := hF2a
        have hch := (ChP.fr (L := n9) (fun j o _ => hFF2 j o) (Nat.le_refl _) hV).snoc (c := chC true s) (q1.fr hF2a) (q2.fr (fun j o hj => hF2a j o (by omega))) (q3.fr (fun j o hj => hF2a j o (by omega))) (Nat.le_refl _) hm1 hm2 hm3
        refine ⟨_, ?_, i + 1, cl ++ [chC true s], neS true s, keV s, _, _, cells ++ chL (chC true s) (.slice a1 (keV s).length c1) (.slice a2 (olV true s).length c2) (.slice a3 (neV true s).length c3), F2, rfl, (by repeat (first | exact SubE.nil _ | refine SubE.cons rfl ?_)), rfl, by rw [List.length_append, hcl]; rfl, by omega, by rw [hsame.2]; omega, hg', ChP.hi (by omega) hch, ((q1.fr hF2a).sl).le (by omega), ?_, hHF.trans hFF2, by rw [hF2e]; exact outM_no (by rw [Nat.beq_refl]; rfl), by rw [hF2e]; exact outM_no (by rw [Nat.beq_refl, Bool.or_true]; rfl), ?_, ?_, ?_, hFF2 _ _ hrb, hb3 (hBA.mono (by omega)).new, by omega, ?_⟩
        ·omega
        ·intro j o ho
         refine hoth j o ((HSub.new hB2 (by omega) hSA) j o (hF2H j o ho)) (by have := hHB2 j o ho; omega) ?_
         cases hbl : isBl (.slice ga i gc) j with
         | false => rfl
         | true => rw [hF2b j hbl] at ho; cases ho
        ·intro j hj
         obtain ⟨o', m', c', hj'⟩ := isBl_iff hj
         injection hj' with hj'
         injection hj' with hj'
         injection hj' with hj'
         rw [← hj']
         exact hHB2.no (by omega)
        ·exact WR.fr (hR2.mono (HSub.new hB2 (by omega) hSA)) fun j o ho hj => hlow j o ho (by omega)
        ·exact hlow _ _ ((HSub.new hB2 (by omega) hSA) _ _ hhd2) (by omega)
        ·rw [hrest, show mnV (al, 0) - i = (mnV (al, 0) - (i + 1)) + 1 by omega, chs_step hz hci, map_app, hsame.1, hsame.2]
      ·refine WC.exit ?_
       refine WC.seq ?_
       refine WC.seqR (xs := [oq 134 (.p (.fad (.t 7) 0)),
         oq 135 (.l (.ld none (.t 134))),
         oq 136 (.call (.v (.func (.func 47) #[] #[])) [(.t 135)]),
         oq 137 (.p (.bin .neq .other true (.t 136) (.v (.int .i64 0))))]) (by kernel_rfl) ?_
       refine WS.c (One.fad rfl rfl ?_)
       refine WS.c (One.ld rfl (ld_of (o := 0) (v := .pointer (some ⟨r, 0, none⟩)) (hF _ _ hrb) rfl) rfl ?_)
       refine WS.c (One.call rfl rfl (spec47 hsm47 _ _ r b s.2 s.1 hR) rfl ?_ (fun _ _ _ h => h.elim))
       rintro _ _ _ ⟨rfl, rfl, rfl⟩
       refine WS.c (One.bin rfl rfl bin_neq rfl ?_)
       refine WS.nil ?_
       refine WC.cond rfl (fun hc11 => ?_) (fun hc11 => ?_)
       ·refine WC.seqR (xs := [om 138 (.t 5),
          oq 139 (.call (.t 138) [(.v (.int .i64 5))]),
          oq 140 (.p (.ext (.t 139) 0)),
          oq 141 (.p (.ext (.t 139) 1)),
          oq 142 (.p (.ext (.t 139) 2)),
          ⟨none, none, .w (.sto 8 (.t 2) (.t 140))⟩,
          om 3 (.t 141),
          om 4 (.t 142)]) (by kernel_rfl) ?_
        refine WS.mv rfl rfl ?_
        refine WS.c (One.call rfl rfl (spec40 hsm40 _ _ 5 hB) rfl ?_ (fun _ _ _ h => h.elim))
        rintro _ _ _ ⟨rfl, rfl, rfl⟩
        refine WS.c (One.ext rfl rfl rfl ?_)
        refine WS.c (One.ext rfl rfl rfl ?_)
        refine WS.c (One.ext rfl rfl rfl ?_)
        refine WS.z (One.sto (cs' := hd0) rfl rfl (hF _ _ (hHF _ _ upd_eq)) rfl rfl rfl rfl ?_)
        refine WS.mv rfl rfl ?_
        refine WS.mv rfl rfl ?_
        refine WS.nil ?_
        refine WC.ret ?_
        have hSf := (hS1.trans hHF).trans hF
        rw [show mnV (al, 0) - i = 0 by omega] at hrest
        have hr1 : rest (al, 0) = some (cl, s) := hrest.trans (by show some (cl ++ [], s) = _; rw [List.append_nil])
        exact EndOk.now rfl (resE_cell rfl (by kernel_rfl) (ld_sameA (m := 8) (Nat.le_refl 8) rfl) rfl) ⟨_, _, 5, rfl, RdP.err (parse_end (by omega) (by omega) (by rw [← hal]; exact hsum) (by rw [← hal]; exact hr1) (by rintro ⟨h1, h2⟩; apply hc11; rw [if_pos h2, if_pos h1]; rfl)), HSub.new hH (Nat.le_refl _) hSf, (hB.mono (by omega)).upd (by omega), by omega⟩
       ·refine WC.skip ?_
        refine WC.seqR (xs := [om 143 (.t 13),
          oq 144 (.p (.len (.t 143))),
          oq 145 (.p (.fad (.t 10) 7)),
          ⟨none, none, .w (.sto 1 (.t 145) (.t 144))⟩]) (by kernel_rfl) ?_
        refine WS.mv rfl rfl ?_
        refine WS.c (One.len rfl rfl ?_)
        refine WS.c (One.fad rfl rfl ?_)
        refine WS.z (One.sto (cs' := hdC (al, 0) i) rfl rfl hhd rfl rfl rfl rfl ?_)
        refine WS.nil ?_
        refine WC.seqR (xs := [oq 146 (.l (.ld (some 8) (.t 10))),
          om 147 (.t 13),
          ⟨none, none, .w (.sto 8 (.t 2) (.t 146))⟩,
          om 3 (.t 147),
          om 4 (.v (.int .i64 0))]) (by kernel_rfl) ?_
        refine WS.c (One.ld rfl (ld_sameA (m := 8) (l := hdC (al, 0) i) (by simp [hdC, mkC]) rfl) rfl ?_)
        refine WS.mv rfl rfl ?_
        refine WS.z (One.sto (cs' := hdC (al, 0) i) rfl rfl ((upd_ne (by omega)).trans (hF _ _ (hHF _ _ upd_eq))) rfl rfl rfl rfl ?_)
        refine WS.mv rfl rfl ?_
        refine WS.mv rfl rfl ?_
        refine WS.nil ?_
        refine WC.ret ?_
        have hSf := (hS1.trans hHF).trans hF
        rw [show mnV (al, 0) - i = 0 by omega] at hrest
        have hr1 : rest (al, 0) = some (cl, s) := hrest.trans (by show some (cl ++ [], s) = _; rw [List.append_nil])
        have he : s.1 = [] ∧ s.2 = 0 := by
         by_cases h2 : s.2 = 0
         ·by_cases h1 : s.1 = []
          ·exact ⟨h1, h2⟩
          ·rw [if_pos h2, if_neg h1] at hc11; exact absurd (by decide) hc11
         ·rw [if_neg h2] at hc11; exact absurd (by omega) hc11
        have hpar : parse l = .ok (hdC (al, 0) i, cl) := by
         rw [← hcl, hal]
         exact parse_ok (by omega) (by omega) (by rw [← hal]; exact hsum) (by rw [← hal]; exact hr1) he.1 he.2
        exact EndOk.now rfl (resE_cell rfl (by kernel_rfl) (ld_sameA (m := 8) (l := hdC (al, 0) i) (by simp [hdC, mkC]) rfl) rfl) ⟨_, _, 0, rfl, RdP.ok hpar ⟨cells, by rw [hcl]; exact ((hG.updLo (.inl (by omega)) (Nat.le_refl _)).updLo (.inl (by omega)) (Nat.le_refl _)).le (by omega), (hV.fr (L := n9) (fun j o hj ho => by rw [upd_ne (by omega), upd_ne (by intro h; rw [h, hFh] at ho; cases ho)]; exact hF _ _ ho) (Nat.le_refl _)).lo (by omega)⟩, HSub.new hH (Nat.le_refl _) (HSub.new hH (by omega) hSf), (hB.upd (by omega)).upd (by omega), by omega⟩
end Go.Proofs
end
section
namespace Go.Proofs
open Go.Eng
variable {sm : Nat → Option (List Value → St → Option (Value × St))}
theorem spec7 (hsm : sm 7 = none) (hsm19 : sm 19 = none) (hsm40 : sm 40 = none) (hsm42 : sm 42 = none) (hsm43 : sm 43 = none) (hsm95 : sm 95 = none) (hsm162 : sm 162 = none) (hsm45 : sm 45 = none) (hsm46 : sm 46 = none) (hsm47 : sm 47 = none) (hsm41 : sm 41 = none) (hsm91 : sm 91 = none) (hsm160 : sm 160 = none) (hsm92 : sm 92 = none) (hsm94 : sm 94 = none) (hsm100 : sm 100 = none) (hsm167 : sm 167 = none) (hsm166 : sm 166 = none) (hsm237 : sm 237 = none) (hsm318 : sm 318 = none) (hsm238 : sm 238 = none) (hsm227 : sm 227 = none) (hsm168 : sm 168 = none) (hsm239 : sm 239 = none) (hsm164 : sm 164 = none) (hsm236 : sm 236 = none) (hsm44 : sm 44 = none) (hsm96 : sm 96 = none) (hsm163 : sm 163 = none) (hsm97 : sm 97 = none) (hsm98 : sm 98 = none) (hsm99 : sm 99 = none) (hsm165 : sm 165 = none) (hsm101 : sm 101 = none) (hsm102 : sm 102 = none) (hsm169 : sm 169 = none) (hsm93 : sm 93 = none) (hsm161 : sm 161 = none) (H : Hp) (nx : Nat) (hH : HB H nx) (a : Option Addr) (l : List UInt8) (c : Nat) (ha : BS H a l) (hl : l.length ≤ 536870912) (hcl0 : l.length ≤ c) (hc0 : c ≤ 1073741824) : FnOk (envS sm) 7 [.slice a l.length c] H nx (fun v H' nx' => v = .tuple ⟨[.agg ⟨hdOf l⟩, .int .i64 ((erOf l : Nat) : Int)]⟩ ∧ HSub H H' ∧ HB H' nx' ∧ nx ≤ nx') (fun _ _ _ => False) := by
 refine FnOk.of (fn := Tryz.f7) hsm rfl rfl rfl ?_
 refine WC.seqR (xs := [oq 2 (.m (.alc [(.bool false), (.int .i64 0), (.int .i64 0), (.int .u32 0), (.int .i64 0), (.int .i64 0), (.int .u32 0), (.int .i64 0)] 30)),
   om 3 (.v (.int .i64 0))]) (by kernel_rfl) ?_
 refine WS.c (One.alc rfl ?_)
 have hB1 := hH.new (o := .cells hd0 30 0)
 have hS1 : HSub H (upd H nx (.cells hd0 30 0)) := HSub.new hH (Nat.le_refl _) (HSub.refl H)
 refine WS.mv rfl rfl ?_
 refine WS.nil ?_
 refine WC.seqR (xs := [om 8 (.t 0),
   oq 9 (.call (.v (.func (.func 19) #[] #[])) [(.t 8)]),
   om 7 (.t 9),
   oq 10 (.p (.ext (.t 7) 0)),
   oq 11 (.p (.ext (.t 7) 1)),
   oq 12 (.p (.ext (.t 7) 2)),
   oq 4 (.m (.alc [(.bool false), (.int .i64 0), (.int .i64 0), (.int .u32 0), (.int .i64 0), (.int .i64 0), (.int .u32 0), (.int .i64 0)] 30)),
   ⟨none, none, .w (.sto 8 (.t 4) (.t 10))⟩,
   om 5 (.t 11),
   om 6 (.t 12)]) (by kernel_rfl) ?_
 refine WS.mv rfl rfl ?_
 refine WS.c (One.call rfl rfl (spec19 hsm19 hsm40 hsm42 hsm43 hsm95 hsm162 hsm45 hsm46 hsm47 hsm41 hsm91 hsm160 hsm92 hsm94 hsm100 hsm167 hsm166 hsm237 hsm318 hsm238 hsm227 hsm168 hsm239 hsm164 hsm236 hsm44 hsm96 hsm163 hsm97 hsm98 hsm99 hsm165 hsm101 hsm102 hsm169 hsm93 hsm161 _ _ hB1 a l c (ha.mono hS1) hl hcl0 hc0) rfl ?_ (fun _ _ _ h => h.elim))
 rintro _ H2 n2 ⟨hd, lv, e, rfl, hRd, hS2, hB2, hn2⟩
 obtain ⟨rfl, hls, rfl⟩ := hRd.out (by omega)
 refine WS.mv rfl rfl ?_
 refine WS.c (One.ext rfl rfl rfl ?_)
 refine WS.c (One.ext rfl rfl rfl ?_)
 refine WS.c (One.ext rfl rfl rfl ?_)
 refine WS.c (One.alc rfl ?_)
 refine WS.z (One.sto (cs' := hdOf l) rfl rfl upd_eq (hd_len l) (hd_one l) (hd_lay l) rfl ?_)
 refine WS.mv rfl rfl ?_
 refine WS.mv rfl rfl ?_
 refine WS.nil ?_
 refine WC.seqR (xs := [oq 13 (.l (.ld (some 8) (.t 4))),
   om 14 (.t 6),
   ⟨none, none, .w (.sto 8 (.t 2) (.t 13))⟩,
   om 3 (.t 14)]) (by kernel_rfl) ?_
 refine WS.c (One.ld rfl (ld_sameA (m := 8) (by rw [hd_len]; decide) (hd_tk l)) rfl ?_)
 refine WS.mv rfl rfl ?_
 refine WS.z (One.sto (cs' := hdOf l) rfl rfl ((upd_ne (by omega)).trans ((upd_ne (by omega)).trans (hS2 _ _ upd_eq))) (hd_len l) (hd_one l) (hd_lay l) rfl ?_)
 refine WS.mv rfl rfl ?_
 refine WS.nil ?_
 refine WC.ret ?_
 exact EndOk.now rfl (resE_cell rfl (by kernel_rfl) (ld_sameA (m := 8) (by rw [hd_len]; decide) (hd_tk l)) rfl) ⟨rfl, HSub.new hH (Nat.le_refl _) (HSub.new hH (by omega) (HSub.new hH (by omega) (hS1.trans hS2))), (hB2.new.upd (by omega)).upd (by omega), by omega⟩
theorem spec10 (hsm : sm 10 = none) (hsm19 : sm 19 = none) (hsm40 : sm 40 = none) (hsm42 : sm 42 = none) (hsm43 : sm 43 = none) (hsm95 : sm 95 = none) (hsm162 : sm 162 = none) (hsm45 : sm 45 = none) (hsm46 : sm 46 = none) (hsm47 : sm 47 = none) (hsm41 : sm 41 = none) (hsm91 : sm 91 = none) (hsm160 : sm 160 = none) (hsm92 : sm 92 = none) (hsm94 : sm 94 = none) (hsm100 : sm 100 = none) (hsm167 : sm 167 = none) (hsm166 : sm 166 = none) (hsm237 : sm 237 = none) (hsm318 : sm 318 = none) (hsm238 : sm 238 = none) (hsm227 : sm 227 = none) (hsm168 : sm 168 = none) (hsm239 : sm 239 = none) (hsm164 : sm 164 = none) (hsm236 : sm 236 = none) (hsm44 : sm 44 = none) (hsm96 : sm 96 = none) (hsm163 : sm 163 = none) (hsm97 : sm 97 = none) (hsm98 : sm 98 = none) (hsm99 : sm 99 = none) (hsm165 : sm 165 = none) (hsm101 : sm 101 = none) (hsm102 : sm 102 = none) (hsm169 : sm 169 = none) (hsm93 : sm 93 = none) (hsm161 : sm 161 = none) (H : Hp) (nx : Nat) (hH : HB H nx) (a : Option Addr) (l : List UInt8) (c : Nat) (ha : BS H a l) (hl : l.length ≤ 536870912) (hcl0 : l.length ≤ c) (hc0 : c ≤ 1073741824) : FnOk (envS sm) 10 [.slice a l.length c] H nx (fun v H' nx' => ∃ lv, v = .tuple ⟨[lv, .int .i64 ((erOf l : Nat) : Int)]⟩ ∧ LsP H' nx nx' lv (chOf l) ∧ HSub H H' ∧ HB H' nx' ∧ nx ≤ nx') (fun _ _ _ => False) := by
 refine FnOk.of (fn := Tryz.f10) hsm rfl rfl rfl ?_
 refine WC.seqR (xs := [om 2 (.v (.slice none 0 0)),
   om 3 (.v (.int .i64 0))]) (by kernel_rfl) ?_
 refine WS.mv rfl rfl ?_
 refine WS.mv rfl rfl ?_
 refine WS.nil ?_
 refine WC.seqR (xs := [om 8 (.t 0),
   oq 9 (.call (.v (.func (.func 19) #[] #[])) [(.t 8)]),
   om 7 (.t 9),
   oq 10 (.p (.ext (.t 7) 0)),
   oq 11 (.p (.ext (.t 7) 1)),
   oq 12 (.p (.ext (.t 7) 2)),
   oq 4 (.m (.alc [(.bool false), (.int .i64 0), (.int .i64 0), (.int .u32 0), (.int .i64 0), (.int .i64 0), (.int .u32 0), (.int .i64 0)] 30)),
   ⟨none, none, .w (.sto 8 (.t 4) (.t 10))⟩,
   om 5 (.t 11),
   om 6 (.t 12)]) (by kernel_rfl) ?_
 refine WS.mv rfl rfl ?_
 refine WS.c (One.call rfl rfl (spec19 hsm19 hsm40 hsm42 hsm43 hsm95 hsm162 hsm45 hsm46 hsm47 hsm41 hsm91 hsm160 hsm92 hsm94 hsm100 hsm167 hsm166 hsm237 hsm318 hsm238 hsm227 hsm168 hsm239 hsm164 hsm236 hsm44 hsm96 hsm163 hsm97 hsm98 hsm99 hsm165 hsm101 hsm102 hsm169 hsm93 hsm161 _ _ hH a l c (ha.mono (HSub.refl H)) hl hcl0 hc0) rfl ?_ (fun _ _ _ h => h.elim))
 rintro _ H2 n2 ⟨hd, lv, e, rfl, hRd, hS2, hB2, hn2⟩
 obtain ⟨rfl, hls, rfl⟩ := hRd.out (by omega)
 refine WS.mv rfl rfl ?_
 refine WS.c (One.ext rfl rfl rfl ?_)
 refine WS.c (One.ext rfl rfl rfl ?_)
 refine WS.c (One.ext rfl rfl rfl ?_)
 refine WS.c (One.alc rfl ?_)
 refine WS.z (One.sto (cs' := hdOf l) rfl rfl upd_eq (hd_len l) (hd_one l) (hd_lay l) rfl ?_)
 refine WS.mv rfl rfl ?_
 refine WS.mv rfl rfl ?_
 refine WS.nil ?_
 refine WC.seqR (xs := [om 13 (.t 5),
   om 14 (.t 6),
   om 2 (.t 13),
   om 3 (.t 14)]) (by kernel_rfl) ?_
 refine WS.mv rfl rfl ?_
 refine WS.mv rfl rfl ?_
 refine WS.mv rfl rfl ?_
 refine WS.mv rfl rfl ?_
 refine WS.nil ?_
 refine WC.ret ?_
 exact EndOk.now rfl rfl ⟨lv, rfl, (LsP.mono (hls.le (by omega)) (HSub.new hB2 (Nat.le_refl _) (HSub.new hB2 (Nat.le_refl _) (HSub.refl H2))) (by omega)), HSub.new hH (by omega) (HSub.new hH (by omega) hS2), hB2.new.upd (by omega), by omega⟩
end Go.Proofs
end
