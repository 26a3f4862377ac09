/-
  Part of the proof of StreamReadsUptoSaid: Head and Changes of the reference; the program reads.
-/
import Derived.Test.YtgidhbelekicbaaGreatSd
set_option linter.unusedVariables false
section
namespace Go.Proofs
open Go.Eng
variable {sm : Nat → Option (List Value → St → Option (Value × St))}
def hdOf (l : List UInt8) : List Value := match parse l with
 | .error _ => hd0
 | .ok (h, _) => h
def chOf (l : List UInt8) : List Chg := match parse l with
 | .error _ => []
 | .ok (_, c) => c
def erOf (l : List UInt8) : Nat := match parse l with
 | .error e => e
 | .ok _ => 0
theorem Rd.out {H : Hp} {lo hi : Nat} {l : List UInt8} {hd : List Value} {lv : Value} {e : Nat} (h : Rd H lo hi l hd lv e) : hd = hdOf l ∧ LsC H lo hi lv (chOf l) ∧ e = erOf l := by
 unfold Rd at h
 unfold hdOf chOf erOf
 cases hp : parse l with
 | error f =>
  rw [hp] at h
  obtain ⟨h1, rfl, h3⟩ := h
  exact ⟨h1, ⟨[], GS.nil _ _ _ _ _, rfl⟩, h3⟩
 | ok q =>
  obtain ⟨hc, cl⟩ := q
  rw [hp] at h
  exact h
theorem hd8 (l : List UInt8) : hdOf l = hd0 ∨ ∃ s n, hdOf l = hdC s n := by
 unfold hdOf
 cases hp : parse l with
 | error f => exact .inl rfl
 | ok q =>
  refine .inr ⟨(l.take (l.length - 4), 0), q.2.length, ?_⟩
  unfold parse at hp
  repeat' split at hp
  all_goals first | (cases hp; done) | skip
  injection hp with hp
  subst hp
  rfl
theorem hd_len (l : List UInt8) : (hdOf l).length = 8 := by
 rcases hd8 l with h | ⟨s, n, h⟩ <;> rw [h] <;> rfl
theorem hd_one (l : List UInt8) : (hdOf l).all oneCellB = true := by
 rcases hd8 l with h | ⟨s, n, h⟩ <;> rw [h] <;> rfl
theorem hd_lay (l : List UInt8) : layL hd0 0 (hdOf l) = some (hdOf l) := by
 rw [layL_at (by rw [hd_len]; decide), hd_len, List.drop_of_length_le (by decide), List.append_nil]; rfl
theorem hd_tk (l : List UInt8) : ((hdOf l).drop 0).take 8 = hdOf l := by rw [List.drop_zero, ← hd_len l, List.take_length]
theorem LsC.mono {A B : Hp} {lo hi hj : Nat} {v : Value} {cl : List Chg} (h : LsC A lo hi v cl) (hs : HSub A B) (hh : hi ≤ hj) : LsC B lo hj v cl := by
 obtain ⟨c, h1, h2⟩ := h
 exact ⟨c, h1.mono hs hh, h2.mono hs⟩
theorem ChV.le {A : Hp} {lo l : Nat} (hl : l ≤ lo) : ∀ {cl : List Chg} {c : List Value}, ChV A lo cl c → ChV A l cl c
 | [], _, h => h
 | _ :: _, _, h => by
  obtain ⟨w1, w2, w3, r, h3, h4, h5, h6, h7⟩ := h
  exact ⟨w1, w2, w3, r, h3, h4.le hl, h5.le hl, h6.le hl, ChV.le hl h7⟩
theorem LsC.le {A : Hp} {lo hi l : Nat} {v : Value} {cl : List Chg} (h : LsC A lo hi v cl) (hl : l ≤ lo) : LsC A l hi v cl := by
 obtain ⟨c, h1, h2⟩ := h
 exact ⟨c, h1.le hl, h2.le hl⟩
theorem spec8 (hsm : sm 8 = none) (hsm20 : sm 20 = none) (hsm49 : sm 49 = none) (hsm103 : sm 103 = none) (hsm170 : sm 170 = none) (hsm241 : sm 241 = none) (hsm48 : sm 48 = none) (hsm22 : sm 22 = none) (hsm57 : sm 57 = none) (hsm50 : sm 50 = none) (hsm52 : sm 52 = none) (hsm53 : sm 53 = none) (hsm54 : sm 54 = none) (hsm55 : sm 55 = none) (hsm56 : sm 56 = none) (hsm106 : sm 106 = none) (hsm51 : sm 51 = none) (hsm105 : sm 105 = none) (hsm104 : sm 104 = none) (hsm107 : sm 107 = none) (hsm171 : sm 171 = none) (H : Hp) (nx : Nat) (hH : HB H nx) (a : Option Addr) (l : List UInt8) (c : Nat) (ha : BS H a l) (hl : l.length ≤ 536870912) (hcl0 : l.length ≤ c) (hc0 : c ≤ 1073741824) : FnOk (envS sm) 8 [.slice a l.length c] H nx (fun v H' nx' => v = .tuple ⟨[.agg ⟨hdOf l⟩, .int .i64 ((erOf l : Nat) : Int)]⟩ ∧ HSub H H' ∧ HB H' nx' ∧ nx ≤ nx') (fun _ _ _ => False) := by
 refine FnOk.of (fn := Tryz.f8) hsm rfl rfl rfl ?_
 refine WC.seqR (xs := [oq 2 (.m (.alc [(.bool false), (.int .i64 0), (.int .i64 0), (.int .u32 0), (.int .i64 0), (.int .i64 0), (.int .u32 0), (.int .i64 0)] 30)),
   om 3 (.v (.int .i64 0))]) (by kernel_rfl) ?_
 refine WS.c (One.alc rfl ?_)
 have hB1 := hH.new (o := .cells hd0 30 0)
 have hS1 : HSub H (upd H nx (.cells hd0 30 0)) := HSub.new hH (Nat.le_refl _) (HSub.refl H)
 refine WS.mv rfl rfl ?_
 refine WS.nil ?_
 refine WC.seqR (xs := [om 8 (.t 0),
   oq 9 (.call (.v (.func (.func 20) #[] #[])) [(.t 8)]),
   om 7 (.t 9),
   oq 10 (.p (.ext (.t 7) 0)),
   oq 11 (.p (.ext (.t 7) 1)),
   oq 12 (.p (.ext (.t 7) 2)),
   oq 4 (.m (.alc [(.bool false), (.int .i64 0), (.int .i64 0), (.int .u32 0), (.int .i64 0), (.int .i64 0), (.int .u32 0), (.int .i64 0)] 30)),
   ⟨none, none, .w (.sto 8 (.t 4) (.t 10))⟩,
   om 5 (.t 11),
   om 6 (.t 12)]) (by kernel_rfl) ?_
 refine WS.mv rfl rfl ?_
 refine WS.c (One.call rfl rfl (spec20 hsm20 hsm49 hsm103 hsm170 hsm241 hsm48 hsm22 hsm57 hsm50 hsm52 hsm53 hsm54 hsm55 hsm56 hsm106 hsm51 hsm105 hsm104 hsm107 hsm171 _ _ hB1 a l c (ha.mono hS1) hl hcl0 hc0) rfl ?_ (fun _ _ _ h => h.elim))
 rintro _ H2 n2 ⟨hd, lv, e, rfl, hRd, hS2, hB2, hn2⟩
 obtain ⟨rfl, hls, rfl⟩ := hRd.out
 refine WS.mv rfl rfl ?_
 refine WS.c (One.ext rfl rfl rfl ?_)
 refine WS.c (One.ext rfl rfl rfl ?_)
 refine WS.c (One.ext rfl rfl rfl ?_)
 refine WS.c (One.alc rfl ?_)
 refine WS.z (One.sto (cs' := hdOf l) rfl rfl upd_eq (hd_len l) (hd_one l) (hd_lay l) rfl ?_)
 refine WS.mv rfl rfl ?_
 refine WS.mv rfl rfl ?_
 refine WS.nil ?_
 refine WC.seqR (xs := [oq 13 (.l (.ld (some 8) (.t 4))),
   om 14 (.t 6),
   ⟨none, none, .w (.sto 8 (.t 2) (.t 13))⟩,
   om 3 (.t 14)]) (by kernel_rfl) ?_
 refine WS.c (One.ld rfl (ld_sameA (m := 8) (by rw [hd_len]; decide) (hd_tk l)) rfl ?_)
 refine WS.mv rfl rfl ?_
 refine WS.z (One.sto (cs' := hdOf l) rfl rfl ((upd_ne (by omega)).trans ((upd_ne (by omega)).trans (hS2 _ _ upd_eq))) (hd_len l) (hd_one l) (hd_lay l) rfl ?_)
 refine WS.mv rfl rfl ?_
 refine WS.nil ?_
 refine WC.ret ?_
 exact EndOk.now rfl (resE_cell rfl (by kernel_rfl) (ld_sameA (m := 8) (by rw [hd_len]; decide) (hd_tk l)) rfl) ⟨rfl, HSub.new hH (Nat.le_refl _) (HSub.new hH (by omega) (HSub.new hH (by omega) (hS1.trans hS2))), (hB2.new.upd (by omega)).upd (by omega), by omega⟩
theorem spec9 (hsm : sm 9 = none) (hsm20 : sm 20 = none) (hsm49 : sm 49 = none) (hsm103 : sm 103 = none) (hsm170 : sm 170 = none) (hsm241 : sm 241 = none) (hsm48 : sm 48 = none) (hsm22 : sm 22 = none) (hsm57 : sm 57 = none) (hsm50 : sm 50 = none) (hsm52 : sm 52 = none) (hsm53 : sm 53 = none) (hsm54 : sm 54 = none) (hsm55 : sm 55 = none) (hsm56 : sm 56 = none) (hsm106 : sm 106 = none) (hsm51 : sm 51 = none) (hsm105 : sm 105 = none) (hsm104 : sm 104 = none) (hsm107 : sm 107 = none) (hsm171 : sm 171 = none) (H : Hp) (nx : Nat) (hH : HB H nx) (a : Option Addr) (l : List UInt8) (c : Nat) (ha : BS H a l) (hl : l.length ≤ 536870912) (hcl0 : l.length ≤ c) (hc0 : c ≤ 1073741824) : FnOk (envS sm) 9 [.slice a l.length c] H nx (fun v H' nx' => ∃ lv, v = .tuple ⟨[lv, .int .i64 ((erOf l : Nat) : Int)]⟩ ∧ LsC H' nx nx' lv (chOf l) ∧ HSub H H' ∧ HB H' nx' ∧ nx ≤ nx') (fun _ _ _ => False) := by
 refine FnOk.of (fn := Tryz.f9) hsm rfl rfl rfl ?_
 refine WC.seqR (xs := [om 2 (.v (.slice none 0 0)),
   om 3 (.v (.int .i64 0))]) (by kernel_rfl) ?_
 refine WS.mv rfl rfl ?_
 refine WS.mv rfl rfl ?_
 refine WS.nil ?_
 refine WC.seqR (xs := [om 8 (.t 0),
   oq 9 (.call (.v (.func (.func 20) #[] #[])) [(.t 8)]),
   om 7 (.t 9),
   oq 10 (.p (.ext (.t 7) 0)),
   oq 11 (.p (.ext (.t 7) 1)),
   oq 12 (.p (.ext (.t 7) 2)),
   oq 4 (.m (.alc [(.bool false), (.int .i64 0), (.int .i64 0), (.int .u32 0), (.int .i64 0), (.int .i64 0), (.int .u32 0), (.int .i64 0)] 30)),
   ⟨none, none, .w (.sto 8 (.t 4) (.t 10))⟩,
   om 5 (.t 11),
   om 6 (.t 12)]) (by kernel_rfl) ?_
 refine WS.mv rfl rfl ?_
 refine WS.c (One.call rfl rfl (spec20 hsm20 hsm49 hsm103 hsm170 hsm241 hsm48 hsm22 hsm57 hsm50 hsm52 hsm53 hsm54 hsm55 hsm56 hsm106 hsm51 hsm105 hsm104 hsm107 hsm171 _ _ hH a l c (ha.mono (HSub.refl H)) hl hcl0 hc0) rfl ?_ (fun _ _ _ h => h.elim))
 rintro _ H2 n2 ⟨hd, lv, e, rfl, hRd, hS2, hB2, hn2⟩
 obtain ⟨rfl, hls, rfl⟩ := hRd.out
 refine WS.mv rfl rfl ?_
 refine WS.c (One.ext rfl rfl rfl ?_)
 refine WS.c (One.ext rfl rfl rfl ?_)
 refine WS.c (One.ext rfl rfl rfl ?_)
 refine WS.c (One.alc rfl ?_)
 refine WS.z (One.sto (cs' := hdOf l) rfl rfl upd_eq (hd_len l) (hd_one l) (hd_lay l) rfl ?_)
 refine WS.mv rfl rfl ?_
 refine WS.mv rfl rfl ?_
 refine WS.nil ?_
 refine WC.seqR (xs := [om 13 (.t 5),
   om 14 (.t 6),
   om 2 (.t 13),
   om 3 (.t 14)]) (by kernel_rfl) ?_
 refine WS.mv rfl rfl ?_
 refine WS.mv rfl rfl ?_
 refine WS.mv rfl rfl ?_
 refine WS.mv rfl rfl ?_
 refine WS.nil ?_
 refine WC.ret ?_
 exact EndOk.now rfl rfl ⟨lv, rfl, (LsC.mono (hls.le (by omega)) (HSub.new hB2 (Nat.le_refl _) (HSub.new hB2 (Nat.le_refl _) (HSub.refl H2))) (by omega)), HSub.new hH (by omega) (HSub.new hH (by omega) hS2), hB2.new.upd (by omega), by omega⟩
end Go.Proofs
end
section
namespace Go.Proofs
open Go.Eng
variable {sm : Nat → Option (List Value → St → Option (Value × St))}
theorem wid_end {n : Nat} (h : ¬ 0 < 256 ^ n - 1) : n = 0 := by
 cases n with
 | zero => rfl
 | succ n => have := Nat.pow_pos (n := n) (show 0 < 256 by decide); rw [Nat.pow_succ] at h; omega
theorem wid_step {n : Nat} : (256 ^ (n + 1) - 1) / 2 ^ 8 = 256 ^ n - 1 := by
 have := Nat.pow_pos (n := n) (show 0 < 256 by decide)
 rw [Nat.pow_succ, show (2 : Nat) ^ 8 = 256 from rfl]; omega
def WR (H : Hp) (r b : Nat) (rest : List UInt8) (e : Nat) : Prop := ∃ bs p, H r = some (.cells [.slice (some ⟨b, p, none⟩) (bs.length - p) (big + 1 * qq + (bs.length - p)), .int .i64 (e : Int)] 178 0) ∧ H b = some (.cells (strCells bs) 5 2) ∧ b ≠ r ∧ p ≤ bs.length ∧ bs.drop p = rest ∧ bs.length ≤ 536870912
theorem WR.len {H : Hp} {r b e : Nat} {rest : List UInt8} (h : WR H r b rest e) : rest.length ≤ 536870912 := by
 obtain ⟨bs, p, _, _, _, h1, rfl, h2⟩ := h
 rw [List.length_drop]; omega
theorem WR.lt {H : Hp} {r b e nx : Nat} {rest : List UInt8} (h : WR H r b rest e) (hb : HB H nx) : r < nx := by
 obtain ⟨bs, p, h1, _⟩ := h
 exact hb _ _ h1
theorem WR.ltb {H : Hp} {r b e nx : Nat} {rest : List UInt8} (h : WR H r b rest e) (hb : HB H nx) : b < nx := by
 obtain ⟨bs, p, h1, h2, _⟩ := h
 exact hb _ _ h2
theorem WR.mono {A B : Hp} {r b e : Nat} {rest : List UInt8} (h : WR A r b rest e) (hs : HSub A B) : WR B r b rest e := by
 obtain ⟨bs, p, h1, h2, h3⟩ := h
 exact ⟨bs, p, hs _ _ h1, hs _ _ h2, h3⟩
theorem WR.fr {A B : Hp} {r b e : Nat} {rest : List UInt8} (h : WR A r b rest e) (hs : ∀ i o, A i = some o → i = r ∨ i = b → B i = some o) : WR B r b rest e := by
 obtain ⟨bs, p, h1, h2, h3⟩ := h
 exact ⟨bs, p, hs _ _ h1 (.inl rfl), hs _ _ h2 (.inr rfl), h3⟩
theorem WR.upd {A : Hp} {r b e c : Nat} {rest : List UInt8} {o : AO} (h : WR A r b rest e) (h1 : c ≠ r) (h2 : c ≠ b) : WR (upd A c o) r b rest e :=
 h.fr fun i o ho hi => by rw [upd_ne (by omega)]; exact ho
theorem WR.obj {H : Hp} {r b e : Nat} {rest : List UInt8} (h : WR H r b rest e) : ∃ p c, H r = some (.cells [.slice (some ⟨b, p, none⟩) rest.length c, .int .i64 (e : Int)] 178 0) := by
 obtain ⟨bs, p, h1, h2, h3, h4, rfl, h6⟩ := h
 exact ⟨p, _, by rw [List.length_drop]; exact h1⟩
theorem bs_drop {H : Hp} {b p : Nat} {bs : List UInt8} {e : TypeId} {el : Nat} (hb : H b = some (.cells (strCells bs) e el)) (hp : p ≤ bs.length) : BS H (some ⟨b, p, none⟩) (bs.drop p) :=
 BS.of hb (by rw [strCells_len, List.length_drop]; omega) (by rw [strCells_drop, strCells_take, List.take_length])
theorem spec98 (hsm : sm 98 = none) (H : Hp) (nx : Nat) : FnOk (envS sm) 98 [] H nx (fun v H' nx' => v = .int .i64 ((1 : Nat) : Int) ∧ H = H' ∧ nx = nx') (fun _ _ _ => False) := by
 refine FnOk.of (fn := Tryz.f98) hsm rfl rfl rfl ?_
 refine WC.seqR (xs := [om 0 (.v (.int .i64 0))]) (by kernel_rfl) ?_
 refine WS.mv rfl rfl ?_
 refine WS.nil ?_
 refine WC.seqR (xs := [om 1 (.v (.int .i64 0))]) (by kernel_rfl) ?_
 refine WS.mv rfl rfl ?_
 refine WS.nil ?_
 refine WC.seq ?_
 refine WC.seqR (xs := [oq 3 (.p (.cvI .u8 (.v (.int .i64 0)))),
   oq 4 (.p (.com (.t 3))),
   oq 5 (.p (.cvI .u64 (.t 4))),
   om 2 (.t 5)]) (by kernel_rfl) ?_
 refine WS.c (One.cvI (c := 0) rfl rfl rfl ?_)
 refine WS.c (One.com (v := .int .u8 255) rfl rfl rfl ?_)
 refine WS.c (One.cvI (c := 255) rfl rfl rfl ?_)
 refine WS.mv rfl rfl ?_
 refine WS.nil ?_
 refine WC.block ?_
 refine WC.loop (fun m env ds H' nx' => ∃ (k x : Nat), m = 1 - k ∧ SubE [(1, .int .i64 (k : Int)), (2, .int .u64 (x : Int))] env ∧ ds = [] ∧ k ≤ 1 ∧ x = 256 ^ (1 - k) - 1 ∧ H = H' ∧ nx = nx') (fun m env ds H' nx' hI => ?_) (m := 1) (⟨0, 255, by omega, (by repeat (first | exact SubE.nil _ | refine SubE.cons rfl ?_)), rfl, by omega, rfl, rfl, rfl⟩)
 obtain ⟨k, x, rfl, hsub, rfl, hk, hx, rfl, rfl⟩ := hI
 refine WC.weak (env' := [(1, .int .i64 (k : Int)), (2, .int .u64 (x : Int))]) ?_ hsub (fun _ _ h => h)
 refine WC.seq ?_
 refine WC.seqR (xs := [om 6 (.t 2),
   oq 7 (.p (.bin .gtr .other true (.t 6) (.v (.int .u64 0))))]) (by kernel_rfl) ?_
 refine WS.mv rfl rfl ?_
 refine WS.c (One.bin rfl rfl bin_gtr rfl ?_)
 refine WS.nil ?_
 refine WC.cond rfl (fun hc1 => ?_) (fun hc1 => ?_)
 ·refine WC.skip ?_
  refine WC.seq ?_
  refine WC.block ?_
  refine WC.region (xs := [om 10 (.t 1),
    oq 11 (.p (.bin .add .other true (.t 10) (.v (.int .i64 1)))),
    om 1 (.t 11)]) (by kernel_rfl) ?_
  refine WS.mv rfl rfl ?_
  refine WS.c (One.bin rfl rfl (bin_add64 (by omega) (by omega)) rfl ?_)
  refine WS.mv rfl rfl ?_
  refine WS.nil ?_
  refine WC.region (xs := [om 8 (.t 2),
    oq 9 (.p (.sh false (.t 8) (.v (.int .u64 8)))),
    om 2 (.t 9)]) (by kernel_rfl) ?_
  refine WS.mv rfl rfl ?_
  refine WS.c (One.sh rfl rfl (sh_r (m := 8) rfl (by decide)) rfl ?_)
  refine WS.mv rfl rfl ?_
  refine WS.nil ?_
  have hk1 : k < 1 := by
   rcases Nat.lt_or_ge k 1 with h | h
   ·exact h
   ·rw [show 1 - k = 0 by omega] at hx; simp at hx; omega
  refine ⟨_, ?_, k + 1, x / 2 ^ 8, rfl, (by repeat (first | exact SubE.nil _ | refine SubE.cons rfl ?_)), rfl, by omega, ?_, rfl, rfl⟩
  ·omega
  ·rw [hx, show 1 - k = (1 - (k + 1)) + 1 by omega]; exact wid_step
 ·refine WC.exit ?_
  refine WC.seqR (xs := [om 12 (.t 1),
    om 0 (.t 12)]) (by kernel_rfl) ?_
  refine WS.mv rfl rfl ?_
  refine WS.mv rfl rfl ?_
  refine WS.nil ?_
  refine WC.ret ?_
  have hk2 : 1 - k = 0 := wid_end (by omega)
  have hk3 : k = 1 := by omega
  subst hk3
  exact EndOk.now rfl rfl ⟨rfl, rfl, rfl⟩
theorem spec227 (hsm : sm 227 = none) (H : Hp) (nx : Nat) : FnOk (envS sm) 227 [] H nx (fun v H' nx' => v = .int .i64 ((2 : Nat) : Int) ∧ H = H' ∧ nx = nx') (fun _ _ _ => False) := by
 refine FnOk.of (fn := Tryz.f227) hsm rfl rfl rfl ?_
 refine WC.seqR (xs := [om 0 (.v (.int .i64 0))]) (by kernel_rfl) ?_
 refine WS.mv rfl rfl ?_
 refine WS.nil ?_
 refine WC.seqR (xs := [om 1 (.v (.int .i64 0))]) (by kernel_rfl) ?_
 refine WS.mv rfl rfl ?_
 refine WS.nil ?_
 refine WC.seq ?_
 refine WC.seqR (xs := [oq 3 (.p (.cvI .u16 (.v (.int .i64 0)))),
   oq 4 (.p (.com (.t 3))),
   oq 5 (.p (.cvI .u64 (.t 4))),
   om 2 (.t 5)]) (by kernel_rfl) ?_
 refine WS.c (One.cvI (c := 0) rfl rfl rfl ?_)
 refine WS.c (One.com (v := .int .u16 65535) rfl rfl rfl ?_)
 refine WS.c (One.cvI (c := 65535) rfl rfl rfl ?_)
 refine WS.mv rfl rfl ?_
 refine WS.nil ?_
 refine WC.block ?_
 refine WC.loop (fun m env ds H' nx' => ∃ (k x : Nat), m = 2 - k ∧ SubE [(1, .int .i64 (k : Int)), (2, .int .u64 (x : Int))] env ∧ ds = [] ∧ k ≤ 2 ∧ x = 256 ^ (2 - k) - 1 ∧ H = H' ∧ nx = nx') (fun m env ds H' nx' hI => ?_) (m := 2) (⟨0, 65535, by omega, (by repeat (first | exact SubE.nil _ | refine SubE.cons rfl ?_)), rfl, by omega, rfl, rfl, rfl⟩)
 obtain ⟨k, x, rfl, hsub, rfl, hk, hx, rfl, rfl⟩ := hI
 refine WC.weak (env' := [(1, .int .i64 (k : Int)), (2, .int .u64 (x : Int))]) ?_ hsub (fun _ _ h => h)
 refine WC.seq ?_
 refine WC.seqR (xs := [om 6 (.t 2),
   oq 7 (.p (.bin .gtr .other true (.t 6) (.v (.int .u64 0))))]) (by kernel_rfl) ?_
 refine WS.mv rfl rfl ?_
 refine WS.c (One.bin rfl rfl bin_gtr rfl ?_)
 refine WS.nil ?_
 refine WC.cond rfl (fun hc1 => ?_) (fun hc1 => ?_)
 ·refine WC.skip ?_
  refine WC.seq ?_
  refine WC.block ?_
  refine WC.region (xs := [om 10 (.t 1),
    oq 11 (.p (.bin .add .other true (.t 10) (.v (.int .i64 1)))),
    om 1 (.t 11)]) (by kernel_rfl) ?_
  refine WS.mv rfl rfl ?_
  refine WS.c (One.bin rfl rfl (bin_add64 (by omega) (by omega)) rfl ?_)
  refine WS.mv rfl rfl ?_
  refine WS.nil ?_
  refine WC.region (xs := [om 8 (.t 2),
    oq 9 (.p (.sh false (.t 8) (.v (.int .u64 8)))),
    om 2 (.t 9)]) (by kernel_rfl) ?_
  refine WS.mv rfl rfl ?_
  refine WS.c (One.sh rfl rfl (sh_r (m := 8) rfl (by decide)) rfl ?_)
  refine WS.mv rfl rfl ?_
  refine WS.nil ?_
  have hk1 : k < 2 := by
   rcases Nat.lt_or_ge k 2 with h | h
   ·exact h
   ·rw [show 2 - k = 0 by omega] at hx; simp at hx; omega
  refine ⟨_, ?_, k + 1, x / 2 ^ 8, rfl, (by repeat (first | exact SubE.nil _ | refine SubE.cons rfl ?_)), rfl, by omega, ?_, rfl, rfl⟩
  ·omega
  ·rw [hx, show 2 - k = (2 - (k + 1)) + 1 by omega]; exact wid_step
 ·refine WC.exit ?_
  refine WC.seqR (xs := [om 12 (.t 1),
    om 0 (.t 12)]) (by kernel_rfl) ?_
  refine WS.mv rfl rfl ?_
  refine WS.mv rfl rfl ?_
  refine WS.nil ?_
  refine WC.ret ?_
  have hk2 : 2 - k = 0 := wid_end (by omega)
  have hk3 : k = 2 := by omega
  subst hk3
  exact EndOk.now rfl rfl ⟨rfl, rfl, rfl⟩
theorem spec94 (hsm : sm 94 = none) (H : Hp) (nx : Nat) : FnOk (envS sm) 94 [] H nx (fun v H' nx' => v = .int .i64 ((4 : Nat) : Int) ∧ H = H' ∧ nx = nx') (fun _ _ _ => False) := by
 refine FnOk.of (fn := Tryz.f94) hsm rfl rfl rfl ?_
 refine WC.seqR (xs := [om 0 (.v (.int .i64 0))]) (by kernel_rfl) ?_
 refine WS.mv rfl rfl ?_
 refine WS.nil ?_
 refine WC.seqR (xs := [om 1 (.v (.int .i64 0))]) (by kernel_rfl) ?_
 refine WS.mv rfl rfl ?_
 refine WS.nil ?_
 refine WC.seq ?_
 refine WC.seqR (xs := [oq 3 (.p (.cvI .u32 (.v (.int .i64 0)))),
   oq 4 (.p (.com (.t 3))),
   oq 5 (.p (.cvI .u64 (.t 4))),
   om 2 (.t 5)]) (by kernel_rfl) ?_
 refine WS.c (One.cvI (c := 0) rfl rfl rfl ?_)
 refine WS.c (One.com (v := .int .u32 4294967295) rfl rfl rfl ?_)
 refine WS.c (One.cvI (c := 4294967295) rfl rfl rfl ?_)
 refine WS.mv rfl rfl ?_
 refine WS.nil ?_
 refine WC.block ?_
 refine WC.loop (fun m env ds H' nx' => ∃ (k x : Nat), m = 4 - k ∧ SubE [(1, .int .i64 (k : Int)), (2, .int .u64 (x : Int))] env ∧ ds = [] ∧ k ≤ 4 ∧ x = 256 ^ (4 - k) - 1 ∧ H = H' ∧ nx = nx') (fun m env ds H' nx' hI => ?_) (m := 4) (⟨0, 4294967295, by omega, (by repeat (first | exact SubE.nil _ | refine SubE.cons rfl ?_)), rfl, by omega, rfl, rfl, rfl⟩)
 obtain ⟨k, x, rfl, hsub, rfl, hk, hx, rfl, rfl⟩ := hI
 refine WC.weak (env' := [(1, .int .i64 (k : Int)), (2, .int .u64 (x : Int))]) ?_ hsub (fun _ _ h => h)
 refine WC.seq ?_
 refine WC.seqR (xs := [om 6 (.t 2),
   oq 7 (.p (.bin .gtr .other true (.t 6) (.v (.int .u64 0))))]) (by kernel_rfl) ?_
 refine WS.mv rfl rfl ?_
 refine WS.c (One.bin rfl rfl bin_gtr rfl ?_)
 refine WS.nil ?_
 refine WC.cond rfl (fun hc1 => ?_) (fun hc1 => ?_)
 ·refine WC.skip ?_
  refine WC.seq ?_
  refine WC.block ?_
  refine WC.region (xs := [om 10 (.t 1),
    oq 11 (.p (.bin .add .other true (.t 10) (.v (.int .i64 1)))),
    om 1 (.t 11)]) (by kernel_rfl) ?_
  refine WS.mv rfl rfl ?_
  refine WS.c (One.bin rfl rfl (bin_add64 (by omega) (by omega)) rfl ?_)
  refine WS.mv rfl rfl ?_
  refine WS.nil ?_
  refine WC.region (xs := [om 8 (.t 2),
    oq 9 (.p (.sh false (.t 8) (.v (.int .u64 8)))),
    om 2 (.t 9)]) (by kernel_rfl) ?_
  refine WS.mv rfl rfl ?_
  refine WS.c (One.sh rfl rfl (sh_r (m := 8) rfl (by decide)) rfl ?_)
  refine WS.mv rfl rfl ?_
  refine WS.nil ?_
  have hk1 : k < 4 := by
   rcases Nat.lt_or_ge k 4 with h | h
   ·exact h
   ·rw [show 4 - k = 0 by omega] at hx; simp at hx; omega
  refine ⟨_, ?_, k + 1, x / 2 ^ 8, rfl, (by repeat (first | exact SubE.nil _ | refine SubE.cons rfl ?_)), rfl, by omega, ?_, rfl, rfl⟩
  ·omega
  ·rw [hx, show 4 - k = (4 - (k + 1)) + 1 by omega]; exact wid_step
 ·refine WC.exit ?_
  refine WC.seqR (xs := [om 12 (.t 1),
    om 0 (.t 12)]) (by kernel_rfl) ?_
  refine WS.mv rfl rfl ?_
  refine WS.mv rfl rfl ?_
  refine WS.nil ?_
  refine WC.ret ?_
  have hk2 : 4 - k = 0 := wid_end (by omega)
  have hk3 : k = 4 := by omega
  subst hk3
  exact EndOk.now rfl rfl ⟨rfl, rfl, rfl⟩
theorem spec161 (hsm : sm 161 = none) (H : Hp) (nx : Nat) (p : Prop) [Decidable p] (e : Nat) : FnOk (envS sm) 161 [.bool (decide p), .int .i64 (e : Int)] H nx (fun _ H' nx' => p ∧ H = H' ∧ nx = nx') (fun v H' nx' => ¬ p ∧ v = .iface 31 (.int .i64 (e : Int)) ∧ H = H' ∧ nx = nx') := by
 refine FnOk.of (fn := Tryz.f161) hsm rfl rfl rfl ?_
 refine WC.seqR (xs := [om 4 (.t 0),
   oq 5 (.p (.not (.t 4)))]) (by kernel_rfl) ?_
 refine WS.mv rfl rfl ?_
 refine WS.c (One.not rfl rfl ?_)
 refine WS.nil ?_
 refine WC.cond rfl (fun hc1 => ?_) (fun hc1 => ?_)
 ·refine WC.region (xs := [om 6 (.t 1),
    oq 7 (.p (.mkI 31 (.t 6))),
    ⟨none, none, .pnc (.t 7)⟩]) (by kernel_rfl) ?_
  refine WS.mv rfl rfl ?_
  refine WS.c (One.mkI rfl rfl ?_)
  exact WS.z (One.pnc rfl (.inl ⟨rfl, hc1, rfl, rfl, rfl⟩))
 ·refine WC.skip ?_
  exact EndOk.now rfl rfl ⟨Decidable.of_not_not hc1, rfl, rfl⟩
theorem spec42 (hsm : sm 42 = none) (H : Hp) (nx : Nat) (hH : HB H nx) (a : Option Addr) (l : List UInt8) (c : Nat) (ha : BS H a l) (hl : l.length ≤ 536870912) (hne : l ≠ []) : FnOk (envS sm) 42 [.slice a l.length c] H nx (fun v H' nx' => ∃ r b, v = .pointer (some ⟨r, 0, none⟩) ∧ nx ≤ r ∧ WR H' r b l 0 ∧ nx ≤ b ∧ HSub H H' ∧ HB H' nx' ∧ nx ≤ nx') (fun _ _ _ => False) := by
 refine FnOk.of (fn := Tryz.f42) hsm rfl rfl rfl ?_
 refine WC.seqR (xs := [om 2 (.v (.pointer none))]) (by kernel_rfl) ?_
 refine WS.mv rfl rfl ?_
 refine WS.nil ?_
 refine WC.seqR (xs := [om 3 (.t 0),
   oq 4 (.w (.app 5 [(.int .u8 0)] false (.v (.slice none 0 0)) (.t 3))),
   oq 5 (.p (.bld [(0, 1, (.t 4))] [(.slice none 0 0), (.int .i64 0)])),
   oq 6 (.m (.box 178 (.t 5))),
   om 2 (.t 6)]) (by kernel_rfl) ?_
 refine WS.mv rfl rfl ?_
 refine WS.c (One.appCp rfl ha (by omega) hH rfl ?_)
 intro sv H2 n2 hg hS2 hB2 hn2
 rcases hg with ⟨_, h, _⟩ | ⟨b, rfl, _, hb, hb1, hb2⟩
 ·exact absurd (List.eq_nil_of_length_eq_zero h) hne
 refine WS.c (One.bld rfl rfl ?_)
 refine WS.c (One.box rfl rfl rfl ?_)
 refine WS.mv rfl rfl ?_
 refine WS.nil ?_
 refine WC.ret ?_
 exact EndOk.now rfl rfl ⟨n2, b, rfl, by omega, ⟨l, 0, by rw [upd_eq]; rfl, (upd_ne (by omega)).trans hb, by omega, by omega, List.drop_zero, hl⟩, hb1, HSub.new hH (by omega) hS2, hB2.new, by omega⟩
theorem spec93 (hsm : sm 93 = none) (hsm161 : sm 161 = none) (H : Hp) (nx r b e n : Nat) (rest : List UInt8) (hR : WR H r b rest e) (hH : HB H nx) (hn : n ≤ 1073741824) : FnOk (envS sm) 93 [.pointer (some ⟨r, 0, none⟩), .int .i64 (n : Int)] H nx (fun v H' nx' => n ≤ rest.length ∧ GS H' v n (strCells (rest.take n)) 5 1 nx nx' ∧ WR H' r b (rest.drop n) e ∧ HSub (del H r) H' ∧ HB H' nx' ∧ nx ≤ nx') (fun v H' nx' => rest.length < n ∧ v = .iface 31 (.int .i64 ((2 : Nat) : Int)) ∧ H = H' ∧ nx = nx') := by
 refine FnOk.of (fn := Tryz.f93) hsm rfl rfl rfl ?_
 have hrn := hR.lt hH
 obtain ⟨bs, p, hr, hb, hbr, hp, rfl, hbs⟩ := hR
 refine WC.seqR (xs := [om 4 (.v (.slice none 0 0))]) (by kernel_rfl) ?_
 refine WS.mv rfl rfl ?_
 refine WS.nil ?_
 refine WC.seqR (xs := [om 6 (.t 1),
   oq 7 (.p (.bin .geq .other true (.t 6) (.v (.int .i64 0)))),
   oq 8 (.call (.v (.func (.func 161) #[] #[])) [(.t 7), (.v (.int .i64 1))])]) (by kernel_rfl) ?_
 refine WS.mv rfl rfl ?_
 refine WS.c (One.bin rfl rfl bin_geq rfl ?_)
 refine WS.c (One.call rfl rfl (spec161 hsm161 _ _ _ 1) rfl ?_ (fun _ _ _ h => (h.1 (by omega)).elim))
 rintro _ _ _ ⟨_, rfl, rfl⟩
 refine WS.nil ?_
 refine WC.seqR (xs := [om 9 (.t 1),
   om 10 (.t 0),
   oq 11 (.p (.nilc (.t 10))),
   oq 12 (.p (.fad (.t 11) 0)),
   oq 13 (.l (.ld none (.t 12))),
   oq 14 (.p (.len (.t 13))),
   oq 15 (.p (.bin .leq .other false (.t 9) (.t 14))),
   oq 16 (.call (.v (.func (.func 161) #[] #[])) [(.t 15), (.v (.int .i64 2))])]) (by kernel_rfl) ?_
 refine WS.mv rfl rfl ?_
 refine WS.mv rfl rfl ?_
 refine WS.c (One.nilc rfl rfl ?_)
 refine WS.c (One.fad rfl rfl ?_)
 refine WS.c (One.ld rfl (ld_of hr rfl) rfl ?_)
 refine WS.c (One.len rfl rfl ?_)
 refine WS.c (One.bin rfl rfl bin_leq rfl ?_)
 refine WS.c (One.call rfl rfl (spec161 hsm161 _ _ _ 2) rfl ?_ (fun _ _ _ h => .inl ⟨rfl, by rw [List.length_drop]; have := h.1; omega, h.2⟩))
 rintro _ _ _ ⟨hle, rfl, rfl⟩
 refine WS.nil ?_
 refine WC.seqR (xs := [om 17 (.t 0),
   oq 18 (.p (.nilc (.t 17))),
   oq 19 (.p (.fad (.t 18) 0)),
   oq 20 (.l (.ld none (.t 19))),
   om 21 (.t 1),
   oq 22 (.p (.slS 1 (.t 20) none (some (.t 21)) none)),
   oq 23 (.w (.app 5 [(.int .u8 0)] false (.v (.slice none 0 0)) (.t 22))),
   om 5 (.t 23)]) (by kernel_rfl) ?_
 refine WS.mv rfl rfl ?_
 refine WS.c (One.nilc rfl rfl ?_)
 refine WS.c (One.fad rfl rfl ?_)
 refine WS.c (One.ld rfl (ld_of hr rfl) rfl ?_)
 refine WS.mv rfl rfl ?_
 refine WS.c (One.slU (l := 0) (h := n) rfl (by omega) (bnd_int rfl rfl (by omega)) (by omega) rfl (Nat.zero_le _) rfl ?_)
 rw [show n - 0 = (List.take n (List.drop p bs)).length from by rw [List.length_take, List.length_drop]; omega, show p + 0 * 1 = p from by omega]
 refine WS.c (One.appCp rfl ((bs_drop hb hp).take n) (by rw [List.length_take]; omega) hH rfl ?_)
 intro sv H2 n2 hg hS2 hB2 hn2
 rw [List.length_take, List.length_drop, Nat.min_eq_left (by omega)] at hg
 refine WS.mv rfl rfl ?_
 refine WS.nil ?_
 refine WC.seqR (xs := [om 24 (.t 0),
   om 25 (.t 0),
   oq 26 (.p (.nilc (.t 25))),
   oq 27 (.p (.fad (.t 26) 0)),
   oq 28 (.l (.ld none (.t 27))),
   om 29 (.t 1),
   oq 30 (.p (.slS 1 (.t 28) (some (.t 29)) none none)),
   oq 31 (.p (.nilc (.t 24))),
   oq 32 (.p (.fad (.t 31) 0)),
   ⟨none, none, .w (.sto 1 (.t 32) (.t 30))⟩]) (by kernel_rfl) ?_
 refine WS.mv rfl rfl ?_
 refine WS.mv rfl rfl ?_
 refine WS.c (One.nilc rfl rfl ?_)
 refine WS.c (One.fad rfl rfl ?_)
 refine WS.c (One.ld rfl (ld_of (hS2 _ _ hr) rfl) rfl ?_)
 refine WS.mv rfl rfl ?_
 refine WS.c (One.slU (l := n) (h := bs.length - p) rfl (by omega) rfl (Nat.le_refl _) (bnd_int rfl rfl (by omega)) (by omega) rfl ?_)
 refine WS.c (One.nilc rfl rfl ?_)
 refine WS.c (One.fad rfl rfl ?_)
 refine WS.z (One.sto (cs' := [.slice (some ⟨b, p + n * 1, none⟩) (bs.length - p - n) (big + 1 * qq + (bs.length - p - n)), .int .i64 (e : Int)]) rfl rfl (hS2 _ _ hr) rfl rfl rfl rfl ?_)
 refine WS.nil ?_
 refine WC.seqR (xs := [om 33 (.t 5),
   om 4 (.t 33)]) (by kernel_rfl) ?_
 refine WS.mv rfl rfl ?_
 refine WS.mv rfl rfl ?_
 refine WS.nil ?_
 refine WC.ret ?_
 exact EndOk.now rfl rfl ⟨by rw [List.length_drop]; omega, hg.updLo (.inl hrn) (Nat.le_refl _), ⟨bs, p + n, by rw [upd_eq, Nat.mul_one, show bs.length - p - n = bs.length - (p + n) by omega], (upd_ne hbr).trans (hS2 _ _ hb), hbr, by omega, (List.drop_drop).symm, hbs⟩, HSub.delU (hS2.delM r), hB2.upd (by omega), hn2⟩
theorem spec163 (hsm : sm 163 = none) (H : Hp) (nx ba bo bx : Nat) : FnOk (envS sm) 163 [.pointer (some ⟨ba, 0, none⟩), .pointer (some ⟨bo, 0, none⟩), .pointer (some ⟨bx, 0, none⟩)] H nx (fun _ H' nx' => H = H' ∧ nx = nx') (fun _ _ _ => False) := by
 refine FnOk.of (fn := Tryz.f163) hsm rfl rfl rfl ?_
 refine WC.seqR (xs := [oq 7 (.rcv),
   om 3 (.t 7)]) (by kernel_rfl) ?_
 refine WS.c (One.rcv rfl ?_)
 refine WS.mv rfl rfl ?_
 refine WS.nil ?_
 refine WC.seqR (xs := [om 9 (.t 3),
   oq 10 (.p (.ta 31 (.int .i64 0) (.t 9))),
   om 8 (.t 10),
   oq 11 (.p (.ext (.t 8) 0)),
   oq 12 (.p (.ext (.t 8) 1)),
   om 4 (.t 11),
   om 5 (.t 12)]) (by kernel_rfl) ?_
 refine WS.mv rfl rfl ?_
 refine WS.c (One.taN rfl rfl ?_)
 refine WS.mv rfl rfl ?_
 refine WS.c (One.ext rfl rfl rfl ?_)
 refine WS.c (One.ext rfl rfl rfl ?_)
 refine WS.mv rfl rfl ?_
 refine WS.mv rfl rfl ?_
 refine WS.nil ?_
 refine WC.seqR (xs := [om 13 (.t 5)]) (by kernel_rfl) ?_
 refine WS.mv rfl rfl ?_
 refine WS.nil ?_
 refine WC.condB rfl (fun h => nomatch h) (fun _ => ?_)
 refine WC.seqR (xs := [om 23 (.t 3),
   oq 24 (.p (.bin .neq .iface true (.t 23) (.v .nilIface)))]) (by kernel_rfl) ?_
 refine WS.mv rfl rfl ?_
 refine WS.c (One.bin rfl rfl rfl rfl ?_)
 refine WS.nil ?_
 refine WC.condB rfl (fun h => nomatch h) (fun _ => ?_)
 refine WC.skip ?_
 exact EndOk.now rfl rfl ⟨rfl, rfl⟩
theorem arm163  (H : Hp) (nx ba bo bx r b p m c e : Nat) (ov ev : Value) (ha : H ba = some (.cells [.slice (some ⟨b, p, none⟩) m c] 22 0)) (ho : H bo = some (.cells [ov] 5 0)) (hx : H bx = some (.cells [.pointer (some ⟨r, 0, none⟩)] 108 0)) (hr : ∃ sv, H r = some (.cells [sv, ev] 178 0)) (h1 : bo ≠ ba) (h2 : bo ≠ bx) (h3 : bo ≠ r) : Arm (envS sm) 163 [.pointer (some ⟨ba, 0, none⟩), .pointer (some ⟨bo, 0, none⟩), .pointer (some ⟨bx, 0, none⟩)] (.iface 31 (.int .i64 (e : Int))) H nx (fun H' nx' => H' = upd (upd (upd H bo (.cells [.int .u8 0] 5 0)) r (.cells [.slice (some ⟨b, p, none⟩) m c, ev] 178 0)) r (.cells [.slice (some ⟨b, p, none⟩) m c, .int .i64 (e : Int)] 178 0) ∧ nx = nx') := by
 refine Arm.of (fg := Tryz.f163) (d := (some (7, 7))) (xs := [om 3 (.t 7)]) rfl rfl rfl (by kernel_rfl) rfl ?_
 obtain ⟨sv, hr⟩ := hr
 refine WS.mv rfl rfl ?_
 refine WS.nil ?_
 refine WC.seqR (xs := [om 9 (.t 3),
   oq 10 (.p (.ta 31 (.int .i64 0) (.t 9))),
   om 8 (.t 10),
   oq 11 (.p (.ext (.t 8) 0)),
   oq 12 (.p (.ext (.t 8) 1)),
   om 4 (.t 11),
   om 5 (.t 12)]) (by kernel_rfl) ?_
 refine WS.mv rfl rfl ?_
 refine WS.c (One.taT rfl rfl ?_)
 refine WS.mv rfl rfl ?_
 refine WS.c (One.ext rfl rfl rfl ?_)
 refine WS.c (One.ext rfl rfl rfl ?_)
 refine WS.mv rfl rfl ?_
 refine WS.mv rfl rfl ?_
 refine WS.nil ?_
 refine WC.seqR (xs := [om 13 (.t 5)]) (by kernel_rfl) ?_
 refine WS.mv rfl rfl ?_
 refine WS.nil ?_
 refine WC.condB rfl (fun _ => ?_) (fun h => nomatch h)
 refine WC.seqR (xs := [om 6 (.v (.int .u8 0))]) (by kernel_rfl) ?_
 refine WS.mv rfl rfl ?_
 refine WS.nil ?_
 refine WC.region (xs := [oq 14 (.l (.ld none (.t 2))),
   oq 15 (.l (.ld none (.t 2))),
   om 16 (.t 6),
   oq 17 (.l (.ld none (.t 0))),
   om 18 (.t 4),
   ⟨none, none, .w (.sto 1 (.t 1) (.t 16))⟩,
   oq 19 (.p (.nilc (.t 14))),
   oq 20 (.p (.fad (.t 19) 0)),
   ⟨none, none, .w (.sto 1 (.t 20) (.t 17))⟩,
   oq 21 (.p (.nilc (.t 15))),
   oq 22 (.p (.fad (.t 21) 1)),
   ⟨none, none, .w (.sto 1 (.t 22) (.t 18))⟩]) (by kernel_rfl) ?_
 refine WS.c (One.ld rfl (ld_of hx rfl) rfl ?_)
 refine WS.c (One.ld rfl (ld_of hx rfl) rfl ?_)
 refine WS.mv rfl rfl ?_
 refine WS.c (One.ld rfl (ld_of ha rfl) rfl ?_)
 refine WS.mv rfl rfl ?_
 refine WS.z (One.sto (cs' := [.int .u8 0]) rfl rfl ho rfl rfl rfl rfl ?_)
 refine WS.c (One.nilc rfl rfl ?_)
 refine WS.c (One.fad rfl rfl ?_)
 refine WS.z (One.sto (cs' := [.slice (some ⟨b, p, none⟩) m c, ev]) rfl rfl ((upd_ne (Ne.symm h3)).trans hr) rfl rfl rfl rfl ?_)
 refine WS.c (One.nilc rfl rfl ?_)
 refine WS.c (One.fad rfl rfl ?_)
 refine WS.z (One.sto (cs' := [.slice (some ⟨b, p, none⟩) m c, .int .i64 (e : Int)]) rfl rfl upd_eq rfl rfl rfl rfl ?_)
 refine WS.nil ?_
 exact ⟨rfl, ⟨_, rfl⟩, rfl, rfl⟩
theorem spec318 (hsm : sm 318 = none) (H : Hp) (nx ba bo bx : Nat) : FnOk (envS sm) 318 [.pointer (some ⟨ba, 0, none⟩), .pointer (some ⟨bo, 0, none⟩), .pointer (some ⟨bx, 0, none⟩)] H nx (fun _ H' nx' => H = H' ∧ nx = nx') (fun _ _ _ => False) := by
 refine FnOk.of (fn := Tryz.f318) hsm rfl rfl rfl ?_
 refine WC.seqR (xs := [oq 7 (.rcv),
   om 3 (.t 7)]) (by kernel_rfl) ?_
 refine WS.c (One.rcv rfl ?_)
 refine WS.mv rfl rfl ?_
 refine WS.nil ?_
 refine WC.seqR (xs := [om 9 (.t 3),
   oq 10 (.p (.ta 31 (.int .i64 0) (.t 9))),
   om 8 (.t 10),
   oq 11 (.p (.ext (.t 8) 0)),
   oq 12 (.p (.ext (.t 8) 1)),
   om 4 (.t 11),
   om 5 (.t 12)]) (by kernel_rfl) ?_
 refine WS.mv rfl rfl ?_
 refine WS.c (One.taN rfl rfl ?_)
 refine WS.mv rfl rfl ?_
 refine WS.c (One.ext rfl rfl rfl ?_)
 refine WS.c (One.ext rfl rfl rfl ?_)
 refine WS.mv rfl rfl ?_
 refine WS.mv rfl rfl ?_
 refine WS.nil ?_
 refine WC.seqR (xs := [om 13 (.t 5)]) (by kernel_rfl) ?_
 refine WS.mv rfl rfl ?_
 refine WS.nil ?_
 refine WC.condB rfl (fun h => nomatch h) (fun _ => ?_)
 refine WC.seqR (xs := [om 23 (.t 3),
   oq 24 (.p (.bin .neq .iface true (.t 23) (.v .nilIface)))]) (by kernel_rfl) ?_
 refine WS.mv rfl rfl ?_
 refine WS.c (One.bin rfl rfl rfl rfl ?_)
 refine WS.nil ?_
 refine WC.condB rfl (fun h => nomatch h) (fun _ => ?_)
 refine WC.skip ?_
 exact EndOk.now rfl rfl ⟨rfl, rfl⟩
theorem arm318  (H : Hp) (nx ba bo bx r b p m c e : Nat) (ov ev : Value) (ha : H ba = some (.cells [.slice (some ⟨b, p, none⟩) m c] 22 0)) (ho : H bo = some (.cells [ov] 233 0)) (hx : H bx = some (.cells [.pointer (some ⟨r, 0, none⟩)] 108 0)) (hr : ∃ sv, H r = some (.cells [sv, ev] 178 0)) (h1 : bo ≠ ba) (h2 : bo ≠ bx) (h3 : bo ≠ r) : Arm (envS sm) 318 [.pointer (some ⟨ba, 0, none⟩), .pointer (some ⟨bo, 0, none⟩), .pointer (some ⟨bx, 0, none⟩)] (.iface 31 (.int .i64 (e : Int))) H nx (fun H' nx' => H' = upd (upd (upd H bo (.cells [.int .u16 0] 233 0)) r (.cells [.slice (some ⟨b, p, none⟩) m c, ev] 178 0)) r (.cells [.slice (some ⟨b, p, none⟩) m c, .int .i64 (e : Int)] 178 0) ∧ nx = nx') := by
 refine Arm.of (fg := Tryz.f318) (d := (some (7, 7))) (xs := [om 3 (.t 7)]) rfl rfl rfl (by kernel_rfl) rfl ?_
 obtain ⟨sv, hr⟩ := hr
 refine WS.mv rfl rfl ?_
 refine WS.nil ?_
 refine WC.seqR (xs := [om 9 (.t 3),
   oq 10 (.p (.ta 31 (.int .i64 0) (.t 9))),
   om 8 (.t 10),
   oq 11 (.p (.ext (.t 8) 0)),
   oq 12 (.p (.ext (.t 8) 1)),
   om 4 (.t 11),
   om 5 (.t 12)]) (by kernel_rfl) ?_
 refine WS.mv rfl rfl ?_
 refine WS.c (One.taT rfl rfl ?_)
 refine WS.mv rfl rfl ?_
 refine WS.c (One.ext rfl rfl rfl ?_)
 refine WS.c (One.ext rfl rfl rfl ?_)
 refine WS.mv rfl rfl ?_
 refine WS.mv rfl rfl ?_
 refine WS.nil ?_
 refine WC.seqR (xs := [om 13 (.t 5)]) (by kernel_rfl) ?_
 refine WS.mv rfl rfl ?_
 refine WS.nil ?_
 refine WC.condB rfl (fun _ => ?_) (fun h => nomatch h)
 refine WC.seqR (xs := [om 6 (.v (.int .u16 0))]) (by kernel_rfl) ?_
 refine WS.mv rfl rfl ?_
 refine WS.nil ?_
 refine WC.region (xs := [oq 14 (.l (.ld none (.t 2))),
   oq 15 (.l (.ld none (.t 2))),
   om 16 (.t 6),
   oq 17 (.l (.ld none (.t 0))),
   om 18 (.t 4),
   ⟨none, none, .w (.sto 1 (.t 1) (.t 16))⟩,
   oq 19 (.p (.nilc (.t 14))),
   oq 20 (.p (.fad (.t 19) 0)),
   ⟨none, none, .w (.sto 1 (.t 20) (.t 17))⟩,
   oq 21 (.p (.nilc (.t 15))),
   oq 22 (.p (.fad (.t 21) 1)),
   ⟨none, none, .w (.sto 1 (.t 22) (.t 18))⟩]) (by kernel_rfl) ?_
 refine WS.c (One.ld rfl (ld_of hx rfl) rfl ?_)
 refine WS.c (One.ld rfl (ld_of hx rfl) rfl ?_)
 refine WS.mv rfl rfl ?_
 refine WS.c (One.ld rfl (ld_of ha rfl) rfl ?_)
 refine WS.mv rfl rfl ?_
 refine WS.z (One.sto (cs' := [.int .u16 0]) rfl rfl ho rfl rfl rfl rfl ?_)
 refine WS.c (One.nilc rfl rfl ?_)
 refine WS.c (One.fad rfl rfl ?_)
 refine WS.z (One.sto (cs' := [.slice (some ⟨b, p, none⟩) m c, ev]) rfl rfl ((upd_ne (Ne.symm h3)).trans hr) rfl rfl rfl rfl ?_)
 refine WS.c (One.nilc rfl rfl ?_)
 refine WS.c (One.fad rfl rfl ?_)
 refine WS.z (One.sto (cs' := [.slice (some ⟨b, p, none⟩) m c, .int .i64 (e : Int)]) rfl rfl upd_eq rfl rfl rfl rfl ?_)
 refine WS.nil ?_
 exact ⟨rfl, ⟨_, rfl⟩, rfl, rfl⟩
theorem spec160 (hsm : sm 160 = none) (H : Hp) (nx ba bo bx : Nat) : FnOk (envS sm) 160 [.pointer (some ⟨ba, 0, none⟩), .pointer (some ⟨bo, 0, none⟩), .pointer (some ⟨bx, 0, none⟩)] H nx (fun _ H' nx' => H = H' ∧ nx = nx') (fun _ _ _ => False) := by
 refine FnOk.of (fn := Tryz.f160) hsm rfl rfl rfl ?_
 refine WC.seqR (xs := [oq 7 (.rcv),
   om 3 (.t 7)]) (by kernel_rfl) ?_
 refine WS.c (One.rcv rfl ?_)
 refine WS.mv rfl rfl ?_
 refine WS.nil ?_
 refine WC.seqR (xs := [om 9 (.t 3),
   oq 10 (.p (.ta 31 (.int .i64 0) (.t 9))),
   om 8 (.t 10),
   oq 11 (.p (.ext (.t 8) 0)),
   oq 12 (.p (.ext (.t 8) 1)),
   om 4 (.t 11),
   om 5 (.t 12)]) (by kernel_rfl) ?_
 refine WS.mv rfl rfl ?_
 refine WS.c (One.taN rfl rfl ?_)
 refine WS.mv rfl rfl ?_
 refine WS.c (One.ext rfl rfl rfl ?_)
 refine WS.c (One.ext rfl rfl rfl ?_)
 refine WS.mv rfl rfl ?_
 refine WS.mv rfl rfl ?_
 refine WS.nil ?_
 refine WC.seqR (xs := [om 13 (.t 5)]) (by kernel_rfl) ?_
 refine WS.mv rfl rfl ?_
 refine WS.nil ?_
 refine WC.condB rfl (fun h => nomatch h) (fun _ => ?_)
 refine WC.seqR (xs := [om 23 (.t 3),
   oq 24 (.p (.bin .neq .iface true (.t 23) (.v .nilIface)))]) (by kernel_rfl) ?_
 refine WS.mv rfl rfl ?_
 refine WS.c (One.bin rfl rfl rfl rfl ?_)
 refine WS.nil ?_
 refine WC.condB rfl (fun h => nomatch h) (fun _ => ?_)
 refine WC.skip ?_
 exact EndOk.now rfl rfl ⟨rfl, rfl⟩
theorem arm160  (H : Hp) (nx ba bo bx r b p m c e : Nat) (ov ev : Value) (ha : H ba = some (.cells [.slice (some ⟨b, p, none⟩) m c] 22 0)) (ho : H bo = some (.cells [ov] 26 0)) (hx : H bx = some (.cells [.pointer (some ⟨r, 0, none⟩)] 108 0)) (hr : ∃ sv, H r = some (.cells [sv, ev] 178 0)) (h1 : bo ≠ ba) (h2 : bo ≠ bx) (h3 : bo ≠ r) : Arm (envS sm) 160 [.pointer (some ⟨ba, 0, none⟩), .pointer (some ⟨bo, 0, none⟩), .pointer (some ⟨bx, 0, none⟩)] (.iface 31 (.int .i64 (e : Int))) H nx (fun H' nx' => H' = upd (upd (upd H bo (.cells [.int .u32 0] 26 0)) r (.cells [.slice (some ⟨b, p, none⟩) m c, ev] 178 0)) r (.cells [.slice (some ⟨b, p, none⟩) m c, .int .i64 (e : Int)] 178 0) ∧ nx = nx') := by
 refine Arm.of (fg := Tryz.f160) (d := (some (7, 7))) (xs := [om 3 (.t 7)]) rfl rfl rfl (by kernel_rfl) rfl ?_
 obtain ⟨sv, hr⟩ := hr
 refine WS.mv rfl rfl ?_
 refine WS.nil ?_
 refine WC.seqR (xs := [om 9 (.t 3),
   oq 10 (.p (.ta 31 (.int .i64 0) (.t 9))),
   om 8 (.t 10),
   oq 11 (.p (.ext (.t 8) 0)),
   oq 12 (.p (.ext (.t 8) 1)),
   om 4 (.t 11),
   om 5 (.t 12)]) (by kernel_rfl) ?_
 refine WS.mv rfl rfl ?_
 refine WS.c (One.taT rfl rfl ?_)
 refine WS.mv rfl rfl ?_
 refine WS.c (One.ext rfl rfl rfl ?_)
 refine WS.c (One.ext rfl rfl rfl ?_)
 refine WS.mv rfl rfl ?_
 refine WS.mv rfl rfl ?_
 refine WS.nil ?_
 refine WC.seqR (xs := [om 13 (.t 5)]) (by kernel_rfl) ?_
 refine WS.mv rfl rfl ?_
 refine WS.nil ?_
 refine WC.condB rfl (fun _ => ?_) (fun h => nomatch h)
 refine WC.seqR (xs := [om 6 (.v (.int .u32 0))]) (by kernel_rfl) ?_
 refine WS.mv rfl rfl ?_
 refine WS.nil ?_
 refine WC.region (xs := [oq 14 (.l (.ld none (.t 2))),
   oq 15 (.l (.ld none (.t 2))),
   om 16 (.t 6),
   oq 17 (.l (.ld none (.t 0))),
   om 18 (.t 4),
   ⟨none, none, .w (.sto 1 (.t 1) (.t 16))⟩,
   oq 19 (.p (.nilc (.t 14))),
   oq 20 (.p (.fad (.t 19) 0)),
   ⟨none, none, .w (.sto 1 (.t 20) (.t 17))⟩,
   oq 21 (.p (.nilc (.t 15))),
   oq 22 (.p (.fad (.t 21) 1)),
   ⟨none, none, .w (.sto 1 (.t 22) (.t 18))⟩]) (by kernel_rfl) ?_
 refine WS.c (One.ld rfl (ld_of hx rfl) rfl ?_)
 refine WS.c (One.ld rfl (ld_of hx rfl) rfl ?_)
 refine WS.mv rfl rfl ?_
 refine WS.c (One.ld rfl (ld_of ha rfl) rfl ?_)
 refine WS.mv rfl rfl ?_
 refine WS.z (One.sto (cs' := [.int .u32 0]) rfl rfl ho rfl rfl rfl rfl ?_)
 refine WS.c (One.nilc rfl rfl ?_)
 refine WS.c (One.fad rfl rfl ?_)
 refine WS.z (One.sto (cs' := [.slice (some ⟨b, p, none⟩) m c, ev]) rfl rfl ((upd_ne (Ne.symm h3)).trans hr) rfl rfl rfl rfl ?_)
 refine WS.c (One.nilc rfl rfl ?_)
 refine WS.c (One.fad rfl rfl ?_)
 refine WS.z (One.sto (cs' := [.slice (some ⟨b, p, none⟩) m c, .int .i64 (e : Int)]) rfl rfl upd_eq rfl rfl rfl rfl ?_)
 refine WS.nil ?_
 exact ⟨rfl, ⟨_, rfl⟩, rfl, rfl⟩
theorem spec236 (hsm : sm 236 = none) (H : Hp) (nx ba bo bx : Nat) : FnOk (envS sm) 236 [.pointer (some ⟨ba, 0, none⟩), .pointer (some ⟨bo, 0, none⟩), .pointer (some ⟨bx, 0, none⟩)] H nx (fun _ H' nx' => H = H' ∧ nx = nx') (fun _ _ _ => False) := by
 refine FnOk.of (fn := Tryz.f236) hsm rfl rfl rfl ?_
 refine WC.seqR (xs := [oq 7 (.rcv),
   om 3 (.t 7)]) (by kernel_rfl) ?_
 refine WS.c (One.rcv rfl ?_)
 refine WS.mv rfl rfl ?_
 refine WS.nil ?_
 refine WC.seqR (xs := [om 9 (.t 3),
   oq 10 (.p (.ta 31 (.int .i64 0) (.t 9))),
   om 8 (.t 10),
   oq 11 (.p (.ext (.t 8) 0)),
   oq 12 (.p (.ext (.t 8) 1)),
   om 4 (.t 11),
   om 5 (.t 12)]) (by kernel_rfl) ?_
 refine WS.mv rfl rfl ?_
 refine WS.c (One.taN rfl rfl ?_)
 refine WS.mv rfl rfl ?_
 refine WS.c (One.ext rfl rfl rfl ?_)
 refine WS.c (One.ext rfl rfl rfl ?_)
 refine WS.mv rfl rfl ?_
 refine WS.mv rfl rfl ?_
 refine WS.nil ?_
 refine WC.seqR (xs := [om 13 (.t 5)]) (by kernel_rfl) ?_
 refine WS.mv rfl rfl ?_
 refine WS.nil ?_
 refine WC.condB rfl (fun h => nomatch h) (fun _ => ?_)
 refine WC.seqR (xs := [om 23 (.t 3),
   oq 24 (.p (.bin .neq .iface true (.t 23) (.v .nilIface)))]) (by kernel_rfl) ?_
 refine WS.mv rfl rfl ?_
 refine WS.c (One.bin rfl rfl rfl rfl ?_)
 refine WS.nil ?_
 refine WC.condB rfl (fun h => nomatch h) (fun _ => ?_)
 refine WC.skip ?_
 exact EndOk.now rfl rfl ⟨rfl, rfl⟩
theorem arm236  (H : Hp) (nx ba bo bx r b p m c e : Nat) (ov ev : Value) (ha : H ba = some (.cells [.slice (some ⟨b, p, none⟩) m c] 22 0)) (ho : H bo = some (.cells [ov] 22 0)) (hx : H bx = some (.cells [.pointer (some ⟨r, 0, none⟩)] 108 0)) (hr : ∃ sv, H r = some (.cells [sv, ev] 178 0)) (h1 : bo ≠ ba) (h2 : bo ≠ bx) (h3 : bo ≠ r) : Arm (envS sm) 236 [.pointer (some ⟨ba, 0, none⟩), .pointer (some ⟨bo, 0, none⟩), .pointer (some ⟨bx, 0, none⟩)] (.iface 31 (.int .i64 (e : Int))) H nx (fun H' nx' => H' = upd (upd (upd H bo (.cells [.slice none 0 0] 22 0)) r (.cells [.slice (some ⟨b, p, none⟩) m c, ev] 178 0)) r (.cells [.slice (some ⟨b, p, none⟩) m c, .int .i64 (e : Int)] 178 0) ∧ nx = nx') := by
 refine Arm.of (fg := Tryz.f236) (d := (some (7, 7))) (xs := [om 3 (.t 7)]) rfl rfl rfl (by kernel_rfl) rfl ?_
 obtain ⟨sv, hr⟩ := hr
 refine WS.mv rfl rfl ?_
 refine WS.nil ?_
 refine WC.seqR (xs := [om 9 (.t 3),
   oq 10 (.p (.ta 31 (.int .i64 0) (.t 9))),
   om 8 (.t 10),
   oq 11 (.p (.ext (.t 8) 0)),
   oq 12 (.p (.ext (.t 8) 1)),
   om 4 (.t 11),
   om 5 (.t 12)]) (by kernel_rfl) ?_
 refine WS.mv rfl rfl ?_
 refine WS.c (One.taT rfl rfl ?_)
 refine WS.mv rfl rfl ?_
 refine WS.c (One.ext rfl rfl rfl ?_)
 refine WS.c (One.ext rfl rfl rfl ?_)
 refine WS.mv rfl rfl ?_
 refine WS.mv rfl rfl ?_
 refine WS.nil ?_
 refine WC.seqR (xs := [om 13 (.t 5)]) (by kernel_rfl) ?_
 refine WS.mv rfl rfl ?_
 refine WS.nil ?_
 refine WC.condB rfl (fun _ => ?_) (fun h => nomatch h)
 refine WC.seqR (xs := [om 6 (.v (.slice none 0 0))]) (by kernel_rfl) ?_
 refine WS.mv rfl rfl ?_
 refine WS.nil ?_
 refine WC.region (xs := [oq 14 (.l (.ld none (.t 2))),
   oq 15 (.l (.ld none (.t 2))),
   om 16 (.t 6),
   oq 17 (.l (.ld none (.t 0))),
   om 18 (.t 4),
   ⟨none, none, .w (.sto 1 (.t 1) (.t 16))⟩,
   oq 19 (.p (.nilc (.t 14))),
   oq 20 (.p (.fad (.t 19) 0)),
   ⟨none, none, .w (.sto 1 (.t 20) (.t 17))⟩,
   oq 21 (.p (.nilc (.t 15))),
   oq 22 (.p (.fad (.t 21) 1)),
   ⟨none, none, .w (.sto 1 (.t 22) (.t 18))⟩]) (by kernel_rfl) ?_
 refine WS.c (One.ld rfl (ld_of hx rfl) rfl ?_)
 refine WS.c (One.ld rfl (ld_of hx rfl) rfl ?_)
 refine WS.mv rfl rfl ?_
 refine WS.c (One.ld rfl (ld_of ha rfl) rfl ?_)
 refine WS.mv rfl rfl ?_
 refine WS.z (One.sto (cs' := [.slice none 0 0]) rfl rfl ho rfl rfl rfl rfl ?_)
 refine WS.c (One.nilc rfl rfl ?_)
 refine WS.c (One.fad rfl rfl ?_)
 refine WS.z (One.sto (cs' := [.slice (some ⟨b, p, none⟩) m c, ev]) rfl rfl ((upd_ne (Ne.symm h3)).trans hr) rfl rfl rfl rfl ?_)
 refine WS.c (One.nilc rfl rfl ?_)
 refine WS.c (One.fad rfl rfl ?_)
 refine WS.z (One.sto (cs' := [.slice (some ⟨b, p, none⟩) m c, .int .i64 (e : Int)]) rfl rfl upd_eq rfl rfl rfl rfl ?_)
 refine WS.nil ?_
 exact ⟨rfl, ⟨_, rfl⟩, rfl, rfl⟩
end Go.Proofs
end
