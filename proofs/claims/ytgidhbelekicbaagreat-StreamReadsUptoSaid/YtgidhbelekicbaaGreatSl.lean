/-
  Part of the proof of StreamReadsUptoSaid: said.
-/
import Derived.Test.YtgidhbelekicbaaGreatSk
set_option linter.unusedVariables false
namespace Go.Proofs
open Go.Eng
variable {sm : Nat → Option (List Value → St → Option (Value × St))}
theorem lay_all {cs vs : List Value} (h : vs.length = cs.length) : layL cs 0 vs = some vs := by
 rw [layL_eq, if_pos (by omega), Nat.zero_add, List.take_zero, List.nil_append, h, List.drop_length, List.append_nil]
theorem lay_set {cs : List Value} {i : Nat} {v : Value} (h : i < cs.length) : layL cs i [v] = some (cs.set i v) := by
 rw [layL_eq, if_pos (by simp; omega), List.set_eq_take_append_cons_drop, if_pos h]
 rfl
theorem hd_shape (l : List UInt8) : ∃ (b : Bool) (x1 x2 x3 x4 x5 x6 x7 : Int), hdOf l = [.bool b, .int .i64 x1, .int .i64 x2, .int .u32 x3, .int .i64 x4, .int .i64 x5, .int .u32 x6, .int .i64 x7] := by
 unfold hdOf
 cases hp : parse l with
 | error f => exact ⟨_, _, _, _, _, _, _, _, rfl⟩
 | ok q =>
  obtain ⟨hd, cl⟩ := q
  unfold parse at hp
  split at hp; · cases hp
  split at hp; · cases hp
  split at hp; · cases hp
  split at hp
  ·cases hp
  ·split at hp
   ·injection hp with hp
    injection hp with h1 h2
    subst h1
    exact ⟨_, _, _, _, _, _, _, _, rfl⟩
   ·cases hp
theorem hdo_len (l : List UInt8) : (hdOf l).length = 8 := by
 obtain ⟨b, x1, x2, x3, x4, x5, x6, x7, h⟩ := hd_shape l
 rw [h]; rfl
theorem hdo_one (l : List UInt8) : (hdOf l).all oneCellB = true := by
 obtain ⟨b, x1, x2, x3, x4, x5, x6, x7, h⟩ := hd_shape l
 rw [h]; rfl
theorem hd_same (l : List UInt8) {con : Bool} : rBinV .neq (.flat (.b :: (markK ++ (markK ++ [.i .i64])))) con (.agg ⟨hdOf l⟩) (.agg ⟨hdOf l⟩) = some (.bool false) := by
 obtain ⟨b, x1, x2, x3, x4, x5, x6, x7, h⟩ := hd_shape l
 rw [h]
 show some (Value.bool (not (and (bif b then b else not b) (and (eqF x1 x1) (and (eqF x2 x2) (and (eqF x3 x3) (and (eqF x4 x4) (and (eqF x5 x5) (and (eqF x6 x6) (and (eqF x7 x7) true)))))))))) = _
 simp only [eqF_eq, decide_true, Bool.and_true]
 cases b <;> rfl
theorem chs_len {w : Prop} [Decidable w] : ∀ {n : Nat} {s t : RS} {last : List UInt8} {cl : List Chg}, chs w n s last = some (cl, t) → cl.length ≤ s.1.length
 | 0, _, _, _, _, h => by
  injection h with h; injection h with h1 h2; subst h1
  exact Nat.zero_le _
 | n + 1, s, t, last, cl, h => by
  unfold chs at h
  split at h
  ·rename_i hok
   cases hq : chs w n (neS false s) (keV s) with
   | none => rw [hq] at h; cases h
   | some q =>
    rw [hq] at h
    injection h with h
    injection h with h1 h2
    subst h1
    have ih := chs_len (cl := q.1) (t := q.2) hq
    have := neS_lt hok.1
    simp only [List.length_cons]
    omega
  ·cases h
theorem ch_len (l : List UInt8) : (chOf l).length ≤ 16777216 := by
 unfold chOf
 cases hp : parse l with
 | error f => exact Nat.zero_le _
 | ok q =>
  unfold parse at hp
  split at hp; · cases hp
  rename_i hl
  split at hp; · cases hp
  split at hp; · cases hp
  split at hp
  ·cases hp
  ·rename_i cl t hr
   split at hp
   ·injection hp with hp
    subst hp
    unfold rest at hr
    split at hr
    ·have h1 := chs_len hr
     have h2 : (boS (l.take (l.length - 4), 0)).1.length ≤ (l.take (l.length - 4)).length := boS_le (l.take (l.length - 4), 0)
     have h3 : (l.take (l.length - 4)).length ≤ l.length := by rw [List.length_take]; omega
     show cl.length ≤ _
     omega
    ·cases hr
   ·cases hp
theorem LsC.low {A B : Hp} {lo hi r : Nat} {v : Value} {cl : List Chg} (h : LsC A lo hi v cl) (hs : HSub (del A r) B) (hr : r < lo) : LsC B lo hi v cl := by
 obtain ⟨c, h1, h2⟩ := h
 exact ⟨c, h1.low hs hr (Nat.le_refl _), h2.fr (fun i o hi ho => hs i o (by rw [del_ne (by omega)]; exact ho))⟩
theorem LsP.low {A B : Hp} {lo hi r : Nat} {v : Value} {cl : List Chg} (h : LsP A lo hi v cl) (hs : HSub (del A r) B) (hr : r < lo) : LsP B lo hi v cl := by
 obtain ⟨c, h1, h2⟩ := h
 exact ⟨c, h1.low hs hr (Nat.le_refl _), h2.fr (fun i o hi ho => hs i o (by rw [del_ne (by omega)]; exact ho)) (Nat.le_refl _)⟩
theorem OwnB.at {H : Hp} {lo hi : Nat} {cells : List Value} {ns : List Nat} (h : OwnB H lo hi cells ns) {i : Nat} (hi' : i < ns.length) : ∃ a n c, cells[i]? = some (Value.slice a n c) := by
 have hlt : i < cells.length := by rw [h.len]; exact hi'
 have h1 : cells[i]? = some cells[i] := List.getElem?_eq_getElem hlt
 rcases h.row i _ _ h1 (List.getElem?_eq_getElem hi') with ⟨h2, _⟩ | ⟨q, l, f, h2, _⟩
 ·exact ⟨_, _, _, by rw [h1, h2]⟩
 ·exact ⟨_, _, _, by rw [h1, h2]⟩
theorem LsP.own {H : Hp} {lo hi : Nat} {v : Value} {cells : List Value} {cl : List Chg} (_ : GS H v cl.length cells 68 4 lo hi) (h : ChP H hi lo cl cells) (hf : Few cl) : OwnB H lo hi (flV cells) ((flB cl).map List.length) := OwnB.of (OwnL.of h) (few_flB hf)
theorem spec4 (hn : ∀ k, k ≠ 14 → k ≠ 5 → sm k = none) (hsm14 : sm 14 = some g14) (H : Hp) (nx : Nat) (hH : HB H nx) (a : Option Addr) (l : List UInt8) (c : Nat) (ha : BS H a l) (hl : l.length ≤ 268435456) (hcl0 : l.length ≤ c) (hc0 : c ≤ 1073741824) : FnOk (envS sm) 4 [.slice a l.length c] H nx (fun v H' nx' => v = .bool true ∧ nx ≤ nx' ∧ HSub H H') (fun _ _ _ => False) := by
 refine FnOk.of (fn := Tryz.f4) (hn 4 (by decide) (by decide)) rfl rfl rfl ?_
 have hcl := ch_len l
 have hfw := few_chOf l
 refine WC.seqR (xs := [om 2 (.v (.bool false))]) (by kernel_rfl) ?_
 refine WS.mv rfl rfl ?_
 refine WS.nil ?_
 refine WC.seqR (xs := [om 16 (.t 0),
   oq 17 (.call (.v (.func (.func 6) #[] #[])) [(.t 16)]),
   om 3 (.t 17)]) (by kernel_rfl) ?_
 refine WS.mv rfl rfl ?_
 refine WS.c (One.call rfl rfl (spec6 (hn 6 (by decide) (by decide)) H nx hH a l c ha (by omega)) rfl ?_ (fun _ _ _ h => h.elim))
 rintro _ H1 n1 ⟨rfl, hin1, hs1, hb1, hn1⟩
 have hBS : ∀ B : Hp, HSub H1 B → BS B (some ⟨nx, 0, none⟩) l := fun B hs => by
  have h1 : BS B (some ⟨nx, 0, none⟩) (spareL l) := BS.whole (hs _ _ hin1)
  have := h1.take l.length
  rw [spareL_take] at this
  exact this
 refine WS.mv rfl rfl ?_
 refine WS.nil ?_
 refine WC.seqR (xs := [om 19 (.t 3),
   oq 20 (.call (.v (.func (.func 7) #[] #[])) [(.t 19)]),
   om 18 (.t 20),
   oq 21 (.p (.ext (.t 18) 0)),
   oq 22 (.p (.ext (.t 18) 1)),
   oq 4 (.m (.alc [(.bool false), (.int .i64 0), (.int .i64 0), (.int .u32 0), (.int .i64 0), (.int .i64 0), (.int .u32 0), (.int .i64 0)] 30)),
   ⟨none, none, .w (.sto 8 (.t 4) (.t 21))⟩,
   om 5 (.t 22)]) (by kernel_rfl) ?_
 refine WS.mv rfl rfl ?_
 refine WS.c (One.call rfl rfl (spec7 (hn 7 (by decide) (by decide)) (hn 19 (by decide) (by decide)) (hn 40 (by decide) (by decide)) (hn 42 (by decide) (by decide)) (hn 43 (by decide) (by decide)) (hn 95 (by decide) (by decide)) (hn 162 (by decide) (by decide)) (hn 45 (by decide) (by decide)) (hn 46 (by decide) (by decide)) (hn 47 (by decide) (by decide)) (hn 41 (by decide) (by decide)) (hn 91 (by decide) (by decide)) (hn 160 (by decide) (by decide)) (hn 92 (by decide) (by decide)) (hn 94 (by decide) (by decide)) (hn 100 (by decide) (by decide)) (hn 167 (by decide) (by decide)) (hn 166 (by decide) (by decide)) (hn 237 (by decide) (by decide)) (hn 318 (by decide) (by decide)) (hn 238 (by decide) (by decide)) (hn 227 (by decide) (by decide)) (hn 168 (by decide) (by decide)) (hn 239 (by decide) (by decide)) (hn 164 (by decide) (by decide)) (hn 236 (by decide) (by decide)) (hn 44 (by decide) (by decide)) (hn 96 (by decide) (by decide)) (hn 163 (by decide) (by decide)) (hn 97 (by decide) (by decide)) (hn 98 (by decide) (by decide)) (hn 99 (by decide) (by decide)) (hn 165 (by decide) (by decide)) (hn 101 (by decide) (by decide)) (hn 102 (by decide) (by decide)) (hn 169 (by decide) (by decide)) (hn 93 (by decide) (by decide)) (hn 161 (by decide) (by decide)) H1 n1 hb1 (some ⟨nx, 0, none⟩) l (l.length + 64) (hBS H1 (HSub.refl _)) (by omega) (by omega) (by omega)) rfl ?_ (fun _ _ _ h => h.elim))
 rintro _ H2 n2 ⟨rfl, hs2, hb2, hn2⟩
 refine WS.mv rfl rfl ?_
 refine WS.c (One.ext rfl rfl rfl ?_)
 refine WS.c (One.ext rfl rfl rfl ?_)
 refine WS.c (One.alc rfl ?_)
 refine WS.z (One.sto rfl rfl upd_eq (hdo_len l) (hdo_one l) (lay_all (hdo_len l)) rfl ?_)
 have hs3 : HSub H2 (upd (upd H2 n2 (.cells [.bool false, .int .i64 0, .int .i64 0, .int .u32 0, .int .i64 0, .int .i64 0, .int .u32 0, .int .i64 0] 30 0)) n2 (.cells (hdOf l) 30 0)) := HSub.new hb2 (Nat.le_refl _) (HSub.new hb2 (Nat.le_refl _) (HSub.refl _))
 have hb3 : HB (upd (upd H2 n2 (.cells [.bool false, .int .i64 0, .int .i64 0, .int .u32 0, .int .i64 0, .int .i64 0, .int .u32 0, .int .i64 0] 30 0)) n2 (.cells (hdOf l) 30 0)) (n2 + 1) := hb2.new.upd (Nat.lt_succ_self _)
 refine WS.mv rfl rfl ?_
 refine WS.nil ?_
 refine WC.seqR (xs := [om 24 (.t 0),
   oq 25 (.call (.v (.func (.func 8) #[] #[])) [(.t 24)]),
   om 23 (.t 25),
   oq 26 (.p (.ext (.t 23) 0)),
   oq 27 (.p (.ext (.t 23) 1)),
   oq 6 (.m (.alc [(.bool false), (.int .i64 0), (.int .i64 0), (.int .u32 0), (.int .i64 0), (.int .i64 0), (.int .u32 0), (.int .i64 0)] 30)),
   ⟨none, none, .w (.sto 8 (.t 6) (.t 26))⟩,
   om 7 (.t 27)]) (by kernel_rfl) ?_
 refine WS.mv rfl rfl ?_
 refine WS.c (One.call rfl rfl (spec8 (hn 8 (by decide) (by decide)) (hn 20 (by decide) (by decide)) (hn 49 (by decide) (by decide)) (hn 103 (by decide) (by decide)) (hn 170 (by decide) (by decide)) (hn 241 (by decide) (by decide)) (hn 48 (by decide) (by decide)) (hn 22 (by decide) (by decide)) (hn 57 (by decide) (by decide)) (hn 50 (by decide) (by decide)) (hn 52 (by decide) (by decide)) (hn 53 (by decide) (by decide)) (hn 54 (by decide) (by decide)) (hn 55 (by decide) (by decide)) (hn 56 (by decide) (by decide)) (hn 106 (by decide) (by decide)) (hn 51 (by decide) (by decide)) (hn 105 (by decide) (by decide)) (hn 104 (by decide) (by decide)) (hn 107 (by decide) (by decide)) (hn 171 (by decide) (by decide)) (upd (upd H2 n2 (.cells [.bool false, .int .i64 0, .int .i64 0, .int .u32 0, .int .i64 0, .int .i64 0, .int .u32 0, .int .i64 0] 30 0)) n2 (.cells (hdOf l) 30 0)) (n2 + 1) hb3 a l c (ha.mono ((hs1.trans hs2).trans hs3)) (by omega) hcl0 hc0) rfl ?_ (fun _ _ _ h => h.elim))
 rintro _ H4 n4 ⟨rfl, hs4, hb4, hn4⟩
 refine WS.mv rfl rfl ?_
 refine WS.c (One.ext rfl rfl rfl ?_)
 refine WS.c (One.ext rfl rfl rfl ?_)
 refine WS.c (One.alc rfl ?_)
 refine WS.z (One.sto rfl rfl upd_eq (hdo_len l) (hdo_one l) (lay_all (hdo_len l)) rfl ?_)
 have hs5 : HSub H4 (upd (upd H4 n4 (.cells [.bool false, .int .i64 0, .int .i64 0, .int .u32 0, .int .i64 0, .int .i64 0, .int .u32 0, .int .i64 0] 30 0)) n4 (.cells (hdOf l) 30 0)) := HSub.new hb4 (Nat.le_refl _) (HSub.new hb4 (Nat.le_refl _) (HSub.refl _))
 have hb5 : HB (upd (upd H4 n4 (.cells [.bool false, .int .i64 0, .int .i64 0, .int .u32 0, .int .i64 0, .int .i64 0, .int .u32 0, .int .i64 0] 30 0)) n4 (.cells (hdOf l) 30 0)) (n4 + 1) := hb4.new.upd (Nat.lt_succ_self _)
 refine WS.mv rfl rfl ?_
 refine WS.nil ?_
 refine WC.seq ?_
 refine WC.seqR (xs := [oq 28 (.l (.ld (some 8) (.t 4))),
   oq 29 (.l (.ld (some 8) (.t 6))),
   oq 30 (.p (.bin .neq (.flat (.b :: (markK ++ (markK ++ [.i .i64])))) false (.t 28) (.t 29))),
   om 31 (.t 30),
   ⟨(some (31, false)), (some (32, 32)), .p (.mv (.t 5))⟩,
   ⟨(some (31, false)), (some (33, 33)), .p (.mv (.t 7))⟩,
   ⟨(some (31, false)), (some (34, 34)), .p (.bin .neq .other false (.t 32) (.t 33))⟩,
   oq 35 (.p (.pick (.t 31) (.v (.bool true)) (.t 34)))]) (by kernel_rfl) ?_
 refine WS.c (One.ld rfl (ld_ofA (o := 0) (l := hdOf l) (hs5 _ _ (hs4 _ _ upd_eq)) (by show 0 + 8 ≤ (hdOf l).length; rw [hdo_len]; decide) (by show ((hdOf l).drop 0).take 8 = hdOf l; rw [List.drop_zero]; exact List.take_of_length_le (by rw [hdo_len]; exact Nat.le_refl _))) rfl ?_)
 refine WS.c (One.ld rfl (ld_ofA (o := 0) (l := hdOf l) upd_eq (by show 0 + 8 ≤ (hdOf l).length; rw [hdo_len]; decide) (by show ((hdOf l).drop 0).take 8 = hdOf l; rw [List.drop_zero]; exact List.take_of_length_le (by rw [hdo_len]; exact Nat.le_refl _))) rfl ?_)
 refine WS.c (One.bin rfl rfl (hd_same l) rfl ?_)
 refine WS.mv rfl rfl ?_
 refine WS.c (One.gT rfl rfl (One.mv rfl rfl ?_))
 refine WS.c (One.gT rfl rfl (One.mv rfl rfl ?_))
 refine WS.c (One.gT rfl rfl (One.bin rfl rfl (bin_neqF rfl) rfl ?_))
 refine WS.c (One.pick rfl rfl rfl ?_)
 refine WS.nil ?_
 refine WC.condB rfl (fun h => nomatch h) (fun _ => ?_)
 refine WC.skip ?_
 refine WC.seqR (xs := [om 37 (.t 0),
   oq 38 (.call (.v (.func (.func 9) #[] #[])) [(.t 37)]),
   om 36 (.t 38),
   oq 39 (.p (.ext (.t 36) 0)),
   oq 40 (.p (.ext (.t 36) 1)),
   om 8 (.t 39),
   om 7 (.t 40)]) (by kernel_rfl) ?_
 refine WS.mv rfl rfl ?_
 refine WS.c (One.call rfl rfl (spec9 (hn 9 (by decide) (by decide)) (hn 20 (by decide) (by decide)) (hn 49 (by decide) (by decide)) (hn 103 (by decide) (by decide)) (hn 170 (by decide) (by decide)) (hn 241 (by decide) (by decide)) (hn 48 (by decide) (by decide)) (hn 22 (by decide) (by decide)) (hn 57 (by decide) (by decide)) (hn 50 (by decide) (by decide)) (hn 52 (by decide) (by decide)) (hn 53 (by decide) (by decide)) (hn 54 (by decide) (by decide)) (hn 55 (by decide) (by decide)) (hn 56 (by decide) (by decide)) (hn 106 (by decide) (by decide)) (hn 51 (by decide) (by decide)) (hn 105 (by decide) (by decide)) (hn 104 (by decide) (by decide)) (hn 107 (by decide) (by decide)) (hn 171 (by decide) (by decide)) (upd (upd H4 n4 (.cells [.bool false, .int .i64 0, .int .i64 0, .int .u32 0, .int .i64 0, .int .i64 0, .int .u32 0, .int .i64 0] 30 0)) n4 (.cells (hdOf l) 30 0)) (n4 + 1) hb5 a l c (ha.mono ((((hs1.trans hs2).trans hs3).trans hs4).trans hs5)) (by omega) hcl0 hc0) rfl ?_ (fun _ _ _ h => h.elim))
 rintro _ H6 n6 ⟨lvw, rfl, hLw, hs6, hb6, hn6⟩
 have hs16 : HSub H1 H6 := (((hs2.trans hs3).trans hs4).trans hs5).trans hs6
 refine WS.mv rfl rfl ?_
 refine WS.c (One.ext rfl rfl rfl ?_)
 refine WS.c (One.ext rfl rfl rfl ?_)
 refine WS.mv rfl rfl ?_
 refine WS.mv rfl rfl ?_
 refine WS.nil ?_
 refine WC.seqR (xs := [om 42 (.t 3),
   oq 43 (.call (.v (.func (.func 10) #[] #[])) [(.t 42)]),
   om 41 (.t 43),
   oq 44 (.p (.ext (.t 41) 0)),
   oq 45 (.p (.ext (.t 41) 1)),
   om 9 (.t 44),
   om 5 (.t 45)]) (by kernel_rfl) ?_
 refine WS.mv rfl rfl ?_
 refine WS.c (One.call rfl rfl (spec10 (hn 10 (by decide) (by decide)) (hn 19 (by decide) (by decide)) (hn 40 (by decide) (by decide)) (hn 42 (by decide) (by decide)) (hn 43 (by decide) (by decide)) (hn 95 (by decide) (by decide)) (hn 162 (by decide) (by decide)) (hn 45 (by decide) (by decide)) (hn 46 (by decide) (by decide)) (hn 47 (by decide) (by decide)) (hn 41 (by decide) (by decide)) (hn 91 (by decide) (by decide)) (hn 160 (by decide) (by decide)) (hn 92 (by decide) (by decide)) (hn 94 (by decide) (by decide)) (hn 100 (by decide) (by decide)) (hn 167 (by decide) (by decide)) (hn 166 (by decide) (by decide)) (hn 237 (by decide) (by decide)) (hn 318 (by decide) (by decide)) (hn 238 (by decide) (by decide)) (hn 227 (by decide) (by decide)) (hn 168 (by decide) (by decide)) (hn 239 (by decide) (by decide)) (hn 164 (by decide) (by decide)) (hn 236 (by decide) (by decide)) (hn 44 (by decide) (by decide)) (hn 96 (by decide) (by decide)) (hn 163 (by decide) (by decide)) (hn 97 (by decide) (by decide)) (hn 98 (by decide) (by decide)) (hn 99 (by decide) (by decide)) (hn 165 (by decide) (by decide)) (hn 101 (by decide) (by decide)) (hn 102 (by decide) (by decide)) (hn 169 (by decide) (by decide)) (hn 93 (by decide) (by decide)) (hn 161 (by decide) (by decide)) H6 n6 hb6 (some ⟨nx, 0, none⟩) l (l.length + 64) (hBS H6 hs16) (by omega) (by omega) (by omega)) rfl ?_ (fun _ _ _ h => h.elim))
 rintro _ H7 n7 ⟨lv1, rfl, hL1, hs7, hb7, hn7⟩
 refine WS.mv rfl rfl ?_
 refine WS.c (One.ext rfl rfl rfl ?_)
 refine WS.c (One.ext rfl rfl rfl ?_)
 refine WS.mv rfl rfl ?_
 refine WS.mv rfl rfl ?_
 refine WS.nil ?_
 refine WC.seqR (xs := [om 47 (.t 3),
   oq 48 (.call (.v (.func (.func 10) #[] #[])) [(.t 47)]),
   om 46 (.t 48),
   oq 49 (.p (.ext (.t 46) 0)),
   oq 50 (.p (.ext (.t 46) 1)),
   om 10 (.t 49),
   om 11 (.t 50)]) (by kernel_rfl) ?_
 refine WS.mv rfl rfl ?_
 refine WS.c (One.call rfl rfl (spec10 (hn 10 (by decide) (by decide)) (hn 19 (by decide) (by decide)) (hn 40 (by decide) (by decide)) (hn 42 (by decide) (by decide)) (hn 43 (by decide) (by decide)) (hn 95 (by decide) (by decide)) (hn 162 (by decide) (by decide)) (hn 45 (by decide) (by decide)) (hn 46 (by decide) (by decide)) (hn 47 (by decide) (by decide)) (hn 41 (by decide) (by decide)) (hn 91 (by decide) (by decide)) (hn 160 (by decide) (by decide)) (hn 92 (by decide) (by decide)) (hn 94 (by decide) (by decide)) (hn 100 (by decide) (by decide)) (hn 167 (by decide) (by decide)) (hn 166 (by decide) (by decide)) (hn 237 (by decide) (by decide)) (hn 318 (by decide) (by decide)) (hn 238 (by decide) (by decide)) (hn 227 (by decide) (by decide)) (hn 168 (by decide) (by decide)) (hn 239 (by decide) (by decide)) (hn 164 (by decide) (by decide)) (hn 236 (by decide) (by decide)) (hn 44 (by decide) (by decide)) (hn 96 (by decide) (by decide)) (hn 163 (by decide) (by decide)) (hn 97 (by decide) (by decide)) (hn 98 (by decide) (by decide)) (hn 99 (by decide) (by decide)) (hn 165 (by decide) (by decide)) (hn 101 (by decide) (by decide)) (hn 102 (by decide) (by decide)) (hn 169 (by decide) (by decide)) (hn 93 (by decide) (by decide)) (hn 161 (by decide) (by decide)) H7 n7 hb7 (some ⟨nx, 0, none⟩) l (l.length + 64) (hBS H7 (hs16.trans hs7)) (by omega) (by omega) (by omega)) rfl ?_ (fun _ _ _ h => h.elim))
 rintro _ H8 n8 ⟨lv2, rfl, hL2, hs8, hb8, hn8⟩
 have hLw8 := (hLw.mono hs7 hn7).mono hs8 hn8
 have hL18 := hL1.mono hs8 (Nat.le_refl n7)
 refine WS.mv rfl rfl ?_
 refine WS.c (One.ext rfl rfl rfl ?_)
 refine WS.c (One.ext rfl rfl rfl ?_)
 refine WS.mv rfl rfl ?_
 refine WS.mv rfl rfl ?_
 refine WS.nil ?_
 refine WC.seq ?_
 refine WC.seqR (xs := [om 51 (.t 5),
   om 52 (.t 7),
   oq 53 (.p (.bin .neq .other false (.t 51) (.t 52))),
   om 54 (.t 53),
   ⟨(some (54, false)), (some (55, 55)), .p (.mv (.t 11))⟩,
   ⟨(some (54, false)), (some (56, 56)), .p (.mv (.t 7))⟩,
   ⟨(some (54, false)), (some (57, 57)), .p (.bin .neq .other false (.t 55) (.t 56))⟩,
   oq 58 (.p (.pick (.t 54) (.v (.bool true)) (.t 57))),
   om 59 (.t 58),
   ⟨(some (59, false)), (some (60, 60)), .p (.mv (.t 9))⟩,
   ⟨(some (59, false)), (some (61, 61)), .p (.mv (.t 8))⟩,
   ⟨(some (59, false)), (some (62, 62)), .call (.v (.func (.func 11) #[] #[])) [(.t 60), (.t 61)]⟩,
   ⟨(some (59, false)), (some (63, 63)), .p (.not (.t 62))⟩,
   oq 64 (.p (.pick (.t 59) (.v (.bool true)) (.t 63))),
   om 65 (.t 64),
   ⟨(some (65, false)), (some (66, 66)), .p (.mv (.t 10))⟩,
   ⟨(some (65, false)), (some (67, 67)), .p (.mv (.t 8))⟩,
   ⟨(some (65, false)), (some (68, 68)), .call (.v (.func (.func 11) #[] #[])) [(.t 66), (.t 67)]⟩,
   ⟨(some (65, false)), (some (69, 69)), .p (.not (.t 68))⟩,
   oq 70 (.p (.pick (.t 65) (.v (.bool true)) (.t 69))),
   om 71 (.t 70),
   ⟨(some (71, false)), (some (72, 72)), .p (.mv (.t 3))⟩,
   ⟨(some (71, false)), (some (73, 73)), .p (.mv (.t 0))⟩,
   ⟨(some (71, false)), (some (74, 74)), .call (.v (.func (.func 12) #[] #[])) [(.t 72), (.t 73)]⟩,
   ⟨(some (71, false)), (some (75, 75)), .p (.not (.t 74))⟩,
   oq 76 (.p (.pick (.t 71) (.v (.bool true)) (.t 75)))]) (by kernel_rfl) ?_
 refine WS.mv rfl rfl ?_
 refine WS.mv rfl rfl ?_
 refine WS.c (One.bin rfl rfl (bin_neqF rfl) rfl ?_)
 refine WS.mv rfl rfl ?_
 refine WS.c (One.gT rfl rfl (One.mv rfl rfl ?_))
 refine WS.c (One.gT rfl rfl (One.mv rfl rfl ?_))
 refine WS.c (One.gT rfl rfl (One.bin rfl rfl (bin_neqF rfl) rfl ?_))
 refine WS.c (One.pick rfl rfl rfl ?_)
 refine WS.mv rfl rfl ?_
 refine WS.c (One.gT rfl rfl (One.mv rfl rfl ?_))
 refine WS.c (One.gT rfl rfl (One.mv rfl rfl ?_))
 refine WS.c (One.gT rfl rfl (One.call rfl rfl (spec11 (hn 11 (by decide) (by decide)) (hn 21 (by decide) (by decide)) (hn 22 (by decide) (by decide)) (hn 57 (by decide) (by decide)) H8 n8 _ _ _ _ lv1 lvw (chOf l) (chOf l) hL18.toC hLw8 hfw (by omega) hb8) rfl ?_ (fun _ _ _ h => h.elim)))
 rintro _ _ n9 ⟨⟨t1, rfl, ht1⟩, rfl, hn9⟩
 have ht1 : t1 = true := ht1.2 rfl
 subst ht1
 refine WS.c (One.gT rfl rfl (One.notB rfl rfl ?_))
 refine WS.c (One.pick rfl rfl rfl ?_)
 refine WS.mv rfl rfl ?_
 refine WS.c (One.gT rfl rfl (One.mv rfl rfl ?_))
 refine WS.c (One.gT rfl rfl (One.mv rfl rfl ?_))
 refine WS.c (One.gT rfl rfl (One.call rfl rfl (spec11 (hn 11 (by decide) (by decide)) (hn 21 (by decide) (by decide)) (hn 22 (by decide) (by decide)) (hn 57 (by decide) (by decide)) H8 n9 _ _ _ _ lv2 lvw (chOf l) (chOf l) hL2.toC hLw8 hfw (by omega) (hb8.mono hn9)) rfl ?_ (fun _ _ _ h => h.elim)))
 rintro _ _ n10 ⟨⟨t2, rfl, ht2⟩, rfl, hn10⟩
 have ht2 : t2 = true := ht2.2 rfl
 subst ht2
 refine WS.c (One.gT rfl rfl (One.notB rfl rfl ?_))
 refine WS.c (One.pick rfl rfl rfl ?_)
 refine WS.mv rfl rfl ?_
 refine WS.c (One.gT rfl rfl (One.mv rfl rfl ?_))
 refine WS.c (One.gT rfl rfl (One.mv rfl rfl ?_))
 refine WS.c (One.gT rfl rfl (One.call rfl rfl (spec12 (hn 12 (by decide) (by decide)) (hn 22 (by decide) (by decide)) (hn 57 (by decide) (by decide)) H8 n10 a l c nx (ha.mono ((hs1.trans hs16).trans (hs7.trans hs8))) (by omega) ((hs16.trans (hs7.trans hs8)) _ _ hin1)) rfl ?_ (fun _ _ _ h => h.elim)))
 rintro _ _ _ ⟨rfl, rfl, rfl⟩
 refine WS.c (One.gT rfl rfl (One.notB rfl rfl ?_))
 refine WS.c (One.pick rfl rfl rfl ?_)
 refine WS.nil ?_
 refine WC.condB rfl (fun h => nomatch h) (fun _ => ?_)
 refine WC.skip ?_
 refine WC.seq ?_
 refine WC.seqR (xs := [om 12 (.v (.int .i64 0))]) (by kernel_rfl) ?_
 refine WS.mv rfl rfl ?_
 refine WS.nil ?_
 refine WC.block ?_
 refine WC.loop (fun m env ds H' nx' => ∃ (i : Nat), m = l.length - i ∧ SubE [(0, .slice a l.length c), (3, .slice (some ⟨nx, 0, none⟩) l.length (l.length + 64)), (8, lvw), (9, lv1), (10, lv2), (12, .int .i64 (i : Int))] env ∧ ds = [] ∧ i ≤ l.length ∧ (∃ C, H' nx = some (.cells C 5 0) ∧ C.length = l.length + 64 ∧ ∀ j, j < l.length → ∃ x, x < 256 ∧ C[j]? = some (.int .u8 ((x : Nat) : Int))) ∧ HSub (del H8 nx) H' ∧ HB H' n10 ∧ n10 = nx') (fun m env ds H' nx' hI => ?_) (m := l.length) (⟨0, by omega, (by repeat (first | exact SubE.nil _ | refine SubE.cons rfl ?_)), rfl, Nat.zero_le _, ⟨_, (hs16.trans (hs7.trans hs8)) _ _ hin1, by rw [strCells_len, spareL_len], fun j hj => ⟨_, UInt8.toNat_lt (spareL l)[j]!, by rw [strCells_map, List.getElem?_map, List.getElem?_eq_getElem (by rw [spareL_len]; omega)]; simp [bv, List.getElem!_eq_getElem?_getD, List.getElem?_eq_getElem (show j < (spareL l).length by rw [spareL_len]; omega)]⟩⟩, HSub.delL _ _, hb8.mono (Nat.le_trans hn9 hn10), rfl⟩)
 obtain ⟨i, rfl, hsub, rfl, hi, hCC, hsd, hBl, rfl⟩ := hI
 refine WC.weak (env' := [(0, .slice a l.length c), (3, .slice (some ⟨nx, 0, none⟩) l.length (l.length + 64)), (8, lvw), (9, lv1), (10, lv2), (12, .int .i64 (i : Int))]) ?_ hsub (fun _ _ h => h)
 refine WC.seq ?_
 refine WC.seqR (xs := [om 77 (.t 12),
   om 78 (.t 3),
   oq 79 (.p (.len (.t 78))),
   oq 80 (.p (.bin .lss .other false (.t 77) (.t 79)))]) (by kernel_rfl) ?_
 refine WS.mv rfl rfl ?_
 refine WS.mv rfl rfl ?_
 refine WS.c (One.len rfl rfl ?_)
 refine WS.c (One.bin rfl rfl bin_lss rfl ?_)
 refine WS.nil ?_
 refine WC.cond rfl (fun hc3 => ?_) (fun hc3 => ?_)
 ·refine WC.skip ?_
  refine WC.seq ?_
  refine WC.block ?_
  refine WC.region (xs := [om 83 (.t 3),
    om 84 (.t 12),
    oq 85 (.p (.iaS 1 (.t 83) (.t 84))),
    oq 86 (.l (.ld none (.t 85))),
    oq 87 (.p (.bin .xor .other true (.t 86) (.v (.int .u8 1)))),
    oq 88 (.p (.iaS 1 (.t 83) (.t 84))),
    ⟨none, none, .w (.sto 1 (.t 88) (.t 87))⟩]) (by kernel_rfl) ?_
  refine WS.mv rfl rfl ?_
  refine WS.mv rfl rfl ?_
  obtain ⟨C, hC, hCl, hCx⟩ := hCC
  obtain ⟨x, hx1, hx2⟩ := hCx i (by omega)
  refine WS.c (One.iaS rfl rfl rfl (by omega) rfl ?_)
  refine WS.c (One.ld rfl (ld_of (o := 0 + i * 1) hC (by rw [Nat.zero_add, Nat.mul_one]; exact hx2)) rfl ?_)
  refine WS.c (One.bin rfl rfl (bin_xor (b := 1) rfl (by show _ < 256; first | omega | assumption | decide) (by show _ < 256; first | omega | assumption | decide)) rfl ?_)
  refine WS.c (One.iaS rfl rfl rfl (by omega) rfl ?_)
  refine WS.z (One.sto rfl rfl hC rfl rfl (by rw [Nat.zero_add, Nat.mul_one]; exact lay_set (by omega)) rfl ?_)
  refine WS.nil ?_
  refine WC.region (xs := [om 81 (.t 12),
    oq 82 (.p (.bin .add .other true (.t 81) (.v (.int .i64 1)))),
    om 12 (.t 82)]) (by kernel_rfl) ?_
  refine WS.mv rfl rfl ?_
  refine WS.c (One.bin rfl rfl (bin_add64 (by omega) (by omega)) rfl ?_)
  refine WS.mv rfl rfl ?_
  refine WS.nil ?_
  refine ⟨_, ?_, i + 1, rfl, (by repeat (first | exact SubE.nil _ | refine SubE.cons rfl ?_)), rfl, by omega, ⟨_, upd_eq, by rw [List.length_set]; exact hCl, fun j hj => ?_⟩, hsd.delU, hBl.upd (by omega), rfl⟩
  ·omega
  ·by_cases hji : j = i
   ·subst hji
    exact ⟨x ^^^ 1, Nat.xor_lt_two_pow (n := 8) hx1 (by decide), by rw [List.getElem?_set_self (by omega)]⟩
   ·rw [List.getElem?_set_ne (by omega)]; exact hCx j hj
 ·refine WC.exit ?_
  refine WC.seq ?_
  refine WC.seqR (xs := [om 89 (.t 9),
    om 90 (.t 8),
    oq 91 (.call (.v (.func (.func 11) #[] #[])) [(.t 89), (.t 90)]),
    oq 92 (.p (.not (.t 91)))]) (by kernel_rfl) ?_
  refine WS.mv rfl rfl ?_
  refine WS.mv rfl rfl ?_
  refine WS.c (One.call rfl rfl (spec11 (hn 11 (by decide) (by decide)) (hn 21 (by decide) (by decide)) (hn 22 (by decide) (by decide)) (hn 57 (by decide) (by decide)) H' n10 _ _ _ _ lv1 lvw (chOf l) (chOf l) (hL18.toC.low hsd (by omega)) (hLw8.low hsd (by omega)) hfw (by omega) hBl) rfl ?_ (fun _ _ _ h => h.elim))
  rintro _ _ n11 ⟨⟨t3, rfl, ht3⟩, rfl, hn11⟩
  have ht3 : t3 = true := ht3.2 rfl
  subst ht3
  obtain ⟨cells1, hg1, hp1⟩ := hL18.low hsd (by omega : nx < n6)
  obtain ⟨cells2, hg2, hp2⟩ := hL2.low hsd (by omega : nx < n7)
  refine WS.c (One.notB rfl rfl ?_)
  refine WS.nil ?_
  refine WC.condB rfl (fun h => nomatch h) (fun _ => ?_)
  refine WC.skip ?_
  refine WC.seqR (xs := [om 93 (.t 9),
    oq 94 (.call (.v (.func (.func 13) #[] #[])) [(.t 93)]),
    om 13 (.t 94)]) (by kernel_rfl) ?_
  refine WS.mv rfl rfl ?_
  refine WS.c (One.call rfl rfl (spec13 (hn 13 (by decide) (by decide)) H' n11 _ _ lv1 (chOf l) cells1 hg1 hp1.toV (by omega) (hBl.mono hn11)) rfl ?_ (fun _ _ _ h => h.elim))
  rintro sv0 H9 n12 ⟨hgl, hs9, hb9, hn12⟩
  refine WS.mv rfl rfl ?_
  refine WS.nil ?_
  refine WC.seqR (xs := [om 95 (.t 10),
    oq 96 (.call (.v (.func (.func 13) #[] #[])) [(.t 95)]),
    om 14 (.t 96)]) (by kernel_rfl) ?_
  refine WS.mv rfl rfl ?_
  refine WS.c (One.call rfl rfl (spec13 (hn 13 (by decide) (by decide)) H9 n12 _ _ lv2 (chOf l) cells2 (hg2.mono hs9 (Nat.le_refl _)) (hp2.toV.mono hs9) (by omega) hb9) rfl ?_ (fun _ _ _ h => h.elim))
  rintro w H10 n13 ⟨hgw, hs10, hb10, hn13⟩
  obtain ⟨wa, wc, rfl⟩ := hgw.shape
  have hO1 := (LsP.own hg1 hp1 hfw).mono (fun id o _ _ ho => hs10 _ _ (hs9 _ _ ho))
  have hO2 := (LsP.own hg2 hp2 hfw).mono (fun id o _ _ ho => hs10 _ _ (hs9 _ _ ho))
  have hln : ((flB (chOf l)).map List.length).length = 3 * (chOf l).length := by rw [List.length_map, flB_len]
  refine WS.mv rfl rfl ?_
  refine WS.nil ?_
  refine WC.seq ?_
  refine WC.seqR (xs := [om 15 (.v (.int .i64 0))]) (by kernel_rfl) ?_
  refine WS.mv rfl rfl ?_
  refine WS.nil ?_
  refine WC.block ?_
  refine WC.loop (fun m env ds H' nx' => ∃ (i : Nat) (sv : Value), m = 3 * (chOf l).length - i ∧ SubE [(13, sv), (14, .slice wa (3 * (chOf l).length) wc), (15, .int .i64 (i : Int))] env ∧ ds = [] ∧ i ≤ 3 * (chOf l).length ∧ GS H' sv (3 * (chOf l).length + i) (flV cells1 ++ (flV cells2).take i) 22 1 n11 nx' ∧ (∀ id o, H10 id = some o → ¬ (n11 ≤ id ∧ id < n12) → H' id = some o) ∧ (∀ id, isBl sv id = true → (n11 ≤ id ∧ id < n12) ∨ n13 ≤ id) ∧ HB H' nx' ∧ n13 ≤ nx') (fun m env ds H' nx' hI => ?_) (m := 3 * (chOf l).length) (⟨0, _, by omega, (by repeat (first | exact SubE.nil _ | refine SubE.cons rfl ?_)), rfl, Nat.zero_le _, by rw [List.take_zero, List.append_nil]; exact hgl.mono hs10 hn13, fun id o ho _ => ho, fun id h => .inl (hgl.blk h), hb10, Nat.le_refl _⟩)
  obtain ⟨i, sv, rfl, hsub, rfl, hi, hG, hkeep, hsb, hBl2, hnl⟩ := hI
  refine WC.weak (env' := [(13, sv), (14, .slice wa (3 * (chOf l).length) wc), (15, .int .i64 (i : Int))]) ?_ hsub (fun _ _ h => h)
  refine WC.seq ?_
  refine WC.seqR (xs := [om 97 (.t 15),
    om 98 (.t 14),
    oq 99 (.p (.len (.t 98))),
    oq 100 (.p (.bin .lss .other false (.t 97) (.t 99)))]) (by kernel_rfl) ?_
  refine WS.mv rfl rfl ?_
  refine WS.mv rfl rfl ?_
  refine WS.c (One.len rfl rfl ?_)
  refine WS.c (One.bin rfl rfl bin_lss rfl ?_)
  refine WS.nil ?_
  refine WC.cond rfl (fun hc5 => ?_) (fun hc5 => ?_)
  ·refine WC.skip ?_
   refine WC.seq ?_
   refine WC.block ?_
   refine WC.region (xs := [om 103 (.t 13),
     om 104 (.t 14),
     om 105 (.t 15),
     oq 106 (.p (.iaS 1 (.t 104) (.t 105))),
     oq 107 (.l (.ld none (.t 106))),
     oq 108 (.m (.sl [(.slice none 0 0)] 22 1 [(0, 1, (.t 107))])),
     oq 109 (.w (.app 22 [(.slice none 0 0)] false (.t 103) (.t 108))),
     om 13 (.t 109)]) (by kernel_rfl) ?_
   refine WS.mv rfl rfl ?_
   refine WS.mv rfl rfl ?_
   refine WS.mv rfl rfl ?_
   obtain ⟨wb, hwe, hwb⟩ := hgw.tbl (by omega)
   injection hwe with hwe
   subst hwe
   obtain ⟨va, vn, vc, hvv⟩ := hO2.at (i := i) (by omega)
   have hwr := hgw.blk (isBl_of rfl)
   refine WS.c (One.iaS rfl rfl rfl (by omega) rfl ?_)
   refine WS.c (One.ld rfl (ld_of (o := 0 + i * 1) (hkeep _ _ hwb (by omega)) (by rw [Nat.zero_add, Nat.mul_one]; exact hvv)) rfl ?_)
   refine WS.c (One.sl rfl rfl ?_)
   refine WS.c (One.appGB (m := 3 * (chOf l).length + i) (k := 1) (lo := n11) (z := [.slice none 0 0]) (cells := flV cells1 ++ (flV cells2).take i) (new := [.slice va vn vc]) rfl rfl (hG.updLo (.inr (Nat.le_refl _)) (Nat.le_succ _)) (by omega) (newE_blk upd_eq rfl (by decide)) rfl (by omega) rfl (by omega) rfl ?_)
   intro H11 hg' hlow hoth hb11
   refine WS.mv rfl rfl ?_
   refine WS.nil ?_
   refine WC.region (xs := [om 101 (.t 15),
     oq 102 (.p (.bin .add .other true (.t 101) (.v (.int .i64 1)))),
     om 15 (.t 102)]) (by kernel_rfl) ?_
   refine WS.mv rfl rfl ?_
   refine WS.c (One.bin rfl rfl (bin_add64 (by omega) (by omega)) rfl ?_)
   refine WS.mv rfl rfl ?_
   refine WS.nil ?_
   refine ⟨_, ?_, i + 1, _, rfl, (by repeat (first | exact SubE.nil _ | refine SubE.cons rfl ?_)), rfl, by omega, ?_, fun id o ho hno => ?_, fun id h => ?_, hb11 hBl2.new, by omega⟩
   ·omega
   ·rw [List.take_add_one, hvv, ← List.append_assoc]; exact hg'
   ·have hidlt := hb10 id o ho
    refine hoth id o ?_ (by omega) ?_
    ·rw [upd_ne (by omega)]; exact hkeep id o ho hno
    ·cases hh : isBl sv id with
     | false => rfl
     | true => have := hsb id hh; omega
   ·obtain ⟨o1, n1', c1, he⟩ := isBl_iff h
    injection he with he
    injection he with he
    injection he with he
    omega
  ·refine WC.exit ?_
   refine WC.seqR (xs := [om 110 (.t 13),
     oq 111 (.call (.v (.func (.func 14) #[] #[])) [(.t 110)]),
     om 2 (.t 111)]) (by kernel_rfl) ?_
   refine WS.mv rfl rfl ?_
   have hk : i = 3 * (chOf l).length := by omega
   subst hk
   rw [List.take_of_length_le (by rw [hO2.len, hln]; exact Nat.le_refl _)] at hG
   refine WS.c (One.call rfl rfl (spec14s hsm14 H' nx' sv _ ((flB (chOf l)).map List.length ++ (flB (chOf l)).map List.length) n11 nx' n6 n8 (by rw [List.length_append, hln]; exact hG) ((hO1.append hO2 (by omega) (by omega) (by omega)).mono (fun id o h1 h2 ho => hkeep id o ho (by omega))) (fun q h1 h2 => ?_) (by rw [List.length_append, hln]; omega)) rfl ?_ (fun _ _ _ h => h.elim))
   ·cases hh : isBl sv q with
    | false => rfl
    | true => have := hsb q hh; omega
   rintro _ H20 n20 ⟨rfl, hn20, hk20⟩
   refine WS.mv rfl rfl ?_
   refine WS.nil ?_
   refine WC.ret ?_
   exact EndOk.now rfl rfl ⟨rfl, by omega, fun id o ho => hk20 id o (by have := hH id o ho; omega) (by have := hH id o ho; omega) (hkeep _ _ (hs10 _ _ (hs9 _ _ (hsd _ _ (by rw [del_ne (by have := hH id o ho; omega)]; exact ((hs1.trans hs16).trans (hs7.trans hs8)) _ _ ho)))) (by have := hH id o ho; omega))⟩
end Go.Proofs
