/-
  Part of the proof of StreamReadsUptoSaid: The program reads bytes.
-/
import Derived.Test.YtgidhbelekicbaaGreatSf
set_option linter.unusedVariables false
section
namespace Go.Proofs
open Go.Eng
variable {sm : Nat → Option (List Value → St → Option (Value × St))}
theorem sh_bad {rest : List UInt8} {n : Nat} (h : ¬ shE rest 0 n = 0) : shO rest 0 n = [] ∧ shR rest 0 n = rest := by
  cases rest with
  | nil => exact ⟨rfl, rfl⟩
  | cons b r =>
    by_cases h1 : b.toNat ≤ n
    · by_cases h2 : b.toNat ≤ r.length
      · exact absurd (by simp only [shE, if_true, if_pos h1, if_pos h2]) h
      · simp only [shO, shR, if_true, if_pos h1, if_neg h2, and_self]
    · simp only [shO, shR, if_true, if_neg h1, and_self]
theorem spec164 (hsm : sm 164 = none) (hsm236 : sm 236 = none) (H : Hp) (nx r b e f g : Nat) (caps : List Value) (rest out rest' : List UInt8) (ok : Prop) (hR : WR H r b rest e) (hH : HB H nx) (hdo : e = 0 → ∀ A n, HSub H A → HB A n → nx ≤ n → FnOk (envS sm) g caps A n (fun v H' nx' => ok ∧ GS H' v out.length (strCells out) 5 1 n nx' ∧ WR H' r b rest' 0 ∧ HSub (del A r) H' ∧ HB H' nx' ∧ n ≤ nx') (fun v H' nx' => ¬ ok ∧ v = .iface 31 (.int .i64 (f : Int)) ∧ (∃ sv, H' r = some (.cells [sv, .int .i64 ((0 : Nat) : Int)] 178 0)) ∧ HSub (del A r) H' ∧ HB H' nx' ∧ n ≤ nx')) : FnOk (envS sm) 164 [.pointer (some ⟨r, 0, none⟩), .func (.func g) ⟨[]⟩ ⟨caps⟩] H nx (fun v H' nx' => ∃ ot rs er, GS H' v ot.length (strCells ot) 5 1 nx nx' ∧ WR H' r b rs er ∧ HSub (del H r) H' ∧ HB H' nx' ∧ nx ≤ nx' ∧ ((e = 0 ∧ ok ∧ ot = out ∧ rs = rest' ∧ er = 0) ∨ (e = 0 ∧ ¬ ok ∧ ot = [] ∧ rs = rest ∧ er = f) ∨ (¬ e = 0 ∧ ot = [] ∧ rs = rest ∧ er = e))) (fun _ _ _ => False) := by
  refine FnOk.of (fn := Tryz.f164) hsm rfl rfl rfl ?_
  have hrn := hR.lt hH
  have hbn := hR.ltb hH
  have hSA : HSub H (upd (upd H nx (.cells [.pointer (some ⟨r, 0, none⟩)] 108 0)) (nx + 1) (.cells [.slice none 0 0] 22 0)) := HSub.new hH (by omega) (HSub.new hH (Nat.le_refl _) (HSub.refl H))
  have hRA := hR.mono hSA
  have hBA : HB (upd (upd H nx (.cells [.pointer (some ⟨r, 0, none⟩)] 108 0)) (nx + 1) (.cells [.slice none 0 0] 22 0)) (nx + 1 + 1) := hH.new.new
  obtain ⟨p0, c0, hro⟩ := hRA.obj
  refine WC.seqR (xs := [oq 2 (.m (.box 108 (.t 0))),
      oq 4 (.m (.alc [(.slice none 0 0)] 22))]) (by kernel_rfl) ?_
  refine WS.c (One.box rfl rfl rfl ?_)
  refine WS.c (One.alc rfl ?_)
  refine WS.nil ?_
  refine WC.seq ?_
  refine WC.seqR (xs := [oq 6 (.l (.ld none (.t 2))),
      oq 7 (.p (.nilc (.t 6))),
      oq 8 (.p (.fad (.t 7) 1)),
      oq 9 (.l (.ld none (.t 8))),
      oq 10 (.p (.bin .neq .other true (.t 9) (.v (.int .i64 0))))]) (by kernel_rfl) ?_
  refine WS.c (One.ld rfl (ld_of (cs := [.pointer (some ⟨r, 0, none⟩)]) (o := 0) (e := 108) (el := 0) ((upd_ne (by omega)).trans upd_eq) rfl) rfl ?_)
  refine WS.c (One.nilc rfl rfl ?_)
  refine WS.c (One.fad rfl rfl ?_)
  refine WS.c (One.ld rfl (ld_of hro rfl) rfl ?_)
  refine WS.c (One.bin rfl rfl bin_neq rfl ?_)
  refine WS.nil ?_
  refine WC.cond rfl (fun hc1 => ?_) (fun hc1 => ?_)
  · refine WC.seqR (xs := [oq 11 (.l (.ld none (.t 4))),
        ⟨none, none, .w (.sto 1 (.t 4) (.t 11))⟩]) (by kernel_rfl) ?_
    refine WS.c (One.ld rfl (by first | exact ld_same rfl | (refine ld_skip (by omega) ?_; exact ld_same rfl) | assumption) rfl ?_)
    refine WS.z (One.sto (cs' := [.slice none 0 0]) rfl rfl upd_eq rfl rfl rfl rfl ?_)
    refine WS.nil ?_
    refine WC.ret ?_
    exact EndOk.now rfl (resE_cell rfl (by kernel_rfl) (ld_same rfl) rfl) ⟨[], rest, e, GS.nil _ _ _ _ _, hRA.upd (by omega) (by omega), HSub.new hH.del (by omega) (hSA.delM r), hBA.upd (by omega), by omega, .inr (.inr ⟨by omega, rfl, rfl, rfl⟩)⟩
  · have he : e = 0 := by omega
    subst he
    obtain ⟨bs, p, hr, hb, hbr, hp, rfl, hbs⟩ := hR
    refine WC.skip ?_
    refine WC.seqR (xs := [oq 12 (.l (.ld none (.t 2))),
        oq 13 (.p (.nilc (.t 12))),
        oq 14 (.p (.fad (.t 13) 0)),
        oq 15 (.l (.ld none (.t 14))),
        oq 5 (.m (.alc [(.slice none 0 0)] 22)),
        ⟨none, none, .w (.sto 1 (.t 5) (.t 15))⟩]) (by kernel_rfl) ?_
    refine WS.c (One.ld rfl (ld_of (cs := [.pointer (some ⟨r, 0, none⟩)]) (o := 0) (e := 108) (el := 0) ((upd_ne (by omega)).trans upd_eq) rfl) rfl ?_)
    refine WS.c (One.nilc rfl rfl ?_)
    refine WS.c (One.fad rfl rfl ?_)
    refine WS.c (One.ld rfl (ld_of (hSA _ _ hr) rfl) rfl ?_)
    refine WS.c (One.alc rfl ?_)
    refine WS.z (One.sto (cs' := [.slice (some ⟨b, p, none⟩) (bs.length - p) (big + 1 * qq + (bs.length - p))]) rfl rfl upd_eq rfl rfl rfl rfl ?_)
    refine WS.nil ?_
    refine WC.seqR (xs := [oq 16 (.p (.mkF (.func 236) [] [(.t 5), (.t 4), (.t 2)])),
        ⟨none, none, .dfr (.t 16) []⟩]) (by kernel_rfl) ?_
    refine WS.c (One.mkF rfl rfl rfl ?_)
    refine WS.z (One.dfr rfl rfl rfl ?_)
    refine WS.nil ?_
    refine WC.seqR (xs := [om 17 (.t 1),
        oq 18 (.call (.t 17) []),
        ⟨none, none, .w (.sto 1 (.t 4) (.t 18))⟩]) (by kernel_rfl) ?_
    have hS3 : HSub H (upd (upd (upd (upd H nx (.cells [.pointer (some ⟨r, 0, none⟩)] 108 0)) (nx + 1) (.cells [.slice none 0 0] 22 0)) (nx + 1 + 1) (.cells [.slice none 0 0] 22 0)) (nx + 1 + 1) (.cells [.slice (some ⟨b, p, none⟩) (bs.length - p) (big + 1 * qq + (bs.length - p))] 22 0)) := HSub.new hH (by omega) (HSub.new hH (by omega) hSA)
    have hB3 : HB (upd (upd (upd (upd H nx (.cells [.pointer (some ⟨r, 0, none⟩)] 108 0)) (nx + 1) (.cells [.slice none 0 0] 22 0)) (nx + 1 + 1) (.cells [.slice none 0 0] 22 0)) (nx + 1 + 1) (.cells [.slice (some ⟨b, p, none⟩) (bs.length - p) (big + 1 * qq + (bs.length - p))] 22 0)) (nx + 1 + 1 + 1) := hBA.new.upd (by omega)
    have hb3 := hS3 _ _ hb
    refine WS.mv rfl rfl ?_
    refine WS.c (One.call rfl rfl (hdo rfl _ _ hS3 hB3 (by omega)) rfl ?_ (by
      intro v H5 n5 h
      obtain ⟨hno, rfl, ⟨sv, hr5⟩, hS5, hB5, hn5⟩ := h
      refine .inr ⟨236, _, _, rfl, hsm236, Arm.mono (arm236 _ _ (nx + 1 + 1) (nx + 1) nx r b p _ _ f _ _ (del_at hS5 upd_eq (by omega)) (del_at hS5 (by rw [upd_ne (by omega), upd_ne (by omega)]; exact upd_eq) (by omega)) (del_at hS5 (by rw [upd_ne (by omega), upd_ne (by omega), upd_ne (by omega)]; exact upd_eq) (by omega)) ⟨_, hr5⟩ (by omega) (by omega) (by omega)) ?_⟩
      rintro H' nx' ⟨rfl, rfl⟩
      refine ⟨_, resE_cell rfl (by kernel_rfl) (ld_skip (by omega) (ld_skip (by omega) (ld_same rfl))) rfl, ?_⟩
      have hb5 := del_at hS5 hb3 hbr
      exact ⟨[], bs.drop p, f, GS.nil _ _ _ _ _, ⟨bs, p, upd_eq, by rw [upd_ne hbr, upd_ne hbr, upd_ne (by omega)]; exact hb5, hbr, hp, rfl, hbs⟩, HSub.delU (HSub.delU (HSub.new hH.del (by omega) (HSub.delT (hS3.delM r) hS5))), ((hB5.upd (by omega)).upd (by omega)).upd (by omega), by omega, .inr (.inl ⟨rfl, hno, rfl, rfl, rfl⟩)⟩))
    rintro v5 H5 n5 ⟨hok, hg5, hR5, hS5, hB5, hn5⟩
    obtain ⟨ga, gc, rfl⟩ := hg5.shape
    have ho5 := del_at hS5 (show _ = some (.cells [.slice none 0 0] 22 0) by rw [upd_ne (by omega), upd_ne (by omega)]; exact upd_eq) (show nx + 1 ≠ r by omega)
    refine WS.z (One.sto (cs' := [.slice ga out.length gc]) rfl rfl ho5 rfl rfl rfl rfl ?_)
    refine WS.nil ?_
    refine WC.ret ?_
    refine .inr ⟨236, _, _, rfl, hsm236, (spec236 hsm236 _ _ _ _ _).mono ?_ (fun _ _ _ h => h)⟩
    rintro _ _ _ ⟨rfl, rfl⟩
    refine ⟨_, resE_cell rfl (by kernel_rfl) (ld_same rfl) rfl, ?_⟩
    exact ⟨out, rest', 0, (hg5.updLo (.inl (by omega)) (Nat.le_refl _)).le (by omega), hR5.upd (by omega) (by omega), HSub.new hH.del (by omega) (HSub.delT (hS3.delM r) hS5), hB5.upd (by omega), by omega, .inl ⟨rfl, hok, rfl, rfl, rfl⟩⟩
theorem spec239 (hsm : sm 239 = none) (hsm93 : sm 93 = none) (hsm161 : sm 161 = none) (H : Hp) (nx r b cr cn n : Nat) (rest : List UInt8) (hR : WR H r b rest 0) (hcr : H cr = some (.cells [.pointer (some ⟨r, 0, none⟩)] 108 0)) (hcn : H cn = some (.cells [.int .i64 (n : Int)] 3 0)) (hH : HB H nx) (hn : n ≤ 1073741824) : FnOk (envS sm) 239 [.pointer (some ⟨cr, 0, none⟩), .pointer (some ⟨cn, 0, none⟩)] H nx (fun v H' nx' => n ≤ rest.length ∧ GS H' v (rest.take n).length (strCells (rest.take n)) 5 1 nx nx' ∧ WR H' r b (rest.drop n) 0 ∧ HSub (del H r) H' ∧ HB H' nx' ∧ nx ≤ nx') (fun v H' nx' => ¬ n ≤ rest.length ∧ v = .iface 31 (.int .i64 ((2 : Nat) : Int)) ∧ (∃ sv, H' r = some (.cells [sv, .int .i64 ((0 : Nat) : Int)] 178 0)) ∧ HSub (del H r) H' ∧ HB H' nx' ∧ nx ≤ nx') := by
  refine FnOk.of (fn := Tryz.f239) hsm rfl rfl rfl ?_
  refine WC.seqR (xs := [om 2 (.v (.slice none 0 0))]) (by kernel_rfl) ?_
  refine WS.mv rfl rfl ?_
  refine WS.nil ?_
  refine WC.seqR (xs := [oq 3 (.l (.ld none (.t 0))),
      oq 4 (.l (.ld none (.t 1))),
      oq 5 (.call (.v (.func (.func 93) #[] #[])) [(.t 3), (.t 4)]),
      om 2 (.t 5)]) (by kernel_rfl) ?_
  refine WS.c (One.ld rfl (ld_of hcr rfl) rfl ?_)
  refine WS.c (One.ld rfl (ld_of hcn rfl) rfl ?_)
  refine WS.c (One.call rfl rfl (spec93 hsm93 hsm161 _ _ r b 0 n rest hR hH hn) rfl ?_ (by
    intro v H' nx' h
    obtain ⟨hlt, rfl, rfl, rfl⟩ := h
    obtain ⟨p0, c0, hro⟩ := hR.obj
    exact .inl ⟨rfl, by omega, rfl, ⟨_, hro⟩, HSub.delL H r, hH, Nat.le_refl _⟩))
  rintro v2 H2 n2 ⟨hle, hg, hR2, hS2, hB2, hn2⟩
  refine WS.mv rfl rfl ?_
  refine WS.nil ?_
  refine WC.ret ?_
  exact EndOk.now rfl rfl ⟨hle, by rw [List.length_take, Nat.min_eq_left hle]; exact hg, hR2, hS2, hB2, hn2⟩
theorem spec165 (hsm : sm 165 = none) (hsm93 : sm 93 = none) (hsm161 : sm 161 = none) (H : Hp) (nx r b cr cn n : Nat) (rest : List UInt8) (hR : WR H r b rest 0) (hcr : H cr = some (.cells [.pointer (some ⟨r, 0, none⟩)] 108 0)) (hcn : H cn = some (.cells [.int .i64 (n : Int)] 3 0)) (hH : HB H nx) (hcrr : cr ≠ r) (hcnr : cn ≠ r) : FnOk (envS sm) 165 [.pointer (some ⟨cr, 0, none⟩), .pointer (some ⟨cn, 0, none⟩)] H nx (fun v H' nx' => shE rest 0 n = 0 ∧ GS H' v (shO rest 0 n).length (strCells (shO rest 0 n)) 5 1 nx nx' ∧ WR H' r b (shR rest 0 n) 0 ∧ HSub (del H r) H' ∧ HB H' nx' ∧ nx ≤ nx') (fun v H' nx' => ¬ shE rest 0 n = 0 ∧ v = .iface 31 (.int .i64 (shE rest 0 n : Nat)) ∧ (∃ sv, H' r = some (.cells [sv, .int .i64 ((0 : Nat) : Int)] 178 0)) ∧ HSub (del H r) H' ∧ HB H' nx' ∧ nx ≤ nx') := by
  refine FnOk.of (fn := Tryz.f165) hsm rfl rfl rfl ?_
  refine WC.seqR (xs := [om 2 (.v (.slice none 0 0))]) (by kernel_rfl) ?_
  refine WS.mv rfl rfl ?_
  refine WS.nil ?_
  refine WC.seqR (xs := [oq 4 (.l (.ld none (.t 0))),
      oq 5 (.call (.v (.func (.func 93) #[] #[])) [(.t 4), (.v (.int .i64 1))]),
      oq 6 (.p (.iaS 1 (.t 5) (.v (.int .i64 0)))),
      oq 7 (.l (.ld none (.t 6))),
      oq 8 (.p (.cvI .i64 (.t 7))),
      om 3 (.t 8)]) (by kernel_rfl) ?_
  refine WS.c (One.ld rfl (ld_of hcr rfl) rfl ?_)
  refine WS.c (One.call rfl rfl (spec93 hsm93 hsm161 _ _ r b 0 1 rest hR hH (by omega)) rfl ?_ (by
    intro v H' nx' h
    obtain ⟨hlt, rfl, rfl, rfl⟩ := h
    obtain ⟨p0, c0, hro⟩ := hR.obj
    have h0 : rest = [] := List.eq_nil_of_length_eq_zero (by omega)
    subst h0
    exact .inl ⟨rfl, by show ¬ (2 : Nat) = 0; decide, rfl, ⟨_, hro⟩, HSub.delL H r, hH, Nat.le_refl _⟩))
  rintro v2 H2 n2 ⟨hle, hg, hR2, hS2, hB2, hn2⟩
  obtain ⟨t, rs, rfl⟩ : ∃ t rs, rest = t :: rs := by
    cases rest with
    | nil => exact absurd hle (by decide)
    | cons t rs => exact ⟨t, rs, rfl⟩
  have hgt : GS H2 v2 [t].length (strCells [t]) 5 1 nx n2 := hg
  obtain ⟨a2, c2, rfl, hBt⟩ := hgt.bs
  obtain ⟨b1, o1, rfl, hr1⟩ := hBt.el (i := 0) Nat.zero_lt_one
  have hr1 : ldE H2 none b1 (o1 + 0 * 1) = some (.int .u8 (t.toNat : Int)) := hr1
  have hR2 : WR H2 r b rs 0 := hR2
  have hcr2 := del_at hS2 hcr hcrr
  have hcn2 := del_at hS2 hcn hcnr
  have htt := t.toNat_lt
  have hrl := hR2.len
  obtain ⟨p2, q2, hro2⟩ := hR2.obj
  refine WS.c (One.iaS (j := 0) rfl rfl rfl Nat.zero_lt_one rfl ?_)
  refine WS.c (One.ld rfl hr1 rfl ?_)
  refine WS.c (One.cvI (c := (t.toNat : Int)) rfl (wrap_i64 (by omega) (by omega)) rfl ?_)
  refine WS.mv rfl rfl ?_
  refine WS.nil ?_
  refine WC.seqR (xs := [om 9 (.t 3),
      oq 10 (.l (.ld none (.t 1))),
      oq 11 (.p (.bin .leq .other false (.t 9) (.t 10))),
      oq 12 (.call (.v (.func (.func 161) #[] #[])) [(.t 11), (.v (.int .i64 4))])]) (by kernel_rfl) ?_
  refine WS.mv rfl rfl ?_
  refine WS.c (One.ld rfl (ld_of hcn2 rfl) rfl ?_)
  refine WS.c (One.bin rfl rfl bin_leq rfl ?_)
  refine WS.c (One.call rfl rfl (spec161 hsm161 _ _ _ 4) rfl ?_ (by
    intro v H' nx' h
    obtain ⟨hno, rfl, rfl, rfl⟩ := h
    have hm : ¬ t.toNat ≤ n := by omega
    exact .inl ⟨rfl, by simp only [shE, if_true, if_neg hm]; decide, by simp only [shE, if_true, if_neg hm], ⟨_, hro2⟩, hS2, hB2, hn2⟩))
  rintro _ _ _ ⟨hmost, rfl, rfl⟩
  have hm : t.toNat ≤ n := by omega
  refine WS.nil ?_
  refine WC.seqR (xs := [oq 13 (.l (.ld none (.t 0))),
      om 14 (.t 3),
      oq 15 (.call (.v (.func (.func 93) #[] #[])) [(.t 13), (.t 14)]),
      om 2 (.t 15)]) (by kernel_rfl) ?_
  refine WS.c (One.ld rfl (ld_of hcr2 rfl) rfl ?_)
  refine WS.mv rfl rfl ?_
  refine WS.c (One.call rfl rfl (spec93 hsm93 hsm161 _ _ r b 0 t.toNat rs hR2 hB2 (by omega)) rfl ?_ (by
    intro v H' nx' h
    obtain ⟨hlt, rfl, rfl, rfl⟩ := h
    have hm2 : ¬ t.toNat ≤ rs.length := by omega
    exact .inl ⟨rfl, by simp only [shE, if_true, if_pos hm, if_neg hm2]; decide, by simp only [shE, if_true, if_pos hm, if_neg hm2], ⟨_, hro2⟩, hS2, hB2, hn2⟩))
  rintro v3 H3 n3 ⟨hle3, hg3, hR3, hS3, hB3, hn3⟩
  refine WS.mv rfl rfl ?_
  refine WS.nil ?_
  refine WC.ret ?_
  simp only [shE, shO, shR, if_true, if_pos hm, if_pos hle3]
  exact EndOk.now rfl rfl ⟨trivial, by rw [List.length_take, Nat.min_eq_left hle3]; exact hg3.le hn2, hR3, HSub.delT hS2 hS3, hB3, by omega⟩
theorem spec168 (hsm : sm 168 = none) (hsm239 : sm 239 = none) (hsm164 : sm 164 = none) (hsm236 : sm 236 = none) (hsm93 : sm 93 = none) (hsm161 : sm 161 = none) (H : Hp) (nx r b e n : Nat) (rest : List UInt8) (hR : WR H r b rest e) (hH : HB H nx) (hn : n ≤ 1073741824) : FnOk (envS sm) 168 [.pointer (some ⟨r, 0, none⟩), .int .i64 (n : Int)] H nx (fun v H' nx' => GS H' v (rawO rest e n).length (strCells (rawO rest e n)) 5 1 nx nx' ∧ WR H' r b (rawR rest e n) (rawE rest e n) ∧ HSub (del H r) H' ∧ HB H' nx' ∧ nx ≤ nx') (fun _ _ _ => False) := by
  refine FnOk.of (fn := Tryz.f168) hsm rfl rfl rfl ?_
  have hrn := hR.lt hH
  have hbn := hR.ltb hH
  have hSA : HSub H (upd (upd H nx (.cells [.pointer (some ⟨r, 0, none⟩)] 108 0)) (nx + 1) (.cells [.int .i64 (n : Int)] 3 0)) := HSub.new hH (by omega) (HSub.new hH (Nat.le_refl _) (HSub.refl H))
  have hBA : HB (upd (upd H nx (.cells [.pointer (some ⟨r, 0, none⟩)] 108 0)) (nx + 1) (.cells [.int .i64 (n : Int)] 3 0)) (nx + 1 + 1) := hH.new.new
  have hcr : (upd (upd H nx (.cells [.pointer (some ⟨r, 0, none⟩)] 108 0)) (nx + 1) (.cells [.int .i64 (n : Int)] 3 0)) nx = some (.cells [.pointer (some ⟨r, 0, none⟩)] 108 0) := (upd_ne (by omega)).trans upd_eq
  refine WC.seqR (xs := [oq 2 (.m (.box 108 (.t 0))),
      oq 3 (.m (.box 3 (.t 1))),
      om 4 (.v (.slice none 0 0))]) (by kernel_rfl) ?_
  refine WS.c (One.box rfl rfl rfl ?_)
  refine WS.c (One.box rfl rfl rfl ?_)
  refine WS.mv rfl rfl ?_
  refine WS.nil ?_
  refine WC.seqR (xs := [oq 5 (.l (.ld none (.t 2))),
      oq 6 (.p (.mkF (.func 239) [] [(.t 2), (.t 3)])),
      oq 7 (.call (.v (.func (.func 164) #[] #[])) [(.t 5), (.t 6)]),
      om 4 (.t 7)]) (by kernel_rfl) ?_
  refine WS.c (One.ld rfl (ld_of hcr rfl) rfl ?_)
  refine WS.c (One.mkF rfl rfl rfl ?_)
  refine WS.c (One.call rfl rfl (spec164 hsm164 hsm236 _ _ r b e (2) 239 _ rest (rest.take n) (rest.drop n) (n ≤ rest.length) (hR.mono hSA) hBA (fun he A m hAS hAB hAn => (spec239 hsm239 hsm93 hsm161 A m r b nx (nx + 1) n rest (he ▸ (hR.mono hSA).mono hAS) (hAS _ _ hcr) (hAS _ _ upd_eq) hAB hn))) rfl ?_ (fun _ _ _ h => h.elim))
  rintro v2 H2 n2 ⟨ot, rs, er, hg, hR2, hS2, hB2, hn2, hcase⟩
  refine WS.mv rfl rfl ?_
  refine WS.nil ?_
  refine WC.ret ?_
  have key : ot = rawO rest e n ∧ rs = rawR rest e n ∧ er = rawE rest e n := by
    unfold rawO rawR rawE
    rcases hcase with ⟨h1, h2, h3, h4, h5⟩ | ⟨h1, h2, h3, h4, h5⟩ | ⟨h1, h3, h4, h5⟩
    · simp only [if_pos h1, if_pos h2]; exact ⟨h3, h4, h5⟩
    · simp only [if_pos h1, if_neg h2]; exact ⟨h3, h4, h5⟩
    · simp only [if_neg h1]; exact ⟨h3, h4, h5⟩
  obtain ⟨rfl, rfl, rfl⟩ := key
  exact EndOk.now rfl rfl ⟨hg.le (by omega), hR2, HSub.delT (HSub.new hH.del (by omega) (HSub.new hH.del (Nat.le_refl _) (HSub.delL H r))) hS2, hB2, by omega⟩
theorem spec99 (hsm : sm 99 = none) (hsm165 : sm 165 = none) (hsm164 : sm 164 = none) (hsm236 : sm 236 = none) (hsm93 : sm 93 = none) (hsm161 : sm 161 = none) (H : Hp) (nx r b e n : Nat) (rest : List UInt8) (hR : WR H r b rest e) (hH : HB H nx) (hn : n ≤ 1073741824) : FnOk (envS sm) 99 [.pointer (some ⟨r, 0, none⟩), .int .i64 (n : Int)] H nx (fun v H' nx' => GS H' v (shO rest e n).length (strCells (shO rest e n)) 5 1 nx nx' ∧ WR H' r b (shR rest e n) (shE rest e n) ∧ HSub (del H r) H' ∧ HB H' nx' ∧ nx ≤ nx') (fun _ _ _ => False) := by
  refine FnOk.of (fn := Tryz.f99) hsm rfl rfl rfl ?_
  have hrn := hR.lt hH
  have hbn := hR.ltb hH
  have hSA : HSub H (upd (upd H nx (.cells [.pointer (some ⟨r, 0, none⟩)] 108 0)) (nx + 1) (.cells [.int .i64 (n : Int)] 3 0)) := HSub.new hH (by omega) (HSub.new hH (Nat.le_refl _) (HSub.refl H))
  have hBA : HB (upd (upd H nx (.cells [.pointer (some ⟨r, 0, none⟩)] 108 0)) (nx + 1) (.cells [.int .i64 (n : Int)] 3 0)) (nx + 1 + 1) := hH.new.new
  have hcr : (upd (upd H nx (.cells [.pointer (some ⟨r, 0, none⟩)] 108 0)) (nx + 1) (.cells [.int .i64 (n : Int)] 3 0)) nx = some (.cells [.pointer (some ⟨r, 0, none⟩)] 108 0) := (upd_ne (by omega)).trans upd_eq
  refine WC.seqR (xs := [oq 2 (.m (.box 108 (.t 0))),
      oq 3 (.m (.box 3 (.t 1))),
      om 4 (.v (.slice none 0 0))]) (by kernel_rfl) ?_
  refine WS.c (One.box rfl rfl rfl ?_)
  refine WS.c (One.box rfl rfl rfl ?_)
  refine WS.mv rfl rfl ?_
  refine WS.nil ?_
  refine WC.seqR (xs := [oq 5 (.l (.ld none (.t 2))),
      oq 6 (.p (.mkF (.func 165) [] [(.t 2), (.t 3)])),
      oq 7 (.call (.v (.func (.func 164) #[] #[])) [(.t 5), (.t 6)]),
      om 4 (.t 7)]) (by kernel_rfl) ?_
  refine WS.c (One.ld rfl (ld_of hcr rfl) rfl ?_)
  refine WS.c (One.mkF rfl rfl rfl ?_)
  refine WS.c (One.call rfl rfl (spec164 hsm164 hsm236 _ _ r b e (shE rest 0 n) 165 _ rest (shO rest 0 n) (shR rest 0 n) (shE rest 0 n = 0) (hR.mono hSA) hBA (fun he A m hAS hAB hAn => (spec165 hsm165 hsm93 hsm161 A m r b nx (nx + 1) n rest (he ▸ (hR.mono hSA).mono hAS) (hAS _ _ hcr) (hAS _ _ upd_eq) hAB (by omega) (by omega)))) rfl ?_ (fun _ _ _ h => h.elim))
  rintro v2 H2 n2 ⟨ot, rs, er, hg, hR2, hS2, hB2, hn2, hcase⟩
  refine WS.mv rfl rfl ?_
  refine WS.nil ?_
  refine WC.ret ?_
  have key : ot = shO rest e n ∧ rs = shR rest e n ∧ er = shE rest e n := by
    rcases hcase with ⟨h1, h2, h3, h4, h5⟩ | ⟨h1, h2, h3, h4, h5⟩ | ⟨h1, h3, h4, h5⟩
    · subst h1; exact ⟨h3, h4, h5.trans h2.symm⟩
    · subst h1; obtain ⟨k1, k2⟩ := sh_bad h2; exact ⟨h3.trans k1.symm, h4.trans k2.symm, h5⟩
    · unfold shO shR shE; simp only [if_neg h1]; exact ⟨h3, h4, h5⟩
  obtain ⟨rfl, rfl, rfl⟩ := key
  exact EndOk.now rfl rfl ⟨hg.le (by omega), hR2, HSub.delT (HSub.new hH.del (by omega) (HSub.new hH.del (Nat.le_refl _) (HSub.delL H r))) hS2, hB2, by omega⟩
theorem spec167 (hsm : sm 167 = none) (H : Hp) (nx r b e : Nat) (rest : List UInt8) (hR : WR H r b rest e) : FnOk (envS sm) 167 [.pointer (some ⟨r, 0, none⟩)] H nx (fun v H' nx' => v = .int .i64 (rest.length : Int) ∧ H = H' ∧ nx = nx') (fun _ _ _ => False) := by
  refine FnOk.of (fn := Tryz.f167) hsm rfl rfl rfl ?_
  obtain ⟨p0, c0, hro⟩ := hR.obj
  refine WC.seqR (xs := [om 2 (.v (.int .i64 0))]) (by kernel_rfl) ?_
  refine WS.mv rfl rfl ?_
  refine WS.nil ?_
  refine WC.seqR (xs := [om 3 (.t 0),
      oq 4 (.p (.nilc (.t 3))),
      oq 5 (.p (.fad (.t 4) 0)),
      oq 6 (.l (.ld none (.t 5))),
      oq 7 (.p (.len (.t 6))),
      om 2 (.t 7)]) (by kernel_rfl) ?_
  refine WS.mv rfl rfl ?_
  refine WS.c (One.nilc rfl rfl ?_)
  refine WS.c (One.fad rfl rfl ?_)
  refine WS.c (One.ld rfl (ld_of hro rfl) rfl ?_)
  refine WS.c (One.len rfl rfl ?_)
  refine WS.mv rfl rfl ?_
  refine WS.nil ?_
  refine WC.ret ?_
  exact EndOk.now rfl rfl ⟨rfl, rfl, rfl⟩
theorem spec101 (hsm : sm 101 = none) (H : Hp) (nx r b e : Nat) (rest : List UInt8) (hR : WR H r b rest e) : FnOk (envS sm) 101 [.pointer (some ⟨r, 0, none⟩)] H nx (fun v H' nx' => v = .int .i64 (e : Int) ∧ H = H' ∧ nx = nx') (fun _ _ _ => False) := by
  refine FnOk.of (fn := Tryz.f101) hsm rfl rfl rfl ?_
  obtain ⟨p0, c0, hro⟩ := hR.obj
  refine WC.seqR (xs := [om 2 (.v (.int .i64 0))]) (by kernel_rfl) ?_
  refine WS.mv rfl rfl ?_
  refine WS.nil ?_
  refine WC.seqR (xs := [om 3 (.t 0),
      oq 4 (.p (.nilc (.t 3))),
      oq 5 (.p (.fad (.t 4) 1)),
      oq 6 (.l (.ld none (.t 5))),
      om 2 (.t 6)]) (by kernel_rfl) ?_
  refine WS.mv rfl rfl ?_
  refine WS.c (One.nilc rfl rfl ?_)
  refine WS.c (One.fad rfl rfl ?_)
  refine WS.c (One.ld rfl (ld_of hro rfl) rfl ?_)
  refine WS.mv rfl rfl ?_
  refine WS.nil ?_
  refine WC.ret ?_
  exact EndOk.now rfl rfl ⟨rfl, rfl, rfl⟩
theorem spec47 (hsm : sm 47 = none) (H : Hp) (nx r b e : Nat) (rest : List UInt8) (hR : WR H r b rest e) : FnOk (envS sm) 47 [.pointer (some ⟨r, 0, none⟩)] H nx (fun v H' nx' => v = .int .i64 ((if e = 0 then (if rest = [] then 0 else 3) else e : Nat) : Int) ∧ H = H' ∧ nx = nx') (fun _ _ _ => False) := by
  refine FnOk.of (fn := Tryz.f47) hsm rfl rfl rfl ?_
  obtain ⟨p0, c0, hro⟩ := hR.obj
  refine WC.seqR (xs := [om 2 (.v (.int .i64 0))]) (by kernel_rfl) ?_
  refine WS.mv rfl rfl ?_
  refine WS.nil ?_
  refine WC.seq ?_
  refine WC.seqR (xs := [om 3 (.t 0),
      oq 4 (.p (.nilc (.t 3))),
      oq 5 (.p (.fad (.t 4) 1)),
      oq 6 (.l (.ld none (.t 5))),
      oq 7 (.p (.bin .eql .other true (.t 6) (.v (.int .i64 0)))),
      om 8 (.t 7),
      ⟨(some (8, true)), (some (9, 9)), .p (.mv (.t 0))⟩,
      ⟨(some (8, true)), (some (10, 10)), .p (.nilc (.t 9))⟩,
      ⟨(some (8, true)), (some (11, 11)), .p (.fad (.t 10) 0)⟩,
      ⟨(some (8, true)), (some (12, 12)), .l (.ld none (.t 11))⟩,
      ⟨(some (8, true)), (some (13, 13)), .p (.len (.t 12))⟩,
      ⟨(some (8, true)), (some (14, 14)), .p (.bin .gtr .other true (.t 13) (.v (.int .i64 0)))⟩,
      oq 15 (.p (.pick (.t 8) (.t 14) (.v (.bool false))))]) (by kernel_rfl) ?_
  refine WS.mv rfl rfl ?_
  refine WS.c (One.nilc rfl rfl ?_)
  refine WS.c (One.fad rfl rfl ?_)
  refine WS.c (One.ld rfl (ld_of hro rfl) rfl ?_)
  refine WS.c (One.bin rfl rfl bin_eql rfl ?_)
  refine WS.mv rfl rfl ?_
  refine WS.split (t := 8) rfl (fun hg1 => ?_) (fun hg1 => ?_)
  · refine WS.c (One.gPT rfl hg1 (One.mv rfl rfl ?_))
    refine WS.c (One.gPT rfl hg1 (One.nilc rfl rfl ?_))
    refine WS.c (One.gPT rfl hg1 (One.fad rfl rfl ?_))
    refine WS.c (One.gPT rfl hg1 (One.ld rfl (ld_of hro rfl) rfl ?_))
    refine WS.c (One.gPT rfl hg1 (One.len rfl rfl ?_))
    refine WS.c (One.gPT rfl hg1 (One.bin rfl rfl bin_gtr rfl ?_))
    refine WS.c (One.pickT rfl hg1 rfl rfl ?_)
    refine WS.nil ?_
    refine WC.cond rfl (fun hc2 => ?_) (fun hc2 => ?_)
    · refine WC.seqR (xs := [om 2 (.v (.int .i64 3))]) (by kernel_rfl) ?_
      refine WS.mv rfl rfl ?_
      refine WS.nil ?_
      refine WC.ret ?_
      first
      | exact EndOk.now rfl rfl ⟨by rw [if_pos (by omega), if_neg (by intro h; subst h; simp at *)]; rfl, rfl, rfl⟩
      | exact EndOk.now rfl rfl ⟨by rw [if_neg (by omega)]; rfl, rfl, rfl⟩
      | (have h0 : rest = [] := List.eq_nil_of_length_eq_zero (by omega)
         have he : e = 0 := by omega
         subst he
         exact EndOk.now rfl rfl ⟨by rw [if_pos rfl, if_pos h0]; rfl, rfl, rfl⟩)
    · refine WC.skip ?_
      refine WC.seqR (xs := [om 16 (.t 0),
          oq 17 (.p (.nilc (.t 16))),
          oq 18 (.p (.fad (.t 17) 1)),
          oq 19 (.l (.ld none (.t 18))),
          om 2 (.t 19)]) (by kernel_rfl) ?_
      refine WS.mv rfl rfl ?_
      refine WS.c (One.nilc rfl rfl ?_)
      refine WS.c (One.fad rfl rfl ?_)
      refine WS.c (One.ld rfl (ld_of hro rfl) rfl ?_)
      refine WS.mv rfl rfl ?_
      refine WS.nil ?_
      refine WC.ret ?_
      first
      | exact EndOk.now rfl rfl ⟨by rw [if_pos (by omega), if_neg (by intro h; subst h; simp at *)]; rfl, rfl, rfl⟩
      | exact EndOk.now rfl rfl ⟨by rw [if_neg (by omega)]; rfl, rfl, rfl⟩
      | (have h0 : rest = [] := List.eq_nil_of_length_eq_zero (by omega)
         have he : e = 0 := by omega
         subst he
         exact EndOk.now rfl rfl ⟨by rw [if_pos rfl, if_pos h0]; rfl, rfl, rfl⟩)
  · refine WS.c (One.gPF rfl hg1 rfl ?_)
    refine WS.c (One.gPF rfl hg1 rfl ?_)
    refine WS.c (One.gPF rfl hg1 rfl ?_)
    refine WS.c (One.gPF rfl hg1 rfl ?_)
    refine WS.c (One.gPF rfl hg1 rfl ?_)
    refine WS.c (One.gPF rfl hg1 rfl ?_)
    refine WS.c (One.pickF rfl hg1 rfl rfl ?_)
    refine WS.nil ?_
    refine WC.condB rfl (fun h => nomatch h) (fun _ => ?_)
    refine WC.skip ?_
    refine WC.seqR (xs := [om 16 (.t 0),
        oq 17 (.p (.nilc (.t 16))),
        oq 18 (.p (.fad (.t 17) 1)),
        oq 19 (.l (.ld none (.t 18))),
        om 2 (.t 19)]) (by kernel_rfl) ?_
    refine WS.mv rfl rfl ?_
    refine WS.c (One.nilc rfl rfl ?_)
    refine WS.c (One.fad rfl rfl ?_)
    refine WS.c (One.ld rfl (ld_of hro rfl) rfl ?_)
    refine WS.mv rfl rfl ?_
    refine WS.nil ?_
    refine WC.ret ?_
    first
    | exact EndOk.now rfl rfl ⟨by rw [if_pos (by omega), if_neg (by intro h; subst h; simp at *)]; rfl, rfl, rfl⟩
    | exact EndOk.now rfl rfl ⟨by rw [if_neg (by omega)]; rfl, rfl, rfl⟩
    | (have h0 : rest = [] := List.eq_nil_of_length_eq_zero (by omega)
       have he : e = 0 := by omega
       subst he
       exact EndOk.now rfl rfl ⟨by rw [if_pos rfl, if_pos h0]; rfl, rfl, rfl⟩)
end Go.Proofs
end
section
namespace Go.Proofs
open Go.Eng
variable {sm : Nat → Option (List Value → St → Option (Value × St))}
theorem bytesE_bs {H : Hp} {a : Option Addr} {l : List UInt8} {c : Nat} (h : BS H a l) : bytesE H (.slice a l.length c) = some l := by
 cases l with
 | nil =>
  cases a with
  | none => rfl
  | some a =>
   have := h.sp a rfl
   obtain ⟨b, o, sp⟩ := a
   simp only at this; subst this; rfl
 | cons x r =>
  obtain ⟨b, o, cs, e, el, rfl, h2, h3, h4⟩ := h.row (by simp)
  have hr : Eng.rdR H b o (x :: r).length = some (strCells (x :: r)) := by simp only [Eng.rdR, h2, if_pos h3, h4]
  simp only [bytesE, hr, bytesL_str]; rfl
theorem spec44s (hsm44 : sm 44 = none) (hsm96 : sm 96 = none) (hsm163 : sm 163 = none) (hsm97 : sm 97 = none) (hsm98 : sm 98 = none) (hsm93 : sm 93 = none) (hsm161 : sm 161 = none) (H : Hp) (nx r b : Nat) (s : RS) (hR : WR H r b s.1 s.2) (hH : HB H nx) : FnOk (envS sm) 44 [.pointer (some ⟨r, 0, none⟩)] H nx (fun v H' nx' => v = .int .u8 (gV s 1 : Nat) ∧ WR H' r b (gS s 1).1 (gS s 1).2 ∧ HSub (del H r) H' ∧ HB H' nx' ∧ nx ≤ nx') (fun _ _ _ => False) := spec44 hsm44 hsm96 hsm163 hsm97 hsm98 hsm93 hsm161 H nx r b s.2 s.1 hR hH
theorem spec166s (hsm166 : sm 166 = none) (hsm237 : sm 237 = none) (hsm318 : sm 318 = none) (hsm238 : sm 238 = none) (hsm227 : sm 227 = none) (hsm93 : sm 93 = none) (hsm161 : sm 161 = none) (H : Hp) (nx r b : Nat) (s : RS) (hR : WR H r b s.1 s.2) (hH : HB H nx) : FnOk (envS sm) 166 [.pointer (some ⟨r, 0, none⟩)] H nx (fun v H' nx' => v = .int .u16 (gV s 2 : Nat) ∧ WR H' r b (gS s 2).1 (gS s 2).2 ∧ HSub (del H r) H' ∧ HB H' nx' ∧ nx ≤ nx') (fun _ _ _ => False) := spec166 hsm166 hsm237 hsm318 hsm238 hsm227 hsm93 hsm161 H nx r b s.2 s.1 hR hH
theorem spec41s (hsm41 : sm 41 = none) (hsm91 : sm 91 = none) (hsm160 : sm 160 = none) (hsm92 : sm 92 = none) (hsm94 : sm 94 = none) (hsm93 : sm 93 = none) (hsm161 : sm 161 = none) (H : Hp) (nx r b : Nat) (s : RS) (hR : WR H r b s.1 s.2) (hH : HB H nx) : FnOk (envS sm) 41 [.pointer (some ⟨r, 0, none⟩)] H nx (fun v H' nx' => v = .int .u32 (gV s 4 : Nat) ∧ WR H' r b (gS s 4).1 (gS s 4).2 ∧ HSub (del H r) H' ∧ HB H' nx' ∧ nx ≤ nx') (fun _ _ _ => False) := spec41 hsm41 hsm91 hsm160 hsm92 hsm94 hsm93 hsm161 H nx r b s.2 s.1 hR hH
theorem spec100 (hsm : sm 100 = none) (hsm167 : sm 167 = none) (hsm166 : sm 166 = none) (hsm237 : sm 237 = none) (hsm318 : sm 318 = none) (hsm238 : sm 238 = none) (hsm227 : sm 227 = none) (hsm168 : sm 168 = none) (hsm239 : sm 239 = none) (hsm164 : sm 164 = none) (hsm236 : sm 236 = none) (hsm93 : sm 93 = none) (hsm161 : sm 161 = none) (H : Hp) (nx r b : Nat) (s : RS) (hR : WR H r b s.1 s.2) (hH : HB H nx) : FnOk (envS sm) 100 [.agg ⟨[.pointer (some ⟨r, 0, none⟩)]⟩] H nx (fun v H' nx' => GS H' v (vlV true s).length (strCells (vlV true s)) 5 1 nx nx' ∧ WR H' r b (vlS true s).1 (vlS true s).2 ∧ HSub (del H r) H' ∧ HB H' nx' ∧ nx ≤ nx') (fun _ _ _ => False) := by
 refine FnOk.of (fn := Tryz.f100) hsm rfl rfl rfl ?_
 have hrn := hR.lt hH
 have hbn := hR.ltb hH
 have k2 := gV2 s
 refine WC.seqR (xs := [oq 1 (.m (.box 112 (.t 0))),
   om 2 (.v (.slice none 0 0))]) (by kernel_rfl) ?_
 refine WS.c (One.box rfl rfl rfl ?_)
 refine WS.mv rfl rfl ?_
 refine WS.nil ?_
 refine WC.seqR (xs := [oq 4 (.p (.fad (.t 1) 0)),
   oq 5 (.l (.ld none (.t 4))),
   oq 6 (.call (.v (.func (.func 166) #[] #[])) [(.t 5)]),
   oq 7 (.p (.cvI .i64 (.t 6))),
   om 3 (.t 7)]) (by kernel_rfl) ?_
 refine WS.c (One.fad rfl rfl ?_)
 refine WS.c (One.ld rfl (by first | exact ld_same rfl | (refine ld_skip (by omega) ?_; exact ld_same rfl) | assumption) rfl ?_)
 refine WS.c (One.call rfl rfl (spec166s hsm166 hsm237 hsm318 hsm238 hsm227 hsm93 hsm161 _ _ r b s (hR.upd (by omega) (by omega)) hH.new) rfl ?_ (fun _ _ _ h => h.elim))
 rintro _ H2 n2 ⟨rfl, hR2, hS2, hB2, hn2⟩
 have hbx := del_at hS2 upd_eq (show nx ≠ r by omega)
 refine WS.c (One.cvI rfl (wrap_i64 (by omega) (by omega)) rfl ?_)
 refine WS.mv rfl rfl ?_
 refine WS.nil ?_
 refine WC.seq ?_
 refine WC.seqR (xs := [om 8 (.t 3),
   oq 9 (.p (.bin .gtr .other true (.t 8) (.v (.int .i64 3840))))]) (by kernel_rfl) ?_
 refine WS.mv rfl rfl ?_
 refine WS.c (One.bin rfl rfl bin_gtr rfl ?_)
 refine WS.nil ?_
 refine WC.cond rfl (fun hc1 => ?_) (fun hc1 => ?_)
 ·have hN : vlN true s = (gS s 2).1.length + 1 := by unfold vlN; rw [show Nat.blt 3840 (gV s 2) = true from Nat.ble_eq_true_of_le (by omega)]; rfl
  refine WC.region (xs := [oq 10 (.p (.fad (.t 1) 0)),
    oq 11 (.l (.ld none (.t 10))),
    oq 12 (.call (.v (.func (.func 167) #[] #[])) [(.t 11)]),
    oq 13 (.p (.bin .add .other true (.t 12) (.v (.int .i64 1)))),
    om 3 (.t 13)]) (by kernel_rfl) ?_
  refine WS.c (One.fad rfl rfl ?_)
  refine WS.c (One.ld rfl (ld_of (o := 0) (v := .pointer (some ⟨r, 0, none⟩)) hbx rfl) rfl ?_)
  refine WS.c (One.call rfl rfl (spec167 hsm167 _ _ r b _ _ hR2) rfl ?_ (fun _ _ _ h => h.elim))
  rintro _ _ _ ⟨rfl, rfl, rfl⟩
  have hlen2 := hR2.len
  refine WS.c (One.bin rfl rfl (bin_add64 (by omega) (by omega)) rfl ?_)
  refine WS.mv rfl rfl ?_
  refine WS.nil ?_
  refine WC.seqR (xs := [oq 14 (.p (.fad (.t 1) 0)),
    oq 15 (.l (.ld none (.t 14))),
    om 16 (.t 3),
    oq 17 (.call (.v (.func (.func 168) #[] #[])) [(.t 15), (.t 16)]),
    om 2 (.t 17)]) (by kernel_rfl) ?_
  refine WS.c (One.fad rfl rfl ?_)
  refine WS.c (One.ld rfl (ld_of (o := 0) (v := .pointer (some ⟨r, 0, none⟩)) hbx rfl) rfl ?_)
  refine WS.mv rfl rfl ?_
  refine WS.c (One.call rfl rfl (spec168 hsm168 hsm239 hsm164 hsm236 hsm93 hsm161 _ _ r b _ ((gS s 2).1.length + 1) _ hR2 hB2 (by have := hR2.len; omega)) rfl ?_ (fun _ _ _ h => h.elim))
  rintro v3 H3 n3 ⟨hg3, hR3, hS3, hB3, hn3⟩
  refine WS.mv rfl rfl ?_
  refine WS.nil ?_
  refine WC.ret ?_
  exact EndOk.now rfl rfl ⟨(by unfold vlV raV; rw [hN]; exact hg3.le (by omega)), (by unfold vlS raS; rw [hN]; exact hR3), HSub.delT (HSub.delT (HSub.new hH.del (Nat.le_refl _) (HSub.delL H r)) hS2) hS3, hB3, by omega⟩
 ·have hN : vlN true s = gV s 2 := by unfold vlN; rw [show Nat.blt 3840 (gV s 2) = false from Bool.eq_false_iff.2 (fun h => by have := Nat.le_of_ble_eq_true h; omega)]; rfl
  refine WC.skip ?_
  refine WC.seqR (xs := [oq 14 (.p (.fad (.t 1) 0)),
    oq 15 (.l (.ld none (.t 14))),
    om 16 (.t 3),
    oq 17 (.call (.v (.func (.func 168) #[] #[])) [(.t 15), (.t 16)]),
    om 2 (.t 17)]) (by kernel_rfl) ?_
  refine WS.c (One.fad rfl rfl ?_)
  refine WS.c (One.ld rfl (ld_of (o := 0) (v := .pointer (some ⟨r, 0, none⟩)) hbx rfl) rfl ?_)
  refine WS.mv rfl rfl ?_
  refine WS.c (One.call rfl rfl (spec168 hsm168 hsm239 hsm164 hsm236 hsm93 hsm161 _ _ r b _ (gV s 2) _ hR2 hB2 (by have := hR2.len; omega)) rfl ?_ (fun _ _ _ h => h.elim))
  rintro v3 H3 n3 ⟨hg3, hR3, hS3, hB3, hn3⟩
  refine WS.mv rfl rfl ?_
  refine WS.nil ?_
  refine WC.ret ?_
  exact EndOk.now rfl rfl ⟨(by unfold vlV raV; rw [hN]; exact hg3.le (by omega)), (by unfold vlS raS; rw [hN]; exact hR3), HSub.delT (HSub.delT (HSub.new hH.del (Nat.le_refl _) (HSub.delL H r)) hS2) hS3, hB3, by omega⟩
theorem spec169 (hsm : sm 169 = none) (H : Hp) (nx : Nat) (a b : Option Addr) (la lb : List UInt8) (ca cb : Nat) (ha : BS H a la) (hb : BS H b lb) : FnOk (envS sm) 169 [.slice a la.length ca, .slice b lb.length cb] H nx (fun v H' nx' => v = .int .i64 (cmpU la lb) ∧ H = H' ∧ nx = nx') (fun _ _ _ => False) := by
 refine FnOk.of (fn := Tryz.f169) hsm rfl rfl rfl ?_
 refine WC.seqR (xs := [om 4 (.v (.int .i64 0))]) (by kernel_rfl) ?_
 refine WS.mv rfl rfl ?_
 refine WS.nil ?_
 refine WC.seqR (xs := [om 5 (.t 0),
   om 6 (.t 1),
   oq 7 (.l (.cmp (.t 5) (.t 6))),
   om 4 (.t 7)]) (by kernel_rfl) ?_
 refine WS.mv rfl rfl ?_
 refine WS.mv rfl rfl ?_
 refine WS.c (One.cmp rfl rfl (bytesE_bs ha) (bytesE_bs hb) rfl ?_)
 refine WS.mv rfl rfl ?_
 refine WS.nil ?_
 refine WC.ret ?_
 exact EndOk.now rfl rfl ⟨rfl, rfl, rfl⟩
theorem spec102 (hsm : sm 102 = none) (hsm169 : sm 169 = none) (H : Hp) (nx : Nat) (a b : Option Addr) (la lb : List UInt8) (ca cb : Nat) (ha : BS H a la) (hb : BS H b lb) : FnOk (envS sm) 102 [.slice a la.length ca, .slice b lb.length cb] H nx (fun v H' nx' => v = .int .i64 (cmpU la lb) ∧ H = H' ∧ nx = nx') (fun _ _ _ => False) := by
 refine FnOk.of (fn := Tryz.f102) hsm rfl rfl rfl ?_
 refine WC.seqR (xs := [om 4 (.v (.int .i64 0))]) (by kernel_rfl) ?_
 refine WS.mv rfl rfl ?_
 refine WS.nil ?_
 refine WC.seqR (xs := [om 5 (.t 0),
   om 6 (.t 1),
   oq 7 (.call (.v (.func (.func 169) #[] #[])) [(.t 5), (.t 6)]),
   om 4 (.t 7)]) (by kernel_rfl) ?_
 refine WS.mv rfl rfl ?_
 refine WS.mv rfl rfl ?_
 refine WS.c (One.call rfl rfl (spec169 hsm169 _ _ a b la lb ca cb ha hb) rfl ?_ (fun _ _ _ h => h.elim))
 rintro _ _ _ ⟨rfl, rfl, rfl⟩
 refine WS.mv rfl rfl ?_
 refine WS.nil ?_
 refine WC.ret ?_
 exact EndOk.now rfl rfl ⟨rfl, rfl, rfl⟩
theorem spec40 (hsm : sm 40 = none) (H : Hp) (nx e : Nat) (hH : HB H nx) : FnOk (envS sm) 40 [.int .i64 (e : Int)] H nx (fun v H' nx' => v = .tuple ⟨[.agg ⟨hd0⟩, .slice none 0 0, .int .i64 (e : Int)]⟩ ∧ H = H' ∧ nx' = nx + 1) (fun _ _ _ => False) := by
 refine FnOk.of (fn := Tryz.f40) hsm rfl rfl rfl ?_
 refine WC.seqR (xs := [oq 2 (.m (.alc [(.bool false), (.int .i64 0), (.int .i64 0), (.int .u32 0), (.int .i64 0), (.int .i64 0), (.int .u32 0), (.int .i64 0)] 30)),
   om 3 (.v (.slice none 0 0)),
   om 4 (.v (.int .i64 0))]) (by kernel_rfl) ?_
 refine WS.c (One.alc rfl ?_)
 refine WS.mv rfl rfl ?_
 refine WS.mv rfl rfl ?_
 refine WS.nil ?_
 refine WC.seqR (xs := [oq 5 (.p (.bld [] [(.bool false), (.int .i64 0), (.int .i64 0), (.int .u32 0), (.int .i64 0), (.int .i64 0), (.int .u32 0), (.int .i64 0)])),
   om 6 (.t 0),
   ⟨none, none, .w (.sto 8 (.t 2) (.t 5))⟩,
   om 3 (.v (.slice none 0 0)),
   om 4 (.t 6)]) (by kernel_rfl) ?_
 refine WS.c (One.bld rfl rfl ?_)
 refine WS.mv rfl rfl ?_
 refine WS.z (One.sto (cs' := hd0) rfl rfl upd_eq rfl rfl rfl rfl ?_)
 refine WS.mv rfl rfl ?_
 refine WS.mv rfl rfl ?_
 refine WS.nil ?_
 refine WC.ret ?_
 exact EndOk.less rfl (resE_cell rfl (by kernel_rfl) (ld_sameA (m := 8) (l := hd0) (Nat.le_refl 8) rfl) rfl) (HSub.new hH (Nat.le_refl _) (HSub.new hH (Nat.le_refl _) (HSub.refl H))) ⟨rfl, rfl, rfl⟩
theorem spec45 (hsm : sm 45 = none) (hsm41 : sm 41 = none) (hsm91 : sm 91 = none) (hsm160 : sm 160 = none) (hsm92 : sm 92 = none) (hsm94 : sm 94 = none) (hsm93 : sm 93 = none) (hsm161 : sm 161 = none) (H : Hp) (nx r b : Nat) (s : RS) (hR : WR H r b s.1 s.2) (hH : HB H nx) : FnOk (envS sm) 45 [.agg ⟨[.pointer (some ⟨r, 0, none⟩)]⟩] H nx (fun v H' nx' => v = .tuple ⟨[.agg ⟨mkC s⟩, .bool (decide (mkOk s))]⟩ ∧ WR H' r b (mkS s).1 (mkS s).2 ∧ HSub (del H r) H' ∧ HB H' nx' ∧ nx ≤ nx') (fun _ _ _ => False) := by
 refine FnOk.of (fn := Tryz.f45) hsm rfl rfl rfl ?_
 have hrn := hR.lt hH
 have hbn := hR.ltb hH
 have k1 := gV4 s
 have k2 := gV4 (gS s 4)
 have k3 := gV4 (gS (gS s 4) 4)
 refine WC.seqR (xs := [oq 1 (.m (.box 112 (.t 0))),
   oq 2 (.m (.alc [(.int .i64 0), (.int .i64 0), (.int .u32 0)] 28)),
   om 3 (.v (.bool false))]) (by kernel_rfl) ?_
 refine WS.c (One.box rfl rfl rfl ?_)
 refine WS.c (One.alc rfl ?_)
 refine WS.mv rfl rfl ?_
 refine WS.nil ?_
 refine WC.seqT (l := [oq 6 (.p (.fad (.t 1) 0)),
   oq 7 (.l (.ld none (.t 6))),
   oq 8 (.call (.v (.func (.func 41) #[] #[])) [(.t 7)]),
   oq 9 (.p (.fad (.t 1) 0)),
   oq 10 (.l (.ld none (.t 9))),
   oq 11 (.call (.v (.func (.func 41) #[] #[])) [(.t 10)]),
   om 4 (.t 8),
   om 5 (.t 11)]) (ws := [(0, 0), (0, 0), (0, 1), (0, 1), (0, 1), (1, 2), (2, 2), (2, 2)]) (xs := [(oq 6 (.p (.fad (.t 1) 0)), [1]),
   (oq 7 (.l (.ld none (.t 6))), [6]),
   (oq 8 (.call (.v (.func (.func 41) #[] #[])) [(.t 7)]), [7]),
   (oq 9 (.p (.fad (.t 1) 0)), [1]),
   (oq 10 (.l (.ld none (.t 9))), [9]),
   (oq 11 (.call (.v (.func (.func 41) #[] #[])) [(.t 10)]), [10]),
   (om 4 (.t 8), [8]),
   (om 5 (.t 11), [11])]) (by kernel_rfl) (by kernel_rfl) ?_
 have hR1 : WR (upd (upd H nx (.cells [.pointer (some ⟨r, 0, none⟩)] 112 0)) (nx + 1) (.cells [.int .i64 0, .int .i64 0, .int .u32 0] 28 0)) r b s.1 s.2 := (hR.upd (by omega) (by omega)).upd (by omega) (by omega)
 have hB1 : HB (upd (upd H nx (.cells [.pointer (some ⟨r, 0, none⟩)] 112 0)) (nx + 1) (.cells [.int .i64 0, .int .i64 0, .int .u32 0] 28 0)) (nx + 1 + 1) := hH.new.new
 have hbx1 : (upd (upd H nx (.cells [.pointer (some ⟨r, 0, none⟩)] 112 0)) (nx + 1) (.cells [.int .i64 0, .int .i64 0, .int .u32 0] 28 0)) nx = some (.cells [.pointer (some ⟨r, 0, none⟩)] 112 0) := (upd_ne (by omega)).trans upd_eq
 have hS1 : HSub (del H r) (upd (upd H nx (.cells [.pointer (some ⟨r, 0, none⟩)] 112 0)) (nx + 1) (.cells [.int .i64 0, .int .i64 0, .int .u32 0] 28 0)) := HSub.new hH.del (by omega) (HSub.new hH.del (Nat.le_refl _) (HSub.delL H r))
 refine WD.q rfl (One.fad rfl rfl ⟨rfl, ?_⟩)
 refine WD.r (One.ld rfl (ld_of (o := 0) (v := .pointer (some ⟨r, 0, none⟩)) hbx1 rfl) rfl ⟨_, rfl, ?_⟩)
 refine WD.l rfl (One.call rfl rfl (spec41s hsm41 hsm91 hsm160 hsm92 hsm94 hsm93 hsm161 _ _ r b (s) hR1 hB1) rfl ?_ (fun _ _ _ h => h.elim))
 rintro _ H2 n2 ⟨rfl, hR2, hS2, hB2, hn2⟩
 refine ⟨rfl, ?_⟩
 have hbx2 := del_at hS2 hbx1 (show nx ≠ r by omega)
 refine WD.q rfl (One.fad rfl rfl ⟨rfl, ?_⟩)
 refine WD.r (One.ld rfl (ld_of (o := 0) (v := .pointer (some ⟨r, 0, none⟩)) hbx2 rfl) rfl ⟨_, rfl, ?_⟩)
 refine WD.l rfl (One.call rfl rfl (spec41s hsm41 hsm91 hsm160 hsm92 hsm94 hsm93 hsm161 _ _ r b (gS s 4) hR2 hB2) rfl ?_ (fun _ _ _ h => h.elim))
 rintro _ H3 n3 ⟨rfl, hR3, hS3, hB3, hn3⟩
 refine ⟨rfl, ?_⟩
 have hbx3 := del_at hS3 hbx2 (show nx ≠ r by omega)
 refine WD.q rfl (One.mv rfl rfl ⟨rfl, ?_⟩)
 refine WD.q rfl (One.mv rfl rfl ⟨rfl, ?_⟩)
 refine WD.nil (⟨⟨veq_ptr _ _ _, ld_of (o := 0) (v := .pointer (some ⟨r, 0, none⟩)) hbx1 rfl, ld_of (o := 0) (v := .pointer (some ⟨r, 0, none⟩)) hbx2 rfl, trivial⟩, ⟨veq_ptr _ _ _, ld_of (o := 0) (v := .pointer (some ⟨r, 0, none⟩)) hbx1 rfl, trivial⟩, trivial⟩) ?_
 refine WC.seqR (xs := [om 12 (.t 4),
   oq 13 (.p (.cvI .i64 (.t 12))),
   om 14 (.t 5),
   oq 15 (.p (.cvI .i64 (.t 14))),
   oq 16 (.p (.fad (.t 1) 0)),
   oq 17 (.l (.ld none (.t 16))),
   oq 18 (.call (.v (.func (.func 41) #[] #[])) [(.t 17)]),
   oq 19 (.p (.bld [(0, 1, (.t 13)), (1, 1, (.t 15)), (2, 1, (.t 18))] [(.int .i64 0), (.int .i64 0), (.int .u32 0)])),
   om 20 (.t 4),
   oq 21 (.p (.bin .leq .other true (.t 20) (.v (.int .u32 2147483647)))),
   om 22 (.t 21),
   ⟨(some (22, true)), (some (23, 23)), .p (.mv (.t 5))⟩,
   ⟨(some (22, true)), (some (24, 24)), .p (.bin .leq .other true (.t 23) (.v (.int .u32 2147483647)))⟩,
   oq 25 (.p (.pick (.t 22) (.t 24) (.v (.bool false)))),
   ⟨none, none, .w (.sto 3 (.t 2) (.t 19))⟩,
   om 3 (.t 25)]) (by kernel_rfl) ?_
 refine WS.mv rfl rfl ?_
 refine WS.c (One.cvI rfl (wrap_i64 (by omega) (by omega)) rfl ?_)
 refine WS.mv rfl rfl ?_
 refine WS.c (One.cvI rfl (wrap_i64 (by omega) (by omega)) rfl ?_)
 refine WS.c (One.fad rfl rfl ?_)
 refine WS.c (One.ld rfl (ld_of (o := 0) (v := .pointer (some ⟨r, 0, none⟩)) hbx3 rfl) rfl ?_)
 refine WS.c (One.call rfl rfl (spec41s hsm41 hsm91 hsm160 hsm92 hsm94 hsm93 hsm161 _ _ r b (gS (gS s 4) 4) hR3 hB3) rfl ?_ (fun _ _ _ h => h.elim))
 rintro _ H4 n4 ⟨rfl, hR4, hS4, hB4, hn4⟩
 have hT := HSub.delT (HSub.delT hS2 hS3) hS4
 have hres := del_at hT upd_eq (show nx + 1 ≠ r by omega)
 refine WS.c (One.bld rfl rfl ?_)
 refine WS.mv rfl rfl ?_
 refine WS.c (One.bin rfl rfl bin_leq rfl ?_)
 refine WS.mv rfl rfl ?_
 refine WS.split (t := 22) rfl (fun hg1 => ?_) (fun hg1 => ?_)
 ·refine WS.c (One.gPT rfl hg1 (One.mv rfl rfl ?_))
  refine WS.c (One.gPT rfl hg1 (One.bin rfl rfl bin_leq rfl ?_))
  refine WS.c (One.pickT rfl hg1 rfl rfl ?_)
  refine WS.z (One.sto (cs' := mkC s) rfl rfl hres rfl rfl rfl rfl ?_)
  refine WS.mv rfl rfl ?_
  refine WS.nil ?_
  refine WC.ret ?_
  refine EndOk.now rfl (resE_cell rfl (by kernel_rfl) (ld_sameA (m := 3) (l := mkC s) (by simp [mkC]) rfl) rfl) ⟨?_, hR4.upd (by omega) (by omega), HSub.new hH.del (by omega) (HSub.delT hS1 hT), hB4.upd (by omega), by omega⟩
  first
  | exact congrArg (fun t => Value.tuple ⟨[.agg ⟨mkC s⟩, .bool t]⟩) (decide_eq_decide.2 ⟨fun h => ⟨by omega, by omega⟩, fun h => by have := h.2; omega⟩)
  | exact congrArg (fun t => Value.tuple ⟨[.agg ⟨mkC s⟩, .bool t]⟩) (decide_eq_false (fun h : mkOk s => by have := h.1; omega)).symm
 ·refine WS.c (One.gPF rfl hg1 rfl ?_)
  refine WS.c (One.gPF rfl hg1 rfl ?_)
  refine WS.c (One.pickF rfl hg1 rfl rfl ?_)
  refine WS.z (One.sto (cs' := mkC s) rfl rfl hres rfl rfl rfl rfl ?_)
  refine WS.mv rfl rfl ?_
  refine WS.nil ?_
  refine WC.ret ?_
  refine EndOk.now rfl (resE_cell rfl (by kernel_rfl) (ld_sameA (m := 3) (l := mkC s) (by simp [mkC]) rfl) rfl) ⟨?_, hR4.upd (by omega) (by omega), HSub.new hH.del (by omega) (HSub.delT hS1 hT), hB4.upd (by omega), by omega⟩
  first
  | exact congrArg (fun t => Value.tuple ⟨[.agg ⟨mkC s⟩, .bool t]⟩) (decide_eq_decide.2 ⟨fun h => ⟨by omega, by omega⟩, fun h => by have := h.2; omega⟩)
  | exact congrArg (fun t => Value.tuple ⟨[.agg ⟨mkC s⟩, .bool t]⟩) (decide_eq_false (fun h : mkOk s => by have := h.1; omega)).symm
end Go.Proofs
end
