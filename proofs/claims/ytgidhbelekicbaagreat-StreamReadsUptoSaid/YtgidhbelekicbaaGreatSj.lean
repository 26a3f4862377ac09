/-
  Part of the proof of StreamReadsUptoSaid: Changes compared.
-/
import Derived.Test.YtgidhbelekicbaaGreatSi
set_option linter.unusedVariables false
section
namespace Go.Proofs
open Go.Eng
variable {sm : Nat → Option (List Value → St → Option (Value × St))}
def eqC (c d : Chg) : Prop := c.kind = d.kind ∧ c.key = d.key ∧ c.old = d.old ∧ c.new = d.new
instance (c d : Chg) : Decidable (eqC c d) := inferInstanceAs (Decidable (_ ∧ _))
theorem spec21 (hsm : sm 21 = none) (hsm22 : sm 22 = none) (hsm57 : sm 57 = none) (H : Hp) (nx lo : Nat) (c d : Chg) (v1 v2 v3 w1 w2 w3 : Value) (h1 : SlB H lo v1 c.key) (h2 : SlB H lo v2 c.old) (h3 : SlB H lo v3 c.new) (k1 : SlB H lo w1 d.key) (k2 : SlB H lo w2 d.old) (k3 : SlB H lo w3 d.new) (l1 : c.key.length < 4611686018427387904) (l2 : c.old.length < 4611686018427387904) (l3 : c.new.length < 4611686018427387904) (hH : HB H nx) : FnOk (envS sm) 21 [.agg ⟨chL c v1 v2 v3⟩, .agg ⟨chL d w1 w2 w3⟩] H nx (fun v H' nx' => v = .bool (decide (eqC c d)) ∧ H = H' ∧ nx' = nx + 2) (fun _ _ _ => False) := by
  obtain ⟨a1, c1, rfl, hb1, _⟩ := h1
  obtain ⟨a2, c2, rfl, hb2, _⟩ := h2
  obtain ⟨a3, c3, rfl, hb3, _⟩ := h3
  obtain ⟨b1, d1, rfl, he1, _⟩ := k1
  obtain ⟨b2, d2, rfl, he2, _⟩ := k2
  obtain ⟨b3, d3, rfl, he3, _⟩ := k3
  refine FnOk.of (fn := Tryz.f21) hsm rfl rfl rfl ?_
  have hS2 : HSub H (upd (upd H nx (.cells (chL c (.slice a1 c.key.length c1) (.slice a2 c.old.length c2) (.slice a3 c.new.length c3)) 68 0)) (nx + 1) (.cells (chL d (.slice b1 d.key.length d1) (.slice b2 d.old.length d2) (.slice b3 d.new.length d3)) 68 0)) := HSub.new hH (by omega) (HSub.new hH (Nat.le_refl _) (HSub.refl H))
  have hy : (upd (upd H nx (.cells (chL c (.slice a1 c.key.length c1) (.slice a2 c.old.length c2) (.slice a3 c.new.length c3)) 68 0)) (nx + 1) (.cells (chL d (.slice b1 d.key.length d1) (.slice b2 d.old.length d2) (.slice b3 d.new.length d3)) 68 0)) (nx + 1) = some (.cells (chL d (.slice b1 d.key.length d1) (.slice b2 d.old.length d2) (.slice b3 d.new.length d3)) 68 0) := upd_eq
  have hx : (upd (upd H nx (.cells (chL c (.slice a1 c.key.length c1) (.slice a2 c.old.length c2) (.slice a3 c.new.length c3)) 68 0)) (nx + 1) (.cells (chL d (.slice b1 d.key.length d1) (.slice b2 d.old.length d2) (.slice b3 d.new.length d3)) 68 0)) nx = some (.cells (chL c (.slice a1 c.key.length c1) (.slice a2 c.old.length c2) (.slice a3 c.new.length c3)) 68 0) := (upd_ne (by omega)).trans upd_eq
  refine WC.seqR (xs := [oq 2 (.m (.box 68 (.t 0))),
      oq 3 (.m (.box 68 (.t 1))),
      om 4 (.v (.bool false))]) (by kernel_rfl) ?_
  refine WS.c (One.box rfl rfl rfl ?_)
  refine WS.c (One.box rfl rfl rfl ?_)
  refine WS.mv rfl rfl ?_
  refine WS.nil ?_
  refine WC.seqR (xs := [oq 5 (.p (.fad (.t 2) 0)),
      oq 6 (.l (.ld none (.t 5))),
      oq 7 (.p (.fad (.t 3) 0)),
      oq 8 (.l (.ld none (.t 7))),
      oq 9 (.p (.bin .eql .other false (.t 6) (.t 8))),
      om 10 (.t 9),
      ⟨(some (10, true)), (some (11, 11)), .p (.fad (.t 2) 1)⟩,
      ⟨(some (10, true)), (some (12, 12)), .l (.ld none (.t 11))⟩,
      ⟨(some (10, true)), (some (13, 13)), .p (.fad (.t 3) 1)⟩,
      ⟨(some (10, true)), (some (14, 14)), .l (.ld none (.t 13))⟩,
      ⟨(some (10, true)), (some (15, 15)), .call (.v (.func (.func 22) #[] #[])) [(.t 12), (.t 14)]⟩,
      oq 16 (.p (.pick (.t 10) (.t 15) (.v (.bool false)))),
      om 17 (.t 16),
      ⟨(some (17, true)), (some (18, 18)), .p (.fad (.t 2) 2)⟩,
      ⟨(some (17, true)), (some (19, 19)), .l (.ld none (.t 18))⟩,
      ⟨(some (17, true)), (some (20, 20)), .p (.fad (.t 3) 2)⟩,
      ⟨(some (17, true)), (some (21, 21)), .l (.ld none (.t 20))⟩,
      ⟨(some (17, true)), (some (22, 22)), .call (.v (.func (.func 22) #[] #[])) [(.t 19), (.t 21)]⟩,
      oq 23 (.p (.pick (.t 17) (.t 22) (.v (.bool false)))),
      om 24 (.t 23),
      ⟨(some (24, true)), (some (25, 25)), .p (.fad (.t 2) 3)⟩,
      ⟨(some (24, true)), (some (26, 26)), .l (.ld none (.t 25))⟩,
      ⟨(some (24, true)), (some (27, 27)), .p (.fad (.t 3) 3)⟩,
      ⟨(some (24, true)), (some (28, 28)), .l (.ld none (.t 27))⟩,
      ⟨(some (24, true)), (some (29, 29)), .call (.v (.func (.func 22) #[] #[])) [(.t 26), (.t 28)]⟩,
      oq 30 (.p (.pick (.t 24) (.t 29) (.v (.bool false)))),
      om 4 (.t 30)]) (by kernel_rfl) ?_
  refine WS.c (One.fad rfl rfl ?_)
  refine WS.c (One.ld rfl (ld_of (o := 0) hx rfl) rfl ?_)
  refine WS.c (One.fad rfl rfl ?_)
  refine WS.c (One.ld rfl (ld_of (o := 0) hy rfl) rfl ?_)
  refine WS.c (One.bin rfl rfl bin_eql rfl ?_)
  refine WS.mv rfl rfl ?_
  refine WS.split (t := 10) rfl (fun hg1 => ?_) (fun hg1 => ?_)
  · refine WS.c (One.gPT rfl hg1 (One.fad rfl rfl ?_))
    refine WS.c (One.gPT rfl hg1 (One.ld rfl (ld_of (o := 1) hx rfl) rfl ?_))
    refine WS.c (One.gPT rfl hg1 (One.fad rfl rfl ?_))
    refine WS.c (One.gPT rfl hg1 (One.ld rfl (ld_of (o := 1) hy rfl) rfl ?_))
    refine WS.c (One.gPT rfl hg1 (One.call rfl rfl (spec22 hsm22 hsm57 _ _ a1 b1 _ _ _ _ (hb1.mono hS2) (he1.mono hS2) (by omega)) rfl ?_ (fun _ _ _ h => h.elim)))
    rintro _ _ _ ⟨rfl, rfl, rfl⟩
    refine WS.c (One.pickT rfl hg1 rfl rfl ?_)
    refine WS.mv rfl rfl ?_
    refine WS.split (t := 17) rfl (fun hg2 => ?_) (fun hg2 => ?_)
    · refine WS.c (One.gPT rfl hg2 (One.fad rfl rfl ?_))
      refine WS.c (One.gPT rfl hg2 (One.ld rfl (ld_of (o := 2) hx rfl) rfl ?_))
      refine WS.c (One.gPT rfl hg2 (One.fad rfl rfl ?_))
      refine WS.c (One.gPT rfl hg2 (One.ld rfl (ld_of (o := 2) hy rfl) rfl ?_))
      refine WS.c (One.gPT rfl hg2 (One.call rfl rfl (spec22 hsm22 hsm57 _ _ a2 b2 _ _ _ _ (hb2.mono hS2) (he2.mono hS2) (by omega)) rfl ?_ (fun _ _ _ h => h.elim)))
      rintro _ _ _ ⟨rfl, rfl, rfl⟩
      refine WS.c (One.pickT rfl hg2 rfl rfl ?_)
      refine WS.mv rfl rfl ?_
      refine WS.split (t := 24) rfl (fun hg3 => ?_) (fun hg3 => ?_)
      · refine WS.c (One.gPT rfl hg3 (One.fad rfl rfl ?_))
        refine WS.c (One.gPT rfl hg3 (One.ld rfl (ld_of (o := 3) hx rfl) rfl ?_))
        refine WS.c (One.gPT rfl hg3 (One.fad rfl rfl ?_))
        refine WS.c (One.gPT rfl hg3 (One.ld rfl (ld_of (o := 3) hy rfl) rfl ?_))
        refine WS.c (One.gPT rfl hg3 (One.call rfl rfl (spec22 hsm22 hsm57 _ _ a3 b3 _ _ _ _ (hb3.mono hS2) (he3.mono hS2) (by omega)) rfl ?_ (fun _ _ _ h => h.elim)))
        rintro _ _ _ ⟨rfl, rfl, rfl⟩
        refine WS.c (One.pickT rfl hg3 rfl rfl ?_)
        refine WS.mv rfl rfl ?_
        refine WS.nil ?_
        refine WC.ret ?_
        refine EndOk.less rfl rfl hS2 ⟨congrArg Value.bool ?_, rfl, rfl⟩
        first
        | exact decide_eq_decide.2 ⟨fun h => ⟨by omega, by assumption, by assumption, h⟩, fun h => h.2.2.2⟩
        | (refine (decide_eq_false (p := eqC c d) fun h => ?_).symm
           obtain ⟨j1, j2, j3, j4⟩ := h
           first | (exact absurd j2 (by assumption)) | (exact absurd j3 (by assumption)) | omega)
      · refine WS.c (One.gPF rfl hg3 rfl ?_)
        refine WS.c (One.gPF rfl hg3 rfl ?_)
        refine WS.c (One.gPF rfl hg3 rfl ?_)
        refine WS.c (One.gPF rfl hg3 rfl ?_)
        refine WS.c (One.gPF rfl hg3 rfl ?_)
        refine WS.c (One.pickF rfl hg3 rfl rfl ?_)
        refine WS.mv rfl rfl ?_
        refine WS.nil ?_
        refine WC.ret ?_
        refine EndOk.less rfl rfl hS2 ⟨congrArg Value.bool ?_, rfl, rfl⟩
        first
        | exact decide_eq_decide.2 ⟨fun h => ⟨by omega, by assumption, by assumption, h⟩, fun h => h.2.2.2⟩
        | (refine (decide_eq_false (p := eqC c d) fun h => ?_).symm
           obtain ⟨j1, j2, j3, j4⟩ := h
           first | (exact absurd j2 (by assumption)) | (exact absurd j3 (by assumption)) | omega)
    · refine WS.c (One.gPF rfl hg2 rfl ?_)
      refine WS.c (One.gPF rfl hg2 rfl ?_)
      refine WS.c (One.gPF rfl hg2 rfl ?_)
      refine WS.c (One.gPF rfl hg2 rfl ?_)
      refine WS.c (One.gPF rfl hg2 rfl ?_)
      refine WS.c (One.pickF rfl hg2 rfl rfl ?_)
      refine WS.mv rfl rfl ?_
      refine WS.c (One.gF rfl rfl rfl ?_)
      refine WS.c (One.gF rfl rfl rfl ?_)
      refine WS.c (One.gF rfl rfl rfl ?_)
      refine WS.c (One.gF rfl rfl rfl ?_)
      refine WS.c (One.gF rfl rfl rfl ?_)
      refine WS.c (One.pick rfl rfl rfl ?_)
      refine WS.mv rfl rfl ?_
      refine WS.nil ?_
      refine WC.ret ?_
      refine EndOk.less rfl rfl hS2 ⟨congrArg Value.bool ?_, rfl, rfl⟩
      first
      | exact decide_eq_decide.2 ⟨fun h => ⟨by omega, by assumption, by assumption, h⟩, fun h => h.2.2.2⟩
      | (refine (decide_eq_false (p := eqC c d) fun h => ?_).symm
         obtain ⟨j1, j2, j3, j4⟩ := h
         first | (exact absurd j2 (by assumption)) | (exact absurd j3 (by assumption)) | omega)
  · refine WS.c (One.gPF rfl hg1 rfl ?_)
    refine WS.c (One.gPF rfl hg1 rfl ?_)
    refine WS.c (One.gPF rfl hg1 rfl ?_)
    refine WS.c (One.gPF rfl hg1 rfl ?_)
    refine WS.c (One.gPF rfl hg1 rfl ?_)
    refine WS.c (One.pickF rfl hg1 rfl rfl ?_)
    refine WS.mv rfl rfl ?_
    refine WS.c (One.gF rfl rfl rfl ?_)
    refine WS.c (One.gF rfl rfl rfl ?_)
    refine WS.c (One.gF rfl rfl rfl ?_)
    refine WS.c (One.gF rfl rfl rfl ?_)
    refine WS.c (One.gF rfl rfl rfl ?_)
    refine WS.c (One.pick rfl rfl rfl ?_)
    refine WS.mv rfl rfl ?_
    refine WS.c (One.gF rfl rfl rfl ?_)
    refine WS.c (One.gF rfl rfl rfl ?_)
    refine WS.c (One.gF rfl rfl rfl ?_)
    refine WS.c (One.gF rfl rfl rfl ?_)
    refine WS.c (One.gF rfl rfl rfl ?_)
    refine WS.c (One.pick rfl rfl rfl ?_)
    refine WS.mv rfl rfl ?_
    refine WS.nil ?_
    refine WC.ret ?_
    refine EndOk.less rfl rfl hS2 ⟨congrArg Value.bool ?_, rfl, rfl⟩
    first
    | exact decide_eq_decide.2 ⟨fun h => ⟨by omega, by assumption, by assumption, h⟩, fun h => h.2.2.2⟩
    | (refine (decide_eq_false (p := eqC c d) fun h => ?_).symm
       obtain ⟨j1, j2, j3, j4⟩ := h
       first | (exact absurd j2 (by assumption)) | (exact absurd j3 (by assumption)) | omega)
end Go.Proofs
end
section
namespace Go.Proofs
open Go.Eng
variable {sm : Nat → Option (List Value → St → Option (Value × St))}
theorem ChV.at {H : Hp} {lo : Nat} : ∀ {cl : List Chg} {l : List Value} {i : Nat}, ChV H lo cl l → (hi : i < cl.length) → ∃ v1 v2 v3, (l.drop (i * 4)).take 4 = chL cl[i] v1 v2 v3 ∧ SlB H lo v1 (cl[i]).key ∧ SlB H lo v2 (cl[i]).old ∧ SlB H lo v3 (cl[i]).new
 | c :: cl, l, 0, h, _ => by
  obtain ⟨v1, v2, v3, r, rfl, h1, h2, h3, _⟩ := h
  exact ⟨v1, v2, v3, rfl, h1, h2, h3⟩
 | c :: cl, l, i + 1, h, hi => by
  obtain ⟨v1, v2, v3, r, rfl, h1, h2, h3, h4⟩ := h
  obtain ⟨w1, w2, w3, k1, k2⟩ := ChV.at (i := i) h4 (by simpa using hi)
  refine ⟨w1, w2, w3, ?_, k2⟩
  rw [show (i + 1) * 4 = 4 + i * 4 by omega, ← List.drop_drop]
  exact k1
theorem LsC.at {H : Hp} {lo hi : Nat} {v : Value} {cl : List Chg} (h : LsC H lo hi v cl) {i : Nat} (hl : i < cl.length) : ∃ b c v1 v2 v3, v = .slice (some ⟨b, 0, none⟩) cl.length c ∧ ldE H (some 4) b (0 + i * 4) = some (.agg ⟨chL cl[i] v1 v2 v3⟩) ∧ SlB H lo v1 (cl[i]).key ∧ SlB H lo v2 (cl[i]).old ∧ SlB H lo v3 (cl[i]).new := by
 obtain ⟨cells, hg, hv⟩ := h
 obtain ⟨v1, v2, v3, h1, h2⟩ := hv.at hl
 rcases hg with ⟨_, h3, _⟩ | ⟨b, rfl, h4, h5, _, _⟩
 ·omega
 ·exact ⟨b, _, v1, v2, v3, rfl, ld_ofA h5 (by rw [h4]; omega) (by rw [Nat.zero_add]; exact h1), h2⟩
theorem LsC.shape {H : Hp} {lo hi : Nat} {v : Value} {cl : List Chg} (h : LsC H lo hi v cl) : ∃ a c, v = .slice a cl.length c := by
 obtain ⟨cells, hg, hv⟩ := h
 exact hg.shape
def Few (cl : List Chg) : Prop := ∀ c ∈ cl, c.key.length < 65536 ∧ c.old.length < 65536 ∧ c.new.length < 65536
theorem eqC_iff {c d : Chg} : eqC c d ↔ c = d := by
 obtain ⟨a1, a2, a3, a4⟩ := c
 obtain ⟨b1, b2, b3, b4⟩ := d
 unfold eqC
 simp
theorem spec11 (hsm : sm 11 = none) (hsm21 : sm 21 = none) (hsm22 : sm 22 = none) (hsm57 : sm 57 = none) (H : Hp) (nx lo hi lo2 hi2 : Nat) (u w : Value) (cl dl : List Chg) (hv : LsC H lo hi u cl) (hw : LsC H lo2 hi2 w dl) (hf : Few cl) (hlen : cl.length ≤ 1073741824) (hH : HB H nx) : FnOk (envS sm) 11 [u, w] H nx (fun v H' nx' => (∃ t, v = .bool t ∧ (t = true ↔ cl = dl)) ∧ H = H' ∧ nx ≤ nx') (fun _ _ _ => False) := by
 refine FnOk.of (fn := Tryz.f11) hsm rfl rfl rfl ?_
 obtain ⟨ua, uc, hue⟩ := hv.shape
 obtain ⟨wa, wc, hwe⟩ := hw.shape
 subst hue hwe
 refine WC.seqR (xs := [om 4 (.v (.bool false))]) (by kernel_rfl) ?_
 refine WS.mv rfl rfl ?_
 refine WS.nil ?_
 refine WC.seq ?_
 refine WC.seqR (xs := [om 6 (.t 0),
   oq 7 (.p (.len (.t 6))),
   om 8 (.t 1),
   oq 9 (.p (.len (.t 8))),
   oq 10 (.p (.bin .neq .other false (.t 7) (.t 9)))]) (by kernel_rfl) ?_
 refine WS.mv rfl rfl ?_
 refine WS.c (One.len rfl rfl ?_)
 refine WS.mv rfl rfl ?_
 refine WS.c (One.len rfl rfl ?_)
 refine WS.c (One.bin rfl rfl bin_neq rfl ?_)
 refine WS.nil ?_
 refine WC.cond rfl (fun hc1 => ?_) (fun hc1 => ?_)
 ·refine WC.seqR (xs := [om 4 (.v (.bool false))]) (by kernel_rfl) ?_
  refine WS.mv rfl rfl ?_
  refine WS.nil ?_
  refine WC.ret ?_
  exact EndOk.now rfl rfl ⟨⟨false, rfl, by simp; intro h; subst h; exact hc1 rfl⟩, rfl, Nat.le_refl _⟩
 ·refine WC.skip ?_
  refine WC.seq ?_
  refine WC.seqR (xs := [om 5 (.v (.int .i64 0))]) (by kernel_rfl) ?_
  refine WS.mv rfl rfl ?_
  refine WS.nil ?_
  refine WC.block ?_
  refine WC.loop (fun m env ds H' nx' => ∃ (i : Nat), m = cl.length - i ∧ SubE [(0, .slice ua cl.length uc), (1, .slice wa dl.length wc), (5, .int .i64 (i : Int))] env ∧ ds = [] ∧ i ≤ cl.length ∧ cl.take i = dl.take i ∧ H = H' ∧ nx ≤ nx') (fun m env ds H' nx' hI => ?_) (m := cl.length) (⟨0, by omega, (by repeat (first | exact SubE.nil _ | refine SubE.cons rfl ?_)), rfl, Nat.zero_le _, rfl, rfl, Nat.le_refl _⟩)
  obtain ⟨i, rfl, hsub, rfl, hi, ht, rfl, hn⟩ := hI
  refine WC.weak (env' := [(0, .slice ua cl.length uc), (1, .slice wa dl.length wc), (5, .int .i64 (i : Int))]) ?_ hsub (fun _ _ h => h)
  refine WC.seq ?_
  refine WC.seqR (xs := [om 11 (.t 5),
    om 12 (.t 0),
    oq 13 (.p (.len (.t 12))),
    oq 14 (.p (.bin .lss .other false (.t 11) (.t 13)))]) (by kernel_rfl) ?_
  refine WS.mv rfl rfl ?_
  refine WS.mv rfl rfl ?_
  refine WS.c (One.len rfl rfl ?_)
  refine WS.c (One.bin rfl rfl bin_lss rfl ?_)
  refine WS.nil ?_
  refine WC.cond rfl (fun hc2 => ?_) (fun hc2 => ?_)
  ·refine WC.skip ?_
   refine WC.seq ?_
   refine WC.block ?_
   refine WC.seqT (l := [om 17 (.t 0),
     om 18 (.t 5),
     oq 19 (.p (.iaS 4 (.t 17) (.t 18))),
     oq 20 (.l (.ld (some 4) (.t 19))),
     om 21 (.t 1),
     om 22 (.t 5),
     oq 23 (.p (.iaS 4 (.t 21) (.t 22))),
     oq 24 (.l (.ld (some 4) (.t 23))),
     oq 25 (.call (.v (.func (.func 21) #[] #[])) [(.t 20), (.t 24)]),
     oq 26 (.p (.not (.t 25)))]) (ws := [(0, 0), (0, 0), (0, 0), (0, 0), (0, 0), (0, 0), (0, 0), (0, 0), (0, 1), (1, 1)]) (xs := [(om 17 (.t 0), [0]),
     (om 18 (.t 5), [5]),
     (oq 19 (.p (.iaS 4 (.t 17) (.t 18))), [17, 18]),
     (oq 20 (.l (.ld (some 4) (.t 19))), [19]),
     (om 21 (.t 1), [1]),
     (om 22 (.t 5), [5]),
     (oq 23 (.p (.iaS 4 (.t 21) (.t 22))), [21, 22]),
     (oq 24 (.l (.ld (some 4) (.t 23))), [23]),
     (oq 25 (.call (.v (.func (.func 21) #[] #[])) [(.t 20), (.t 24)]), [20, 24]),
     (oq 26 (.p (.not (.t 25))), [25])]) (by kernel_rfl) (by kernel_rfl) ?_
   refine WD.q rfl (One.mv rfl rfl ⟨rfl, ?_⟩)
   refine WD.q rfl (One.mv rfl rfl ⟨rfl, ?_⟩)
   obtain ⟨b1, c1, v1, v2, v3, he1, hl1, p1, p2, p3⟩ := hv.at (i := i) (by omega)
   obtain ⟨b2, c2, w1, w2, w3, he2, hl2, q1, q2, q3⟩ := hw.at (i := i) (by omega)
   injection he1 with he1
   injection he2 with he2
   subst he1 he2
   have hfi := hf _ (List.getElem_mem (show i < cl.length by omega))
   refine WD.q rfl (One.iaS rfl rfl rfl (by omega) rfl ⟨rfl, ?_⟩)
   refine WD.r (One.ld rfl hl1 rfl ⟨_, rfl, ?_⟩)
   refine WD.q rfl (One.mv rfl rfl ⟨rfl, ?_⟩)
   refine WD.q rfl (One.mv rfl rfl ⟨rfl, ?_⟩)
   refine WD.q rfl (One.iaS rfl rfl rfl (by omega) rfl ⟨rfl, ?_⟩)
   refine WD.r (One.ld rfl hl2 rfl ⟨_, rfl, ?_⟩)
   refine WD.l rfl (One.call rfl rfl (spec21 hsm21 hsm22 hsm57 _ _ 0 cl[i] dl[i] _ _ _ _ _ _ (p1.le (Nat.zero_le _)) (p2.le (Nat.zero_le _)) (p3.le (Nat.zero_le _)) (q1.le (Nat.zero_le _)) (q2.le (Nat.zero_le _)) (q3.le (Nat.zero_le _)) (by omega) (by omega) (by omega) (hH.mono hn)) rfl ?_ (fun _ _ _ h => h.elim))
   rintro _ _ _ ⟨rfl, rfl, rfl⟩
   obtain ⟨x1, y1, rfl, z1, _⟩ := p1
   obtain ⟨x2, y2, rfl, z2, _⟩ := p2
   obtain ⟨x3, y3, rfl, z3, _⟩ := p3
   obtain ⟨x4, y4, rfl, z4, _⟩ := q1
   obtain ⟨x5, y5, rfl, z5, _⟩ := q2
   obtain ⟨x6, y6, rfl, z6, _⟩ := q3
   refine ⟨rfl, ?_⟩
   refine WD.q rfl (One.not rfl rfl ⟨rfl, ?_⟩)
   refine WD.nil (⟨⟨veq_chL _ z4 z5 z6, hl2, trivial⟩, ⟨veq_chL _ z1 z2 z3, hl1, trivial⟩, trivial⟩) ?_
   refine WC.cond rfl (fun hc3 => ?_) (fun hc3 => ?_)
   ·refine WC.seqR (xs := [om 4 (.v (.bool false))]) (by kernel_rfl) ?_
    refine WS.mv rfl rfl ?_
    refine WS.nil ?_
    refine WC.ret ?_
    exact EndOk.now rfl rfl ⟨⟨false, rfl, by simp; intro h; subst h; exact hc3 (eqC_iff.2 rfl)⟩, rfl, by omega⟩
   ·refine WC.skip ?_
    refine WC.region (xs := [om 15 (.t 5),
      oq 16 (.p (.bin .add .other true (.t 15) (.v (.int .i64 1)))),
      om 5 (.t 16)]) (by kernel_rfl) ?_
    refine WS.mv rfl rfl ?_
    refine WS.c (One.bin rfl rfl (bin_add64 (by omega) (by omega)) rfl ?_)
    refine WS.mv rfl rfl ?_
    refine WS.nil ?_
    refine ⟨_, ?_, i + 1, rfl, (by repeat (first | exact SubE.nil _ | refine SubE.cons rfl ?_)), rfl, by omega, ?_, rfl, by omega⟩
    ·omega
    ·rw [List.take_add_one, List.take_add_one, List.getElem?_eq_getElem (show i < cl.length by omega), List.getElem?_eq_getElem (show i < dl.length by omega), ht, eqC_iff.1 (Decidable.of_not_not hc3)]
  ·refine WC.exit ?_
   refine WC.seqR (xs := [om 4 (.v (.bool true))]) (by kernel_rfl) ?_
   refine WS.mv rfl rfl ?_
   refine WS.nil ?_
   refine WC.ret ?_
   have hk : i = cl.length := by omega
   subst hk
   rw [List.take_length, show cl.length = dl.length by omega, List.take_length] at ht
   exact EndOk.now rfl rfl ⟨⟨true, rfl, by simp [ht]⟩, rfl, hn⟩
end Go.Proofs
end
section
namespace Go.Proofs
open Go.Eng
variable {sm : Nat → Option (List Value → St → Option (Value × St))}
theorem chs_few {w : Prop} [Decidable w] : ∀ {n : Nat} {s t : RS} {last : List UInt8} {cl : List Chg}, chs w n s last = some (cl, t) → Few cl
 | 0, _, _, _, _, h => by
  injection h with h; injection h with h1 h2; subst h1
  intro c hc; cases hc
 | n + 1, s, t, last, cl, h => by
  unfold chs at h
  split at h
  ·rename_i hok
   cases hq : chs w n (neS false s) (keV s) with
   | none => rw [hq] at h; cases h
   | some q =>
    rw [hq] at h
    injection h with h
    injection h with h1 h2
    subst h1
    have ih := chs_few hq
    obtain ⟨_, _, _, _, _, l1, l2, _⟩ := hok.2
    intro c hc
    rcases List.mem_cons.1 hc with rfl | hc
    ·have := keV_len s
     exact ⟨by show (keV s).length < _; omega, by omega, by omega⟩
    ·exact ih c hc
  ·cases h
theorem few_chOf (l : List UInt8) : Few (chOf l) := by
 unfold chOf
 cases hp : parse l with
 | error f => intro c hc; cases hc
 | ok q =>
  unfold parse at hp
  split at hp; · cases hp
  split at hp; · cases hp
  split at hp; · cases hp
  split at hp
  ·cases hp
  ·rename_i cl t hr
   split at hp
   ·injection hp with hp
    subst hp
    unfold rest at hr
    split at hr
    ·exact chs_few hr
    ·cases hr
   ·cases hp
end Go.Proofs
end
section
namespace Go.Proofs
open Go.Eng
variable {sm : Nat → Option (List Value → St → Option (Value × St))}
def OwnL (H : Hp) (hi : Nat) : Nat → List (List UInt8) → List Value → Prop
 | lo, [], l => l = [] ∧ lo ≤ hi
 | lo, x :: xs, l => ∃ v r m0 m1, l = v :: r ∧ GB H v x m0 m1 ∧ lo ≤ m0 ∧ m0 ≤ m1 ∧ OwnL H hi m1 xs r
def flB : List Chg → List (List UInt8)
 | [] => []
 | c :: cl => c.key :: c.old :: c.new :: flB cl
def flV : List Value → List Value
 | _ :: a :: b :: c :: r => a :: b :: c :: flV r
 | _ => []
theorem OwnL.of {H : Hp} {hi : Nat} : ∀ {cl : List Chg} {lo : Nat} {l : List Value}, ChP H hi lo cl l → OwnL H hi lo (flB cl) (flV l)
 | [], _, _, h => by obtain ⟨rfl, h2⟩ := h; exact ⟨rfl, h2⟩
 | c :: cl, lo, _, h => by
  obtain ⟨v1, v2, v3, r, m0, m1, m2, m3, rfl, k1, k2, k3, h1, h2, h3, h4, h5⟩ := h
  exact ⟨v1, _, m0, m1, rfl, k1, h1, h2, v2, _, m1, m2, rfl, k2, Nat.le_refl _, h3, v3, _, m2, m3, rfl, k3, Nat.le_refl _, h4, OwnL.of h5⟩
theorem ChV.cell {H : Hp} {lo : Nat} {cl : List Chg} {l : List Value} {i : Nat} (h : ChV H lo cl l) (hi : i < cl.length) : ∃ v1 v2 v3, l[i * 4 + 1]? = some v1 ∧ l[i * 4 + 2]? = some v2 ∧ l[i * 4 + 3]? = some v3 ∧ flV (l.take ((i + 1) * 4)) = flV (l.take (i * 4)) ++ [v1, v2, v3] ∧ (∃ a n c, v1 = .slice a n c ∧ ∀ f, veq f (.slice a n c) (.slice a n c) = true) ∧ (∃ a n c, v2 = .slice a n c ∧ ∀ f, veq f (.slice a n c) (.slice a n c) = true) ∧ (∃ a n c, v3 = .slice a n c ∧ ∀ f, veq f (.slice a n c) (.slice a n c) = true) := by
 induction cl generalizing l i with
 | nil => cases hi
 | cons c cl ih =>
  obtain ⟨w1, w2, w3, r, rfl, ⟨b1, d1, e1, f1, _⟩, ⟨b2, d2, e2, f2, _⟩, ⟨b3, d3, e3, f3, _⟩, h4⟩ := h
  cases i with
  | zero => exact ⟨w1, w2, w3, rfl, rfl, rfl, rfl, ⟨_, _, _, e1, fun f => veq_slb f _ _ f1⟩, ⟨_, _, _, e2, fun f => veq_slb f _ _ f2⟩, ⟨_, _, _, e3, fun f => veq_slb f _ _ f3⟩⟩
  | succ i =>
   obtain ⟨v1, v2, v3, k1, k2, k3, k4, k5⟩ := ih h4 (by simpa using hi)
   refine ⟨v1, v2, v3, ?_, ?_, ?_, ?_, k5⟩
   ·rw [show (i + 1) * 4 + 1 = (i * 4 + 1) + 4 by omega]; exact k1
   ·rw [show (i + 1) * 4 + 2 = (i * 4 + 2) + 4 by omega]; exact k2
   ·rw [show (i + 1) * 4 + 3 = (i * 4 + 3) + 4 by omega]; exact k3
   ·rw [show (i + 1 + 1) * 4 = (i + 1) * 4 + 4 by omega, show (i + 1) * 4 = i * 4 + 4 by omega]
    show w1 :: w2 :: w3 :: flV (r.take (i * 4 + 4)) = w1 :: w2 :: w3 :: (flV (r.take (i * 4)) ++ [v1, v2, v3])
    rw [← k4, show (i + 1) * 4 = i * 4 + 4 by omega]
theorem spec13 (hsm : sm 13 = none) (H : Hp) (nx lo hi : Nat) (u : Value) (cl : List Chg) (cells : List Value) (hg : GS H u cl.length cells 68 4 lo hi) (hv : ChV H lo cl cells) (hlen : cl.length ≤ 268435456) (hH : HB H nx) : FnOk (envS sm) 13 [u] H nx (fun v H' nx' => GS H' v (3 * cl.length) (flV cells) 22 1 nx nx' ∧ HSub H H' ∧ HB H' nx' ∧ nx ≤ nx') (fun _ _ _ => False) := by
 refine FnOk.of (fn := Tryz.f13) hsm rfl rfl rfl ?_
 obtain ⟨ua, uc, hue⟩ := hg.shape
 subst hue
 refine WC.seqR (xs := [om 2 (.v (.slice none 0 0))]) (by kernel_rfl) ?_
 refine WS.mv rfl rfl ?_
 refine WS.nil ?_
 refine WC.seqR (xs := [om 3 (.v (.slice none 0 0))]) (by kernel_rfl) ?_
 refine WS.mv rfl rfl ?_
 refine WS.nil ?_
 refine WC.seq ?_
 refine WC.seqR (xs := [om 4 (.v (.int .i64 0))]) (by kernel_rfl) ?_
 refine WS.mv rfl rfl ?_
 refine WS.nil ?_
 refine WC.block ?_
 refine WC.loop (fun m env ds H' nx' => ∃ (i : Nat) (sv : Value), m = cl.length - i ∧ SubE [(0, .slice ua cl.length uc), (3, sv), (4, .int .i64 (i : Int))] env ∧ ds = [] ∧ i ≤ cl.length ∧ GS H' sv (3 * i) (flV (cells.take (i * 4))) 22 1 nx nx' ∧ HSub H H' ∧ HB H' nx' ∧ nx ≤ nx') (fun m env ds H' nx' hI => ?_) (m := cl.length) (⟨0, _, by omega, (by repeat (first | exact SubE.nil _ | refine SubE.cons rfl ?_)), rfl, Nat.zero_le _, GS.nil _ _ _ _ _, HSub.refl H, hH, Nat.le_refl _⟩)
 obtain ⟨i, sv, rfl, hsub, rfl, hi, hG, hF, hB, hn⟩ := hI
 refine WC.weak (env' := [(0, .slice ua cl.length uc), (3, sv), (4, .int .i64 (i : Int))]) ?_ hsub (fun _ _ h => h)
 refine WC.seq ?_
 refine WC.seqR (xs := [om 5 (.t 4),
   om 6 (.t 0),
   oq 7 (.p (.len (.t 6))),
   oq 8 (.p (.bin .lss .other false (.t 5) (.t 7)))]) (by kernel_rfl) ?_
 refine WS.mv rfl rfl ?_
 refine WS.mv rfl rfl ?_
 refine WS.c (One.len rfl rfl ?_)
 refine WS.c (One.bin rfl rfl bin_lss rfl ?_)
 refine WS.nil ?_
 refine WC.cond rfl (fun hc1 => ?_) (fun hc1 => ?_)
 ·refine WC.skip ?_
  refine WC.seq ?_
  refine WC.block ?_
  refine WC.regionT (l := [om 11 (.t 3),
    om 12 (.t 0),
    om 13 (.t 4),
    oq 14 (.p (.iaS 4 (.t 12) (.t 13))),
    oq 15 (.p (.fad (.t 14) 1)),
    oq 16 (.l (.ld none (.t 15))),
    om 17 (.t 0),
    om 18 (.t 4),
    oq 19 (.p (.iaS 4 (.t 17) (.t 18))),
    oq 20 (.p (.fad (.t 19) 2)),
    oq 21 (.l (.ld none (.t 20))),
    om 22 (.t 0),
    om 23 (.t 4),
    oq 24 (.p (.iaS 4 (.t 22) (.t 23))),
    oq 25 (.p (.fad (.t 24) 3)),
    oq 26 (.l (.ld none (.t 25))),
    oq 27 (.m (.sl [(.slice none 0 0), (.slice none 0 0), (.slice none 0 0)] 22 3 [(0, 1, (.t 16)), (1, 1, (.t 21)), (2, 1, (.t 26))])),
    oq 28 (.w (.app 22 [(.slice none 0 0)] false (.t 11) (.t 27))),
    om 3 (.t 28)]) (ws := [(0, 0), (0, 0), (0, 0), (0, 0), (0, 0), (0, 0), (0, 0), (0, 0), (0, 0), (0, 0), (0, 0), (0, 0), (0, 0), (0, 0), (0, 0), (0, 0), (0, 0), (0, 1), (1, 1)]) (xs := [(om 11 (.t 3), [3]),
    (om 12 (.t 0), [0]),
    (om 13 (.t 4), [4]),
    (oq 14 (.p (.iaS 4 (.t 12) (.t 13))), [12, 13]),
    (oq 15 (.p (.fad (.t 14) 1)), [14]),
    (oq 16 (.l (.ld none (.t 15))), [15]),
    (om 17 (.t 0), [0]),
    (om 18 (.t 4), [4]),
    (oq 19 (.p (.iaS 4 (.t 17) (.t 18))), [17, 18]),
    (oq 20 (.p (.fad (.t 19) 2)), [19]),
    (oq 21 (.l (.ld none (.t 20))), [20]),
    (om 22 (.t 0), [0]),
    (om 23 (.t 4), [4]),
    (oq 24 (.p (.iaS 4 (.t 22) (.t 23))), [22, 23]),
    (oq 25 (.p (.fad (.t 24) 3)), [24]),
    (oq 26 (.l (.ld none (.t 25))), [25]),
    (oq 27 (.m (.sl [(.slice none 0 0), (.slice none 0 0), (.slice none 0 0)] 22 3 [(0, 1, (.t 16)), (1, 1, (.t 21)), (2, 1, (.t 26))])), [16, 21, 26]),
    (oq 28 (.w (.app 22 [(.slice none 0 0)] false (.t 11) (.t 27))), [11, 27]),
    (om 3 (.t 28), [28])]) (by kernel_rfl) (by kernel_rfl) ?_
  refine WD.q rfl (One.mv rfl rfl ⟨rfl, ?_⟩)
  refine WD.q rfl (One.mv rfl rfl ⟨rfl, ?_⟩)
  refine WD.q rfl (One.mv rfl rfl ⟨rfl, ?_⟩)
  obtain ⟨v1, v2, v3, h1, h2, h3, h4, ⟨a1, n1, c1, rfl, g1⟩, ⟨a2, n2, c2, rfl, g2⟩, ⟨a3, n3, c3, rfl, g3⟩⟩ := hv.cell (i := i) (by omega)
  obtain ⟨b, hbe, hblk⟩ : ∃ b, ua = some ⟨b, 0, none⟩ ∧ H b = some (.cells cells 68 5) := by
   rcases hg with ⟨_, h, _⟩ | ⟨b, h, _, hb, _⟩
   ·omega
   ·injection h with h; exact ⟨b, h, hb⟩
  subst hbe
  refine WD.q rfl (One.iaS rfl rfl rfl (by omega) rfl ⟨rfl, ?_⟩)
  refine WD.q rfl (One.fad rfl rfl ⟨rfl, ?_⟩)
  refine WD.r (One.ld rfl (ld_of (o := 0 + i * 4 + 1) (hF _ _ hblk) (by rw [show 0 + i * 4 + 1 = i * 4 + 1 by omega]; exact h1)) rfl ⟨_, rfl, ?_⟩)
  refine WD.q rfl (One.mv rfl rfl ⟨rfl, ?_⟩)
  refine WD.q rfl (One.mv rfl rfl ⟨rfl, ?_⟩)
  refine WD.q rfl (One.iaS rfl rfl rfl (by omega) rfl ⟨rfl, ?_⟩)
  refine WD.q rfl (One.fad rfl rfl ⟨rfl, ?_⟩)
  refine WD.r (One.ld rfl (ld_of (o := 0 + i * 4 + 2) (hF _ _ hblk) (by rw [show 0 + i * 4 + 2 = i * 4 + 2 by omega]; exact h2)) rfl ⟨_, rfl, ?_⟩)
  refine WD.q rfl (One.mv rfl rfl ⟨rfl, ?_⟩)
  refine WD.q rfl (One.mv rfl rfl ⟨rfl, ?_⟩)
  refine WD.q rfl (One.iaS rfl rfl rfl (by omega) rfl ⟨rfl, ?_⟩)
  refine WD.q rfl (One.fad rfl rfl ⟨rfl, ?_⟩)
  refine WD.r (One.ld rfl (ld_of (o := 0 + i * 4 + 3) (hF _ _ hblk) (by rw [show 0 + i * 4 + 3 = i * 4 + 3 by omega]; exact h3)) rfl ⟨_, rfl, ?_⟩)
  refine WD.q rfl (One.sl rfl rfl ⟨rfl, ?_⟩)
  refine WD.l rfl (One.appGB (m := 3 * i) (k := 3) (lo := nx) (z := [.slice none 0 0]) (cells := flV (cells.take (i * 4))) (new := [.slice a1 n1 c1, .slice a2 n2 c2, .slice a3 n3 c3]) rfl rfl (hG.mono (HSub.new hB (Nat.le_refl _) (HSub.refl _)) (Nat.le_succ _)) (by omega) (newE_blk upd_eq rfl (by decide)) rfl (by omega) rfl (by omega) rfl ?_)
  intro H3 hg' hlow hoth hb3
  refine ⟨rfl, ?_⟩
  refine WD.q rfl (One.mv rfl rfl ⟨rfl, ?_⟩)
  refine WD.nil (⟨⟨g3 _, ld_of (o := 0 + i * 4 + 3) (hF _ _ hblk) (by rw [show 0 + i * 4 + 3 = i * 4 + 3 by omega]; exact h3), trivial⟩, ⟨g2 _, ld_of (o := 0 + i * 4 + 2) (hF _ _ hblk) (by rw [show 0 + i * 4 + 2 = i * 4 + 2 by omega]; exact h2), trivial⟩, ⟨g1 _, ld_of (o := 0 + i * 4 + 1) (hF _ _ hblk) (by rw [show 0 + i * 4 + 1 = i * 4 + 1 by omega]; exact h1), trivial⟩, trivial⟩) ?_
  refine WC.region (xs := [om 9 (.t 4),
    oq 10 (.p (.bin .add .other true (.t 9) (.v (.int .i64 1)))),
    om 4 (.t 10)]) (by kernel_rfl) ?_
  refine WS.mv rfl rfl ?_
  refine WS.c (One.bin rfl rfl (bin_add64 (by omega) (by omega)) rfl ?_)
  refine WS.mv rfl rfl ?_
  refine WS.nil ?_
  refine ⟨_, ?_, i + 1, _, rfl, (by repeat (first | exact SubE.nil _ | refine SubE.cons rfl ?_)), rfl, by omega, ?_, ?_, hb3 hB.new, by omega⟩
  ·omega
  ·rw [h4, show 3 * (i + 1) = 3 * i + 3 by omega]; exact hg'
  ·exact fun j o ho => hlow j o (by rw [upd_ne (by have := hH j o ho; omega)]; exact hF j o ho) (hH j o ho)
 ·refine WC.exit ?_
  refine WC.seqR (xs := [om 29 (.t 3),
    om 2 (.t 29)]) (by kernel_rfl) ?_
  refine WS.mv rfl rfl ?_
  refine WS.mv rfl rfl ?_
  refine WS.nil ?_
  refine WC.ret ?_
  have hk : i = cl.length := by omega
  subst hk
  rw [← hv.len, List.take_length] at hG
  exact EndOk.now rfl rfl ⟨hG, hF, hB, hn⟩
end Go.Proofs
end
