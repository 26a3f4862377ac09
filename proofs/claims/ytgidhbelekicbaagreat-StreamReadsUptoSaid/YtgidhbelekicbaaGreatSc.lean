/-
  Part of the proof of StreamReadsUptoSaid: The reference reads a change.
-/
import Derived.Test.YtgidhbelekicbaaGreatSb
set_option linter.unusedVariables false
namespace Go.Proofs
open Go.Eng
variable {sm : Nat → Option (List Value → St → Option (Value × St))}
def mkC (s : RS) : List Value := [.int .i64 (gV s 4 : Nat), .int .i64 (gV (gS s 4) 4 : Nat), .int .u32 (gV (gS (gS s 4) 4) 4 : Nat)]
def mkS (s : RS) : RS := gS (gS (gS s 4) 4) 4
structure Chg where
  kind : Nat
  key : List UInt8
  old : List UInt8
  new : List UInt8
def vlN (p : Bool) (s : RS) : Nat := bif p && Nat.blt 3840 (gV s 2) then (gS s 2).1.length + 1 else gV s 2
def vlV (p : Bool) (s : RS) : List UInt8 := raV (gS s 2) (vlN p s)
def vlS (p : Bool) (s : RS) : RS := raS (gS s 2) (vlN p s)
def keV (s : RS) : List UInt8 := shV (gS s 1) 24
def keS (s : RS) : RS := shS (gS s 1) 24
def olV (p : Bool) (s : RS) : List UInt8 := if gV s 1 = 1 then [] else vlV p (keS s)
def olS (p : Bool) (s : RS) : RS := if gV s 1 = 1 then keS s else vlS p (keS s)
def neV (p : Bool) (s : RS) : List UInt8 := if gV s 1 = 2 then [] else vlV p (olS p s)
def neS (p : Bool) (s : RS) : RS := if gV s 1 = 2 then olS p s else vlS p (olS p s)
def chC (p : Bool) (s : RS) : Chg := ⟨gV s 1, keV s, olV p s, neV p s⟩
def chL (c : Chg) (v1 v2 v3 : Value) : List Value := [.int .i64 (c.kind : Int), v1, v2, v3]
def chIs (c : Chg) (ahead : List UInt8) (whole : Prop) : Prop :=
  1 ≤ c.kind ∧ c.kind ≤ 3 ∧ (whole → c.kind = 1) ∧ 1 ≤ c.key.length ∧ 0 < cmpU c.key ahead ∧ c.old.length ≤ 3840 ∧ c.new.length ≤ 3840 ∧ (c.kind = 3 → ¬ c.old = c.new)
instance (c : Chg) (ahead : List UInt8) (w : Prop) [Decidable w] : Decidable (chIs c ahead w) := by unfold chIs; infer_instance
theorem RR.cast {A : Hp} {r b : Nat} {s t : RS} (h : RR A r b t.1 t.2) (e : s = t) : RR A r b s.1 s.2 := e ▸ h
theorem SlB.cast {A : Hp} {lo : Nat} {v : Value} {l k : List UInt8} (h : SlB A lo v l) (e : k = l) : SlB A lo v k := e ▸ h
theorem SlB.nilR {A : Hp} {r b e lo : Nat} {t l : List UInt8} (_ : RR A r b t e) (h : l = []) : SlB A lo (.slice none 0 0) l := by subst h; exact SlB.nil A lo
theorem SlB.upd {A : Hp} {lo c : Nat} {v : Value} {l : List UInt8} {o : AO} (h : SlB A lo v l) (hc : c < lo) : SlB (upd A c o) lo v l := h.low (HSub.delU (HSub.delL _ _)) hc
theorem spec52 (hsm : sm 52 = none) (hsm51 : sm 51 = none) (hsm105 : sm 105 = none) (hsm104 : sm 104 = none) (hsm107 : sm 107 = none) (hsm171 : sm 171 = none) (H : Hp) (nx r b : Nat) (s : RS) (hR : RR H r b s.1 s.2) (hH : HB H nx) : FnOk (envS sm) 52 [.pointer (some ⟨r, 0, none⟩)] H nx (fun v H' nx' => v = .agg ⟨mkC s⟩ ∧ RR H' r b (mkS s).1 (mkS s).2 ∧ HSub (del H r) H' ∧ HB H' nx' ∧ nx ≤ nx') (fun _ _ _ => False) := by
  refine FnOk.of (fn := Tryz.f52) hsm rfl rfl rfl ?_
  have hrn := hR.lt hH
  have hbn := hR.ltb hH
  have k1 : leV (rawO s.1 s.2 4) < _ := gV4 s
  have k2 : leV (rawO (rawR s.1 s.2 4) (rawE s.1 s.2 4) 4) < _ := gV4 (gS s 4)
  have k3 : leV (rawO (rawR (rawR s.1 s.2 4) (rawE s.1 s.2 4) 4) (rawE (rawR s.1 s.2 4) (rawE s.1 s.2 4) 4) 4) < _ := gV4 (gS (gS s 4) 4)
  refine WC.seqR (xs := [oq 2 (.m (.alc [(.int .i64 0), (.int .i64 0), (.int .u32 0)] 28))]) (by kernel_rfl) ?_
  refine WS.c (One.alc rfl ?_)
  refine WS.nil ?_
  refine WC.seqR (xs := [om 6 (.t 0),
      oq 7 (.call (.v (.func (.func 51) #[] #[])) [(.t 6), (.v (.int .i64 4))]),
      om 8 (.t 0),
      oq 9 (.call (.v (.func (.func 51) #[] #[])) [(.t 8), (.v (.int .i64 4))]),
      om 10 (.t 0),
      oq 11 (.call (.v (.func (.func 51) #[] #[])) [(.t 10), (.v (.int .i64 4))]),
      om 3 (.t 7),
      om 4 (.t 9),
      om 5 (.t 11)]) (by kernel_rfl) ?_
  refine WS.mv rfl rfl ?_
  refine WS.c (One.call rfl rfl (spec51 hsm51 hsm105 hsm104 hsm107 hsm171 _ _ r b _ 4 _ (hR.upd (by omega) (by omega)) hH.new (by omega)) rfl ?_ (fun _ _ _ h => h.elim))
  rintro _ H2 n2 ⟨rfl, hR2, hS2, hB2, hn2⟩
  refine WS.mv rfl rfl ?_
  refine WS.c (One.call rfl rfl (spec51 hsm51 hsm105 hsm104 hsm107 hsm171 _ _ r b _ 4 _ hR2 hB2 (by omega)) rfl ?_ (fun _ _ _ h => h.elim))
  rintro _ H3 n3 ⟨rfl, hR3, hS3, hB3, hn3⟩
  refine WS.mv rfl rfl ?_
  refine WS.c (One.call rfl rfl (spec51 hsm51 hsm105 hsm104 hsm107 hsm171 _ _ r b _ 4 _ hR3 hB3 (by omega)) rfl ?_ (fun _ _ _ h => h.elim))
  rintro _ H4 n4 ⟨rfl, hR4, hS4, hB4, hn4⟩
  refine WS.mv rfl rfl ?_
  refine WS.mv rfl rfl ?_
  refine WS.mv rfl rfl ?_
  refine WS.nil ?_
  refine WC.seqR (xs := [om 12 (.t 3),
      oq 13 (.p (.cvI .i64 (.t 12))),
      om 14 (.t 4),
      oq 15 (.p (.cvI .i64 (.t 14))),
      om 16 (.t 5),
      oq 17 (.p (.cvI .u32 (.t 16))),
      oq 18 (.p (.bld [(0, 1, (.t 13)), (1, 1, (.t 15)), (2, 1, (.t 17))] [(.int .i64 0), (.int .i64 0), (.int .u32 0)])),
      ⟨none, none, .w (.sto 3 (.t 2) (.t 18))⟩]) (by kernel_rfl) ?_
  refine WS.mv rfl rfl ?_
  have hS5 := HSub.delT (HSub.delT hS2 hS3) hS4
  have hc := del_at hS5 upd_eq (by omega)
  refine WS.c (One.cvI rfl (wrap_i64 (by omega) (by omega)) rfl ?_)
  refine WS.mv rfl rfl ?_
  refine WS.c (One.cvI rfl (wrap_i64 (by omega) (by omega)) rfl ?_)
  refine WS.mv rfl rfl ?_
  refine WS.c (One.cvI rfl (wrap_u rfl k3) rfl ?_)
  refine WS.c (One.bld rfl rfl ?_)
  refine WS.z (One.sto (cs' := mkC s) rfl rfl hc rfl rfl rfl rfl ?_)
  refine WS.nil ?_
  refine WC.ret ?_
  exact EndOk.now rfl (resE_cell rfl (by kernel_rfl) (ld_ofA (m := 3) (l := mkC s) upd_eq (by simp [mkC]) rfl) rfl) ⟨rfl, hR4.upd (by omega) (by omega), HSub.new hH.del (Nat.le_refl _) (HSub.delT (HSub.new hH.del (Nat.le_refl _) (HSub.delL H r)) hS5), hB4.upd (by omega), by omega⟩
theorem spec53 (hsm : sm 53 = none) (H : Hp) (nx x y z : Nat) (hH : HB H nx) : FnOk (envS sm) 53 [.agg ⟨[.int .i64 (x : Int), .int .i64 (y : Int), .int .u32 (z : Int)]⟩] H nx (fun v H' nx' => v = .bool (decide (x ≤ 2147483647 ∧ y ≤ 2147483647)) ∧ H = H' ∧ nx' = nx + 1) (fun _ _ _ => False) := by
  refine FnOk.of (fn := Tryz.f53) hsm rfl rfl rfl ?_
  refine WC.seqR (xs := [oq 1 (.m (.box 28 (.t 0))),
      om 2 (.v (.bool false))]) (by kernel_rfl) ?_
  refine WS.c (One.box rfl rfl rfl ?_)
  refine WS.mv rfl rfl ?_
  refine WS.nil ?_
  refine WC.seqR (xs := [oq 3 (.p (.fad (.t 1) 0)),
      oq 4 (.l (.ld none (.t 3))),
      oq 5 (.p (.bin .leq .other true (.t 4) (.v (.int .i64 2147483647)))),
      om 6 (.t 5),
      ⟨(some (6, true)), (some (7, 7)), .p (.fad (.t 1) 1)⟩,
      ⟨(some (6, true)), (some (8, 8)), .l (.ld none (.t 7))⟩,
      ⟨(some (6, true)), (some (9, 9)), .p (.bin .leq .other true (.t 8) (.v (.int .i64 2147483647)))⟩,
      oq 10 (.p (.pick (.t 6) (.t 9) (.v (.bool false)))),
      om 2 (.t 10)]) (by kernel_rfl) ?_
  refine WS.c (One.fad rfl rfl ?_)
  refine WS.c (One.ld rfl (by first | exact ld_same rfl | (refine ld_skip (by omega) ?_; exact ld_same rfl) | assumption) rfl ?_)
  refine WS.c (One.bin rfl rfl bin_leq rfl ?_)
  refine WS.mv rfl rfl ?_
  refine WS.split (t := 6) rfl (fun hg1 => ?_) (fun hg1 => ?_)
  · refine WS.c (One.gPT rfl hg1 (One.fad rfl rfl ?_))
    refine WS.c (One.gPT rfl hg1 (One.ld rfl (by first | exact ld_same rfl | (refine ld_skip (by omega) ?_; exact ld_same rfl) | assumption) rfl ?_))
    refine WS.c (One.gPT rfl hg1 (One.bin rfl rfl bin_leq rfl ?_))
    refine WS.c (One.pickT rfl hg1 rfl rfl ?_)
    refine WS.mv rfl rfl ?_
    refine WS.nil ?_
    refine WC.ret ?_
    refine EndOk.less rfl rfl (HSub.new hH (Nat.le_refl _) (HSub.refl H)) ⟨?_, rfl, rfl⟩
    first
    | exact congrArg Value.bool (decide_eq_decide.2 ⟨fun h => ⟨by omega, by omega⟩, fun h => by omega⟩)
    | exact congrArg Value.bool (decide_eq_false (by omega)).symm
  · refine WS.c (One.gPF rfl hg1 rfl ?_)
    refine WS.c (One.gPF rfl hg1 rfl ?_)
    refine WS.c (One.gPF rfl hg1 rfl ?_)
    refine WS.c (One.pickF rfl hg1 rfl rfl ?_)
    refine WS.mv rfl rfl ?_
    refine WS.nil ?_
    refine WC.ret ?_
    refine EndOk.less rfl rfl (HSub.new hH (Nat.le_refl _) (HSub.refl H)) ⟨?_, rfl, rfl⟩
    first
    | exact congrArg Value.bool (decide_eq_decide.2 ⟨fun h => ⟨by omega, by omega⟩, fun h => by omega⟩)
    | exact congrArg Value.bool (decide_eq_false (by omega)).symm
theorem spec55 (hsm : sm 55 = none) (hsm57 : sm 57 = none) (hsm22 : sm 22 = none) (H : Hp) (nx lo : Nat) (c : Chg) (ahead : List UInt8) (w : Prop) [Decidable w] (v1 v2 v3 v4 : Value) (h1 : SlB H lo v1 c.key) (h2 : SlB H lo v2 c.old) (h3 : SlB H lo v3 c.new) (h4 : SlB H lo v4 ahead) (hl1 : c.key.length < 65536) (hl2 : c.old.length < 65536) (hH : HB H nx) : FnOk (envS sm) 55 [.agg ⟨chL c v1 v2 v3⟩, v4, .bool (decide w)] H nx (fun v H' nx' => v = .bool (decide (chIs c ahead w)) ∧ H = H' ∧ nx' = nx + 1) (fun _ _ _ => False) := by
  obtain ⟨a1, c1, rfl, hb1, _⟩ := h1
  obtain ⟨a2, c2, rfl, hb2, _⟩ := h2
  obtain ⟨a3, c3, rfl, hb3, _⟩ := h3
  obtain ⟨a4, c4, rfl, hb4, _⟩ := h4
  refine FnOk.of (fn := Tryz.f55) hsm rfl rfl rfl ?_
  have hSn : ∀ o, HSub H (upd H nx o) := fun o => HSub.new hH (Nat.le_refl _) (HSub.refl H)
  refine WC.seqR (xs := [oq 3 (.m (.box 68 (.t 0))),
      om 6 (.v (.bool false))]) (by kernel_rfl) ?_
  refine WS.c (One.box rfl rfl rfl ?_)
  refine WS.mv rfl rfl ?_
  refine WS.nil ?_
  refine WC.seq ?_
  refine WC.seqR (xs := [oq 7 (.p (.fad (.t 3) 0)),
      oq 8 (.l (.ld none (.t 7))),
      oq 9 (.p (.bin .lss .other true (.t 8) (.v (.int .i64 1)))),
      om 10 (.t 9),
      ⟨(some (10, false)), (some (11, 11)), .p (.fad (.t 3) 0)⟩,
      ⟨(some (10, false)), (some (12, 12)), .l (.ld none (.t 11))⟩,
      ⟨(some (10, false)), (some (13, 13)), .p (.bin .gtr .other true (.t 12) (.v (.int .i64 3)))⟩,
      oq 14 (.p (.pick (.t 10) (.v (.bool true)) (.t 13))),
      om 15 (.t 14),
      ⟨(some (15, false)), (some (16, 16)), .p (.mv (.t 2))⟩,
      ⟨(some (15, false)), (some (17, 17)), .p (.mv (.t 16))⟩,
      ⟨(some (17, true)), (some (18, 18)), .p (.fad (.t 3) 0)⟩,
      ⟨(some (17, true)), (some (19, 19)), .l (.ld none (.t 18))⟩,
      ⟨(some (17, true)), (some (20, 20)), .p (.bin .neq .other true (.t 19) (.v (.int .i64 1)))⟩,
      ⟨(some (15, false)), (some (21, 21)), .p (.pick (.t 17) (.t 20) (.v (.bool false)))⟩,
      oq 22 (.p (.pick (.t 15) (.v (.bool true)) (.t 21)))]) (by kernel_rfl) ?_
  refine WS.c (One.fad rfl rfl ?_)
  refine WS.c (One.ld rfl (by first | exact ld_same rfl | (refine ld_skip (by omega) ?_; exact ld_same rfl) | assumption) rfl ?_)
  refine WS.c (One.bin rfl rfl bin_lss rfl ?_)
  refine WS.mv rfl rfl ?_
  refine WS.split (t := 10) rfl (fun hg1 => ?_) (fun hg1 => ?_)
  · refine WS.c (One.gNF rfl hg1 rfl ?_)
    refine WS.c (One.gNF rfl hg1 rfl ?_)
    refine WS.c (One.gNF rfl hg1 rfl ?_)
    refine WS.c (One.pickT rfl hg1 rfl rfl ?_)
    refine WS.mv rfl rfl ?_
    refine WS.c (One.gF rfl rfl rfl ?_)
    refine WS.c (One.gF rfl rfl rfl ?_)
    refine WS.c (One.gU rfl rfl ?_)
    refine WS.c (One.gU rfl rfl ?_)
    refine WS.c (One.gU rfl rfl ?_)
    refine WS.c (One.gF rfl rfl rfl ?_)
    refine WS.c (One.pick rfl rfl rfl ?_)
    refine WS.nil ?_
    refine WC.condB rfl (fun _ => ?_) (fun h => nomatch h)
    refine WC.seqR (xs := [om 6 (.v (.bool false))]) (by kernel_rfl) ?_
    refine WS.mv rfl rfl ?_
    refine WS.nil ?_
    refine WC.ret ?_
    have hSx := HSub.new (o := .cells (chL c (.slice a1 c.key.length c1) (.slice a2 c.old.length c2) (.slice a3 c.new.length c3)) 68 0) hH (Nat.le_refl _) (HSub.refl H)
    first
    | refine EndOk.less rfl rfl hSx ⟨congrArg Value.bool (decide_eq_false (p := chIs c ahead w) ?_).symm, rfl, rfl⟩
      rintro ⟨h1, h2, h3, h4, h5, h6, h7, h8⟩
      first | omega | (have := h3 ‹w›; omega)
    | exact EndOk.less rfl rfl hSx ⟨congrArg Value.bool (decide_eq_true (p := chIs c ahead w) ⟨by omega, by omega, fun _ => by first | omega | contradiction, by omega, by omega, by omega, by omega, by omega⟩).symm, rfl, rfl⟩
    | exact EndOk.less rfl rfl hSx ⟨congrArg Value.bool (decide_eq_decide.2 ⟨fun ho => ⟨by omega, by omega, fun _ => by first | omega | contradiction, by omega, by omega, by omega, by omega, fun _ => ho⟩, fun h => h.2.2.2.2.2.2.2 (by omega)⟩), rfl, rfl⟩
  · refine WS.c (One.gNT rfl hg1 (One.fad rfl rfl ?_))
    refine WS.c (One.gNT rfl hg1 (One.ld rfl (by first | exact ld_same rfl | (refine ld_skip (by omega) ?_; exact ld_same rfl) | assumption) rfl ?_))
    refine WS.c (One.gNT rfl hg1 (One.bin rfl rfl bin_gtr rfl ?_))
    refine WS.c (One.pickF rfl hg1 rfl rfl ?_)
    refine WS.mv rfl rfl ?_
    refine WS.split (t := 15) rfl (fun hg3 => ?_) (fun hg3 => ?_)
    · refine WS.c (One.gNF rfl hg3 rfl ?_)
      refine WS.c (One.gNF rfl hg3 rfl ?_)
      refine WS.c (One.gU rfl rfl ?_)
      refine WS.c (One.gU rfl rfl ?_)
      refine WS.c (One.gU rfl rfl ?_)
      refine WS.c (One.gNF rfl hg3 rfl ?_)
      refine WS.c (One.pickT rfl hg3 rfl rfl ?_)
      refine WS.nil ?_
      refine WC.condB rfl (fun _ => ?_) (fun h => nomatch h)
      refine WC.seqR (xs := [om 6 (.v (.bool false))]) (by kernel_rfl) ?_
      refine WS.mv rfl rfl ?_
      refine WS.nil ?_
      refine WC.ret ?_
      have hSx := HSub.new (o := .cells (chL c (.slice a1 c.key.length c1) (.slice a2 c.old.length c2) (.slice a3 c.new.length c3)) 68 0) hH (Nat.le_refl _) (HSub.refl H)
      first
      | refine EndOk.less rfl rfl hSx ⟨congrArg Value.bool (decide_eq_false (p := chIs c ahead w) ?_).symm, rfl, rfl⟩
        rintro ⟨h1, h2, h3, h4, h5, h6, h7, h8⟩
        first | omega | (have := h3 ‹w›; omega)
      | exact EndOk.less rfl rfl hSx ⟨congrArg Value.bool (decide_eq_true (p := chIs c ahead w) ⟨by omega, by omega, fun _ => by first | omega | contradiction, by omega, by omega, by omega, by omega, by omega⟩).symm, rfl, rfl⟩
      | exact EndOk.less rfl rfl hSx ⟨congrArg Value.bool (decide_eq_decide.2 ⟨fun ho => ⟨by omega, by omega, fun _ => by first | omega | contradiction, by omega, by omega, by omega, by omega, fun _ => ho⟩, fun h => h.2.2.2.2.2.2.2 (by omega)⟩), rfl, rfl⟩
    · refine WS.c (One.gNT rfl hg3 (One.mv rfl rfl ?_))
      refine WS.c (One.gNT rfl hg3 (One.mv rfl rfl ?_))
      refine WS.split (t := 17) rfl (fun hg5 => ?_) (fun hg5 => ?_)
      · refine WS.c (One.gPT rfl hg5 (One.fad rfl rfl ?_))
        refine WS.c (One.gPT rfl hg5 (One.ld rfl (by first | exact ld_same rfl | (refine ld_skip (by omega) ?_; exact ld_same rfl) | assumption) rfl ?_))
        refine WS.c (One.gPT rfl hg5 (One.bin rfl rfl bin_neq rfl ?_))
        refine WS.c (One.gNT rfl hg3 (One.pickT rfl hg5 rfl rfl ?_))
        refine WS.c (One.pickF rfl hg3 rfl rfl ?_)
        refine WS.nil ?_
        refine WC.cond rfl (fun hc6 => ?_) (fun hc6 => ?_)
        · refine WC.seqR (xs := [om 6 (.v (.bool false))]) (by kernel_rfl) ?_
          refine WS.mv rfl rfl ?_
          refine WS.nil ?_
          refine WC.ret ?_
          have hSx := HSub.new (o := .cells (chL c (.slice a1 c.key.length c1) (.slice a2 c.old.length c2) (.slice a3 c.new.length c3)) 68 0) hH (Nat.le_refl _) (HSub.refl H)
          first
          | refine EndOk.less rfl rfl hSx ⟨congrArg Value.bool (decide_eq_false (p := chIs c ahead w) ?_).symm, rfl, rfl⟩
            rintro ⟨h1, h2, h3, h4, h5, h6, h7, h8⟩
            first | omega | (have := h3 ‹w›; omega)
          | exact EndOk.less rfl rfl hSx ⟨congrArg Value.bool (decide_eq_true (p := chIs c ahead w) ⟨by omega, by omega, fun _ => by first | omega | contradiction, by omega, by omega, by omega, by omega, by omega⟩).symm, rfl, rfl⟩
          | exact EndOk.less rfl rfl hSx ⟨congrArg Value.bool (decide_eq_decide.2 ⟨fun ho => ⟨by omega, by omega, fun _ => by first | omega | contradiction, by omega, by omega, by omega, by omega, fun _ => ho⟩, fun h => h.2.2.2.2.2.2.2 (by omega)⟩), rfl, rfl⟩
        · refine WC.skip ?_
          refine WC.seq ?_
          refine WC.seqR (xs := [oq 23 (.p (.fad (.t 3) 1)),
              oq 24 (.l (.ld none (.t 23))),
              oq 25 (.p (.len (.t 24))),
              oq 26 (.p (.bin .lss .other true (.t 25) (.v (.int .i64 1)))),
              om 27 (.t 26),
              ⟨(some (27, false)), (some (28, 28)), .p (.fad (.t 3) 1)⟩,
              ⟨(some (27, false)), (some (29, 29)), .l (.ld none (.t 28))⟩,
              ⟨(some (27, false)), (some (30, 30)), .p (.mv (.t 1))⟩,
              ⟨(some (27, false)), (some (31, 31)), .call (.v (.func (.func 57) #[] #[])) [(.t 29), (.t 30)]⟩,
              ⟨(some (27, false)), (some (32, 32)), .p (.bin .leq .other true (.t 31) (.v (.int .i64 0)))⟩,
              oq 33 (.p (.pick (.t 27) (.v (.bool true)) (.t 32))),
              om 34 (.t 33),
              ⟨(some (34, false)), (some (35, 35)), .p (.fad (.t 3) 2)⟩,
              ⟨(some (34, false)), (some (36, 36)), .l (.ld none (.t 35))⟩,
              ⟨(some (34, false)), (some (37, 37)), .p (.len (.t 36))⟩,
              ⟨(some (34, false)), (some (38, 38)), .p (.bin .gtr .other true (.t 37) (.v (.int .i64 3840)))⟩,
              oq 39 (.p (.pick (.t 34) (.v (.bool true)) (.t 38))),
              om 40 (.t 39),
              ⟨(some (40, false)), (some (41, 41)), .p (.fad (.t 3) 3)⟩,
              ⟨(some (40, false)), (some (42, 42)), .l (.ld none (.t 41))⟩,
              ⟨(some (40, false)), (some (43, 43)), .p (.len (.t 42))⟩,
              ⟨(some (40, false)), (some (44, 44)), .p (.bin .gtr .other true (.t 43) (.v (.int .i64 3840)))⟩,
              oq 45 (.p (.pick (.t 40) (.v (.bool true)) (.t 44)))]) (by kernel_rfl) ?_
          refine WS.c (One.fad rfl rfl ?_)
          refine WS.c (One.ld rfl (by first | exact ld_same rfl | (refine ld_skip (by omega) ?_; exact ld_same rfl) | assumption) rfl ?_)
          refine WS.c (One.len rfl rfl ?_)
          refine WS.c (One.bin rfl rfl bin_lss rfl ?_)
          refine WS.mv rfl rfl ?_
          refine WS.split (t := 27) rfl (fun hg7 => ?_) (fun hg7 => ?_)
          · refine WS.c (One.gNF rfl hg7 rfl ?_)
            refine WS.c (One.gNF rfl hg7 rfl ?_)
            refine WS.c (One.gNF rfl hg7 rfl ?_)
            refine WS.c (One.gNF rfl hg7 rfl ?_)
            refine WS.c (One.gNF rfl hg7 rfl ?_)
            refine WS.c (One.pickT rfl hg7 rfl rfl ?_)
            refine WS.mv rfl rfl ?_
            refine WS.c (One.gF rfl rfl rfl ?_)
            refine WS.c (One.gF rfl rfl rfl ?_)
            refine WS.c (One.gF rfl rfl rfl ?_)
            refine WS.c (One.gF rfl rfl rfl ?_)
            refine WS.c (One.pick rfl rfl rfl ?_)
            refine WS.mv rfl rfl ?_
            refine WS.c (One.gF rfl rfl rfl ?_)
            refine WS.c (One.gF rfl rfl rfl ?_)
            refine WS.c (One.gF rfl rfl rfl ?_)
            refine WS.c (One.gF rfl rfl rfl ?_)
            refine WS.c (One.pick rfl rfl rfl ?_)
            refine WS.nil ?_
            refine WC.condB rfl (fun _ => ?_) (fun h => nomatch h)
            refine WC.seqR (xs := [om 6 (.v (.bool false))]) (by kernel_rfl) ?_
            refine WS.mv rfl rfl ?_
            refine WS.nil ?_
            refine WC.ret ?_
            have hSx := HSub.new (o := .cells (chL c (.slice a1 c.key.length c1) (.slice a2 c.old.length c2) (.slice a3 c.new.length c3)) 68 0) hH (Nat.le_refl _) (HSub.refl H)
            first
            | refine EndOk.less rfl rfl hSx ⟨congrArg Value.bool (decide_eq_false (p := chIs c ahead w) ?_).symm, rfl, rfl⟩
              rintro ⟨h1, h2, h3, h4, h5, h6, h7, h8⟩
              first | omega | (have := h3 ‹w›; omega)
            | exact EndOk.less rfl rfl hSx ⟨congrArg Value.bool (decide_eq_true (p := chIs c ahead w) ⟨by omega, by omega, fun _ => by first | omega | contradiction, by omega, by omega, by omega, by omega, by omega⟩).symm, rfl, rfl⟩
            | exact EndOk.less rfl rfl hSx ⟨congrArg Value.bool (decide_eq_decide.2 ⟨fun ho => ⟨by omega, by omega, fun _ => by first | omega | contradiction, by omega, by omega, by omega, by omega, fun _ => ho⟩, fun h => h.2.2.2.2.2.2.2 (by omega)⟩), rfl, rfl⟩
          · refine WS.c (One.gNT rfl hg7 (One.fad rfl rfl ?_))
            refine WS.c (One.gNT rfl hg7 (One.ld rfl (by first | exact ld_same rfl | (refine ld_skip (by omega) ?_; exact ld_same rfl) | assumption) rfl ?_))
            refine WS.c (One.gNT rfl hg7 (One.mv rfl rfl ?_))
            refine WS.c (One.gNT rfl hg7 (One.call rfl rfl (spec57 hsm57 _ _ a1 a4 c.key ahead c1 c4 (hb1.mono (hSn _)) (hb4.mono (hSn _)) (by omega)) rfl ?_ (fun _ _ _ h => h.elim)))
            rintro _ _ _ ⟨rfl, rfl, rfl⟩
            refine WS.c (One.gNT rfl hg7 (One.bin rfl rfl bin_leq rfl ?_))
            refine WS.c (One.pickF rfl hg7 rfl rfl ?_)
            refine WS.mv rfl rfl ?_
            refine WS.split (t := 34) rfl (fun hg9 => ?_) (fun hg9 => ?_)
            · refine WS.c (One.gNF rfl hg9 rfl ?_)
              refine WS.c (One.gNF rfl hg9 rfl ?_)
              refine WS.c (One.gNF rfl hg9 rfl ?_)
              refine WS.c (One.gNF rfl hg9 rfl ?_)
              refine WS.c (One.pickT rfl hg9 rfl rfl ?_)
              refine WS.mv rfl rfl ?_
              refine WS.c (One.gF rfl rfl rfl ?_)
              refine WS.c (One.gF rfl rfl rfl ?_)
              refine WS.c (One.gF rfl rfl rfl ?_)
              refine WS.c (One.gF rfl rfl rfl ?_)
              refine WS.c (One.pick rfl rfl rfl ?_)
              refine WS.nil ?_
              refine WC.condB rfl (fun _ => ?_) (fun h => nomatch h)
              refine WC.seqR (xs := [om 6 (.v (.bool false))]) (by kernel_rfl) ?_
              refine WS.mv rfl rfl ?_
              refine WS.nil ?_
              refine WC.ret ?_
              have hSx := HSub.new (o := .cells (chL c (.slice a1 c.key.length c1) (.slice a2 c.old.length c2) (.slice a3 c.new.length c3)) 68 0) hH (Nat.le_refl _) (HSub.refl H)
              first
              | refine EndOk.less rfl rfl hSx ⟨congrArg Value.bool (decide_eq_false (p := chIs c ahead w) ?_).symm, rfl, rfl⟩
                rintro ⟨h1, h2, h3, h4, h5, h6, h7, h8⟩
                first | omega | (have := h3 ‹w›; omega)
              | exact EndOk.less rfl rfl hSx ⟨congrArg Value.bool (decide_eq_true (p := chIs c ahead w) ⟨by omega, by omega, fun _ => by first | omega | contradiction, by omega, by omega, by omega, by omega, by omega⟩).symm, rfl, rfl⟩
              | exact EndOk.less rfl rfl hSx ⟨congrArg Value.bool (decide_eq_decide.2 ⟨fun ho => ⟨by omega, by omega, fun _ => by first | omega | contradiction, by omega, by omega, by omega, by omega, fun _ => ho⟩, fun h => h.2.2.2.2.2.2.2 (by omega)⟩), rfl, rfl⟩
            · refine WS.c (One.gNT rfl hg9 (One.fad rfl rfl ?_))
              refine WS.c (One.gNT rfl hg9 (One.ld rfl (by first | exact ld_same rfl | (refine ld_skip (by omega) ?_; exact ld_same rfl) | assumption) rfl ?_))
              refine WS.c (One.gNT rfl hg9 (One.len rfl rfl ?_))
              refine WS.c (One.gNT rfl hg9 (One.bin rfl rfl bin_gtr rfl ?_))
              refine WS.c (One.pickF rfl hg9 rfl rfl ?_)
              refine WS.mv rfl rfl ?_
              refine WS.split (t := 40) rfl (fun hg11 => ?_) (fun hg11 => ?_)
              · refine WS.c (One.gNF rfl hg11 rfl ?_)
                refine WS.c (One.gNF rfl hg11 rfl ?_)
                refine WS.c (One.gNF rfl hg11 rfl ?_)
                refine WS.c (One.gNF rfl hg11 rfl ?_)
                refine WS.c (One.pickT rfl hg11 rfl rfl ?_)
                refine WS.nil ?_
                refine WC.condB rfl (fun _ => ?_) (fun h => nomatch h)
                refine WC.seqR (xs := [om 6 (.v (.bool false))]) (by kernel_rfl) ?_
                refine WS.mv rfl rfl ?_
                refine WS.nil ?_
                refine WC.ret ?_
                have hSx := HSub.new (o := .cells (chL c (.slice a1 c.key.length c1) (.slice a2 c.old.length c2) (.slice a3 c.new.length c3)) 68 0) hH (Nat.le_refl _) (HSub.refl H)
                first
                | refine EndOk.less rfl rfl hSx ⟨congrArg Value.bool (decide_eq_false (p := chIs c ahead w) ?_).symm, rfl, rfl⟩
                  rintro ⟨h1, h2, h3, h4, h5, h6, h7, h8⟩
                  first | omega | (have := h3 ‹w›; omega)
                | exact EndOk.less rfl rfl hSx ⟨congrArg Value.bool (decide_eq_true (p := chIs c ahead w) ⟨by omega, by omega, fun _ => by first | omega | contradiction, by omega, by omega, by omega, by omega, by omega⟩).symm, rfl, rfl⟩
                | exact EndOk.less rfl rfl hSx ⟨congrArg Value.bool (decide_eq_decide.2 ⟨fun ho => ⟨by omega, by omega, fun _ => by first | omega | contradiction, by omega, by omega, by omega, by omega, fun _ => ho⟩, fun h => h.2.2.2.2.2.2.2 (by omega)⟩), rfl, rfl⟩
              · refine WS.c (One.gNT rfl hg11 (One.fad rfl rfl ?_))
                refine WS.c (One.gNT rfl hg11 (One.ld rfl (by first | exact ld_same rfl | (refine ld_skip (by omega) ?_; exact ld_same rfl) | assumption) rfl ?_))
                refine WS.c (One.gNT rfl hg11 (One.len rfl rfl ?_))
                refine WS.c (One.gNT rfl hg11 (One.bin rfl rfl bin_gtr rfl ?_))
                refine WS.c (One.pickF rfl hg11 rfl rfl ?_)
                refine WS.nil ?_
                refine WC.cond rfl (fun hc13 => ?_) (fun hc13 => ?_)
                · refine WC.seqR (xs := [om 6 (.v (.bool false))]) (by kernel_rfl) ?_
                  refine WS.mv rfl rfl ?_
                  refine WS.nil ?_
                  refine WC.ret ?_
                  have hSx := HSub.new (o := .cells (chL c (.slice a1 c.key.length c1) (.slice a2 c.old.length c2) (.slice a3 c.new.length c3)) 68 0) hH (Nat.le_refl _) (HSub.refl H)
                  first
                  | refine EndOk.less rfl rfl hSx ⟨congrArg Value.bool (decide_eq_false (p := chIs c ahead w) ?_).symm, rfl, rfl⟩
                    rintro ⟨h1, h2, h3, h4, h5, h6, h7, h8⟩
                    first | omega | (have := h3 ‹w›; omega)
                  | exact EndOk.less rfl rfl hSx ⟨congrArg Value.bool (decide_eq_true (p := chIs c ahead w) ⟨by omega, by omega, fun _ => by first | omega | contradiction, by omega, by omega, by omega, by omega, by omega⟩).symm, rfl, rfl⟩
                  | exact EndOk.less rfl rfl hSx ⟨congrArg Value.bool (decide_eq_decide.2 ⟨fun ho => ⟨by omega, by omega, fun _ => by first | omega | contradiction, by omega, by omega, by omega, by omega, fun _ => ho⟩, fun h => h.2.2.2.2.2.2.2 (by omega)⟩), rfl, rfl⟩
                · refine WC.skip ?_
                  refine WC.seqR (xs := [oq 46 (.p (.fad (.t 3) 0)),
                      oq 47 (.l (.ld none (.t 46))),
                      oq 48 (.p (.bin .neq .other true (.t 47) (.v (.int .i64 3)))),
                      om 49 (.t 48),
                      ⟨(some (49, false)), (some (50, 50)), .p (.fad (.t 3) 2)⟩,
                      ⟨(some (49, false)), (some (51, 51)), .l (.ld none (.t 50))⟩,
                      ⟨(some (49, false)), (some (52, 52)), .p (.fad (.t 3) 3)⟩,
                      ⟨(some (49, false)), (some (53, 53)), .l (.ld none (.t 52))⟩,
                      ⟨(some (49, false)), (some (54, 54)), .call (.v (.func (.func 22) #[] #[])) [(.t 51), (.t 53)]⟩,
                      ⟨(some (49, false)), (some (55, 55)), .p (.not (.t 54))⟩,
                      oq 56 (.p (.pick (.t 49) (.v (.bool true)) (.t 55))),
                      om 6 (.t 56)]) (by kernel_rfl) ?_
                  refine WS.c (One.fad rfl rfl ?_)
                  refine WS.c (One.ld rfl (by first | exact ld_same rfl | (refine ld_skip (by omega) ?_; exact ld_same rfl) | assumption) rfl ?_)
                  refine WS.c (One.bin rfl rfl bin_neq rfl ?_)
                  refine WS.mv rfl rfl ?_
                  refine WS.split (t := 49) rfl (fun hg14 => ?_) (fun hg14 => ?_)
                  · refine WS.c (One.gNF rfl hg14 rfl ?_)
                    refine WS.c (One.gNF rfl hg14 rfl ?_)
                    refine WS.c (One.gNF rfl hg14 rfl ?_)
                    refine WS.c (One.gNF rfl hg14 rfl ?_)
                    refine WS.c (One.gNF rfl hg14 rfl ?_)
                    refine WS.c (One.gNF rfl hg14 rfl ?_)
                    refine WS.c (One.pickT rfl hg14 rfl rfl ?_)
                    refine WS.mv rfl rfl ?_
                    refine WS.nil ?_
                    refine WC.ret ?_
                    have hSx := HSub.new (o := .cells (chL c (.slice a1 c.key.length c1) (.slice a2 c.old.length c2) (.slice a3 c.new.length c3)) 68 0) hH (Nat.le_refl _) (HSub.refl H)
                    first
                    | refine EndOk.less rfl rfl hSx ⟨congrArg Value.bool (decide_eq_false (p := chIs c ahead w) ?_).symm, rfl, rfl⟩
                      rintro ⟨h1, h2, h3, h4, h5, h6, h7, h8⟩
                      first | omega | (have := h3 ‹w›; omega)
                    | exact EndOk.less rfl rfl hSx ⟨congrArg Value.bool (decide_eq_true (p := chIs c ahead w) ⟨by omega, by omega, fun _ => by first | omega | contradiction, by omega, by omega, by omega, by omega, by omega⟩).symm, rfl, rfl⟩
                    | exact EndOk.less rfl rfl hSx ⟨congrArg Value.bool (decide_eq_decide.2 ⟨fun ho => ⟨by omega, by omega, fun _ => by first | omega | contradiction, by omega, by omega, by omega, by omega, fun _ => ho⟩, fun h => h.2.2.2.2.2.2.2 (by omega)⟩), rfl, rfl⟩
                  · refine WS.c (One.gNT rfl hg14 (One.fad rfl rfl ?_))
                    refine WS.c (One.gNT rfl hg14 (One.ld rfl (by first | exact ld_same rfl | (refine ld_skip (by omega) ?_; exact ld_same rfl) | assumption) rfl ?_))
                    refine WS.c (One.gNT rfl hg14 (One.fad rfl rfl ?_))
                    refine WS.c (One.gNT rfl hg14 (One.ld rfl (by first | exact ld_same rfl | (refine ld_skip (by omega) ?_; exact ld_same rfl) | assumption) rfl ?_))
                    refine WS.c (One.gNT rfl hg14 (One.call rfl rfl (spec22 hsm22 hsm57 _ _ a2 a3 c.old c.new c2 c3 (hb2.mono (hSn _)) (hb3.mono (hSn _)) (by omega)) rfl ?_ (fun _ _ _ h => h.elim)))
                    rintro _ _ _ ⟨rfl, rfl, rfl⟩
                    refine WS.c (One.gNT rfl hg14 (One.not rfl rfl ?_))
                    refine WS.c (One.pickF rfl hg14 rfl rfl ?_)
                    refine WS.mv rfl rfl ?_
                    refine WS.nil ?_
                    refine WC.ret ?_
                    have hSx := HSub.new (o := .cells (chL c (.slice a1 c.key.length c1) (.slice a2 c.old.length c2) (.slice a3 c.new.length c3)) 68 0) hH (Nat.le_refl _) (HSub.refl H)
                    first
                    | refine EndOk.less rfl rfl hSx ⟨congrArg Value.bool (decide_eq_false (p := chIs c ahead w) ?_).symm, rfl, rfl⟩
                      rintro ⟨h1, h2, h3, h4, h5, h6, h7, h8⟩
                      first | omega | (have := h3 ‹w›; omega)
                    | exact EndOk.less rfl rfl hSx ⟨congrArg Value.bool (decide_eq_true (p := chIs c ahead w) ⟨by omega, by omega, fun _ => by first | omega | contradiction, by omega, by omega, by omega, by omega, by omega⟩).symm, rfl, rfl⟩
                    | exact EndOk.less rfl rfl hSx ⟨congrArg Value.bool (decide_eq_decide.2 ⟨fun ho => ⟨by omega, by omega, fun _ => by first | omega | contradiction, by omega, by omega, by omega, by omega, fun _ => ho⟩, fun h => h.2.2.2.2.2.2.2 (by omega)⟩), rfl, rfl⟩
      · refine WS.c (One.gPF rfl hg5 rfl ?_)
        refine WS.c (One.gPF rfl hg5 rfl ?_)
        refine WS.c (One.gPF rfl hg5 rfl ?_)
        refine WS.c (One.gNT rfl hg3 (One.pickF rfl hg5 rfl rfl ?_))
        refine WS.c (One.pickF rfl hg3 rfl rfl ?_)
        refine WS.nil ?_
        refine WC.condB rfl (fun h => nomatch h) (fun _ => ?_)
        refine WC.skip ?_
        refine WC.seq ?_
        refine WC.seqR (xs := [oq 23 (.p (.fad (.t 3) 1)),
            oq 24 (.l (.ld none (.t 23))),
            oq 25 (.p (.len (.t 24))),
            oq 26 (.p (.bin .lss .other true (.t 25) (.v (.int .i64 1)))),
            om 27 (.t 26),
            ⟨(some (27, false)), (some (28, 28)), .p (.fad (.t 3) 1)⟩,
            ⟨(some (27, false)), (some (29, 29)), .l (.ld none (.t 28))⟩,
            ⟨(some (27, false)), (some (30, 30)), .p (.mv (.t 1))⟩,
            ⟨(some (27, false)), (some (31, 31)), .call (.v (.func (.func 57) #[] #[])) [(.t 29), (.t 30)]⟩,
            ⟨(some (27, false)), (some (32, 32)), .p (.bin .leq .other true (.t 31) (.v (.int .i64 0)))⟩,
            oq 33 (.p (.pick (.t 27) (.v (.bool true)) (.t 32))),
            om 34 (.t 33),
            ⟨(some (34, false)), (some (35, 35)), .p (.fad (.t 3) 2)⟩,
            ⟨(some (34, false)), (some (36, 36)), .l (.ld none (.t 35))⟩,
            ⟨(some (34, false)), (some (37, 37)), .p (.len (.t 36))⟩,
            ⟨(some (34, false)), (some (38, 38)), .p (.bin .gtr .other true (.t 37) (.v (.int .i64 3840)))⟩,
            oq 39 (.p (.pick (.t 34) (.v (.bool true)) (.t 38))),
            om 40 (.t 39),
            ⟨(some (40, false)), (some (41, 41)), .p (.fad (.t 3) 3)⟩,
            ⟨(some (40, false)), (some (42, 42)), .l (.ld none (.t 41))⟩,
            ⟨(some (40, false)), (some (43, 43)), .p (.len (.t 42))⟩,
            ⟨(some (40, false)), (some (44, 44)), .p (.bin .gtr .other true (.t 43) (.v (.int .i64 3840)))⟩,
            oq 45 (.p (.pick (.t 40) (.v (.bool true)) (.t 44)))]) (by kernel_rfl) ?_
        refine WS.c (One.fad rfl rfl ?_)
        refine WS.c (One.ld rfl (by first | exact ld_same rfl | (refine ld_skip (by omega) ?_; exact ld_same rfl) | assumption) rfl ?_)
        refine WS.c (One.len rfl rfl ?_)
        refine WS.c (One.bin rfl rfl bin_lss rfl ?_)
        refine WS.mv rfl rfl ?_
        refine WS.split (t := 27) rfl (fun hg16 => ?_) (fun hg16 => ?_)
        · refine WS.c (One.gNF rfl hg16 rfl ?_)
          refine WS.c (One.gNF rfl hg16 rfl ?_)
          refine WS.c (One.gNF rfl hg16 rfl ?_)
          refine WS.c (One.gNF rfl hg16 rfl ?_)
          refine WS.c (One.gNF rfl hg16 rfl ?_)
          refine WS.c (One.pickT rfl hg16 rfl rfl ?_)
          refine WS.mv rfl rfl ?_
          refine WS.c (One.gF rfl rfl rfl ?_)
          refine WS.c (One.gF rfl rfl rfl ?_)
          refine WS.c (One.gF rfl rfl rfl ?_)
          refine WS.c (One.gF rfl rfl rfl ?_)
          refine WS.c (One.pick rfl rfl rfl ?_)
          refine WS.mv rfl rfl ?_
          refine WS.c (One.gF rfl rfl rfl ?_)
          refine WS.c (One.gF rfl rfl rfl ?_)
          refine WS.c (One.gF rfl rfl rfl ?_)
          refine WS.c (One.gF rfl rfl rfl ?_)
          refine WS.c (One.pick rfl rfl rfl ?_)
          refine WS.nil ?_
          refine WC.condB rfl (fun _ => ?_) (fun h => nomatch h)
          refine WC.seqR (xs := [om 6 (.v (.bool false))]) (by kernel_rfl) ?_
          refine WS.mv rfl rfl ?_
          refine WS.nil ?_
          refine WC.ret ?_
          have hSx := HSub.new (o := .cells (chL c (.slice a1 c.key.length c1) (.slice a2 c.old.length c2) (.slice a3 c.new.length c3)) 68 0) hH (Nat.le_refl _) (HSub.refl H)
          first
          | refine EndOk.less rfl rfl hSx ⟨congrArg Value.bool (decide_eq_false (p := chIs c ahead w) ?_).symm, rfl, rfl⟩
            rintro ⟨h1, h2, h3, h4, h5, h6, h7, h8⟩
            first | omega | (have := h3 ‹w›; omega)
          | exact EndOk.less rfl rfl hSx ⟨congrArg Value.bool (decide_eq_true (p := chIs c ahead w) ⟨by omega, by omega, fun _ => by first | omega | contradiction, by omega, by omega, by omega, by omega, by omega⟩).symm, rfl, rfl⟩
          | exact EndOk.less rfl rfl hSx ⟨congrArg Value.bool (decide_eq_decide.2 ⟨fun ho => ⟨by omega, by omega, fun _ => by first | omega | contradiction, by omega, by omega, by omega, by omega, fun _ => ho⟩, fun h => h.2.2.2.2.2.2.2 (by omega)⟩), rfl, rfl⟩
        · refine WS.c (One.gNT rfl hg16 (One.fad rfl rfl ?_))
          refine WS.c (One.gNT rfl hg16 (One.ld rfl (by first | exact ld_same rfl | (refine ld_skip (by omega) ?_; exact ld_same rfl) | assumption) rfl ?_))
          refine WS.c (One.gNT rfl hg16 (One.mv rfl rfl ?_))
          refine WS.c (One.gNT rfl hg16 (One.call rfl rfl (spec57 hsm57 _ _ a1 a4 c.key ahead c1 c4 (hb1.mono (hSn _)) (hb4.mono (hSn _)) (by omega)) rfl ?_ (fun _ _ _ h => h.elim)))
          rintro _ _ _ ⟨rfl, rfl, rfl⟩
          refine WS.c (One.gNT rfl hg16 (One.bin rfl rfl bin_leq rfl ?_))
          refine WS.c (One.pickF rfl hg16 rfl rfl ?_)
          refine WS.mv rfl rfl ?_
          refine WS.split (t := 34) rfl (fun hg18 => ?_) (fun hg18 => ?_)
          · refine WS.c (One.gNF rfl hg18 rfl ?_)
            refine WS.c (One.gNF rfl hg18 rfl ?_)
            refine WS.c (One.gNF rfl hg18 rfl ?_)
            refine WS.c (One.gNF rfl hg18 rfl ?_)
            refine WS.c (One.pickT rfl hg18 rfl rfl ?_)
            refine WS.mv rfl rfl ?_
            refine WS.c (One.gF rfl rfl rfl ?_)
            refine WS.c (One.gF rfl rfl rfl ?_)
            refine WS.c (One.gF rfl rfl rfl ?_)
            refine WS.c (One.gF rfl rfl rfl ?_)
            refine WS.c (One.pick rfl rfl rfl ?_)
            refine WS.nil ?_
            refine WC.condB rfl (fun _ => ?_) (fun h => nomatch h)
            refine WC.seqR (xs := [om 6 (.v (.bool false))]) (by kernel_rfl) ?_
            refine WS.mv rfl rfl ?_
            refine WS.nil ?_
            refine WC.ret ?_
            have hSx := HSub.new (o := .cells (chL c (.slice a1 c.key.length c1) (.slice a2 c.old.length c2) (.slice a3 c.new.length c3)) 68 0) hH (Nat.le_refl _) (HSub.refl H)
            first
            | refine EndOk.less rfl rfl hSx ⟨congrArg Value.bool (decide_eq_false (p := chIs c ahead w) ?_).symm, rfl, rfl⟩
              rintro ⟨h1, h2, h3, h4, h5, h6, h7, h8⟩
              first | omega | (have := h3 ‹w›; omega)
            | exact EndOk.less rfl rfl hSx ⟨congrArg Value.bool (decide_eq_true (p := chIs c ahead w) ⟨by omega, by omega, fun _ => by first | omega | contradiction, by omega, by omega, by omega, by omega, by omega⟩).symm, rfl, rfl⟩
            | exact EndOk.less rfl rfl hSx ⟨congrArg Value.bool (decide_eq_decide.2 ⟨fun ho => ⟨by omega, by omega, fun _ => by first | omega | contradiction, by omega, by omega, by omega, by omega, fun _ => ho⟩, fun h => h.2.2.2.2.2.2.2 (by omega)⟩), rfl, rfl⟩
          · refine WS.c (One.gNT rfl hg18 (One.fad rfl rfl ?_))
            refine WS.c (One.gNT rfl hg18 (One.ld rfl (by first | exact ld_same rfl | (refine ld_skip (by omega) ?_; exact ld_same rfl) | assumption) rfl ?_))
            refine WS.c (One.gNT rfl hg18 (One.len rfl rfl ?_))
            refine WS.c (One.gNT rfl hg18 (One.bin rfl rfl bin_gtr rfl ?_))
            refine WS.c (One.pickF rfl hg18 rfl rfl ?_)
            refine WS.mv rfl rfl ?_
            refine WS.split (t := 40) rfl (fun hg20 => ?_) (fun hg20 => ?_)
            · refine WS.c (One.gNF rfl hg20 rfl ?_)
              refine WS.c (One.gNF rfl hg20 rfl ?_)
              refine WS.c (One.gNF rfl hg20 rfl ?_)
              refine WS.c (One.gNF rfl hg20 rfl ?_)
              refine WS.c (One.pickT rfl hg20 rfl rfl ?_)
              refine WS.nil ?_
              refine WC.condB rfl (fun _ => ?_) (fun h => nomatch h)
              refine WC.seqR (xs := [om 6 (.v (.bool false))]) (by kernel_rfl) ?_
              refine WS.mv rfl rfl ?_
              refine WS.nil ?_
              refine WC.ret ?_
              have hSx := HSub.new (o := .cells (chL c (.slice a1 c.key.length c1) (.slice a2 c.old.length c2) (.slice a3 c.new.length c3)) 68 0) hH (Nat.le_refl _) (HSub.refl H)
              first
              | refine EndOk.less rfl rfl hSx ⟨congrArg Value.bool (decide_eq_false (p := chIs c ahead w) ?_).symm, rfl, rfl⟩
                rintro ⟨h1, h2, h3, h4, h5, h6, h7, h8⟩
                first | omega | (have := h3 ‹w›; omega)
              | exact EndOk.less rfl rfl hSx ⟨congrArg Value.bool (decide_eq_true (p := chIs c ahead w) ⟨by omega, by omega, fun _ => by first | omega | contradiction, by omega, by omega, by omega, by omega, by omega⟩).symm, rfl, rfl⟩
              | exact EndOk.less rfl rfl hSx ⟨congrArg Value.bool (decide_eq_decide.2 ⟨fun ho => ⟨by omega, by omega, fun _ => by first | omega | contradiction, by omega, by omega, by omega, by omega, fun _ => ho⟩, fun h => h.2.2.2.2.2.2.2 (by omega)⟩), rfl, rfl⟩
            · refine WS.c (One.gNT rfl hg20 (One.fad rfl rfl ?_))
              refine WS.c (One.gNT rfl hg20 (One.ld rfl (by first | exact ld_same rfl | (refine ld_skip (by omega) ?_; exact ld_same rfl) | assumption) rfl ?_))
              refine WS.c (One.gNT rfl hg20 (One.len rfl rfl ?_))
              refine WS.c (One.gNT rfl hg20 (One.bin rfl rfl bin_gtr rfl ?_))
              refine WS.c (One.pickF rfl hg20 rfl rfl ?_)
              refine WS.nil ?_
              refine WC.cond rfl (fun hc22 => ?_) (fun hc22 => ?_)
              · refine WC.seqR (xs := [om 6 (.v (.bool false))]) (by kernel_rfl) ?_
                refine WS.mv rfl rfl ?_
                refine WS.nil ?_
                refine WC.ret ?_
                have hSx := HSub.new (o := .cells (chL c (.slice a1 c.key.length c1) (.slice a2 c.old.length c2) (.slice a3 c.new.length c3)) 68 0) hH (Nat.le_refl _) (HSub.refl H)
                first
                | refine EndOk.less rfl rfl hSx ⟨congrArg Value.bool (decide_eq_false (p := chIs c ahead w) ?_).symm, rfl, rfl⟩
                  rintro ⟨h1, h2, h3, h4, h5, h6, h7, h8⟩
                  first | omega | (have := h3 ‹w›; omega)
                | exact EndOk.less rfl rfl hSx ⟨congrArg Value.bool (decide_eq_true (p := chIs c ahead w) ⟨by omega, by omega, fun _ => by first | omega | contradiction, by omega, by omega, by omega, by omega, by omega⟩).symm, rfl, rfl⟩
                | exact EndOk.less rfl rfl hSx ⟨congrArg Value.bool (decide_eq_decide.2 ⟨fun ho => ⟨by omega, by omega, fun _ => by first | omega | contradiction, by omega, by omega, by omega, by omega, fun _ => ho⟩, fun h => h.2.2.2.2.2.2.2 (by omega)⟩), rfl, rfl⟩
              · refine WC.skip ?_
                refine WC.seqR (xs := [oq 46 (.p (.fad (.t 3) 0)),
                    oq 47 (.l (.ld none (.t 46))),
                    oq 48 (.p (.bin .neq .other true (.t 47) (.v (.int .i64 3)))),
                    om 49 (.t 48),
                    ⟨(some (49, false)), (some (50, 50)), .p (.fad (.t 3) 2)⟩,
                    ⟨(some (49, false)), (some (51, 51)), .l (.ld none (.t 50))⟩,
                    ⟨(some (49, false)), (some (52, 52)), .p (.fad (.t 3) 3)⟩,
                    ⟨(some (49, false)), (some (53, 53)), .l (.ld none (.t 52))⟩,
                    ⟨(some (49, false)), (some (54, 54)), .call (.v (.func (.func 22) #[] #[])) [(.t 51), (.t 53)]⟩,
                    ⟨(some (49, false)), (some (55, 55)), .p (.not (.t 54))⟩,
                    oq 56 (.p (.pick (.t 49) (.v (.bool true)) (.t 55))),
                    om 6 (.t 56)]) (by kernel_rfl) ?_
                refine WS.c (One.fad rfl rfl ?_)
                refine WS.c (One.ld rfl (by first | exact ld_same rfl | (refine ld_skip (by omega) ?_; exact ld_same rfl) | assumption) rfl ?_)
                refine WS.c (One.bin rfl rfl bin_neq rfl ?_)
                refine WS.mv rfl rfl ?_
                refine WS.split (t := 49) rfl (fun hg23 => ?_) (fun hg23 => ?_)
                · refine WS.c (One.gNF rfl hg23 rfl ?_)
                  refine WS.c (One.gNF rfl hg23 rfl ?_)
                  refine WS.c (One.gNF rfl hg23 rfl ?_)
                  refine WS.c (One.gNF rfl hg23 rfl ?_)
                  refine WS.c (One.gNF rfl hg23 rfl ?_)
                  refine WS.c (One.gNF rfl hg23 rfl ?_)
                  refine WS.c (One.pickT rfl hg23 rfl rfl ?_)
                  refine WS.mv rfl rfl ?_
                  refine WS.nil ?_
                  refine WC.ret ?_
                  have hSx := HSub.new (o := .cells (chL c (.slice a1 c.key.length c1) (.slice a2 c.old.length c2) (.slice a3 c.new.length c3)) 68 0) hH (Nat.le_refl _) (HSub.refl H)
                  first
                  | refine EndOk.less rfl rfl hSx ⟨congrArg Value.bool (decide_eq_false (p := chIs c ahead w) ?_).symm, rfl, rfl⟩
                    rintro ⟨h1, h2, h3, h4, h5, h6, h7, h8⟩
                    first | omega | (have := h3 ‹w›; omega)
                  | exact EndOk.less rfl rfl hSx ⟨congrArg Value.bool (decide_eq_true (p := chIs c ahead w) ⟨by omega, by omega, fun _ => by first | omega | contradiction, by omega, by omega, by omega, by omega, by omega⟩).symm, rfl, rfl⟩
                  | exact EndOk.less rfl rfl hSx ⟨congrArg Value.bool (decide_eq_decide.2 ⟨fun ho => ⟨by omega, by omega, fun _ => by first | omega | contradiction, by omega, by omega, by omega, by omega, fun _ => ho⟩, fun h => h.2.2.2.2.2.2.2 (by omega)⟩), rfl, rfl⟩
                · refine WS.c (One.gNT rfl hg23 (One.fad rfl rfl ?_))
                  refine WS.c (One.gNT rfl hg23 (One.ld rfl (by first | exact ld_same rfl | (refine ld_skip (by omega) ?_; exact ld_same rfl) | assumption) rfl ?_))
                  refine WS.c (One.gNT rfl hg23 (One.fad rfl rfl ?_))
                  refine WS.c (One.gNT rfl hg23 (One.ld rfl (by first | exact ld_same rfl | (refine ld_skip (by omega) ?_; exact ld_same rfl) | assumption) rfl ?_))
                  refine WS.c (One.gNT rfl hg23 (One.call rfl rfl (spec22 hsm22 hsm57 _ _ a2 a3 c.old c.new c2 c3 (hb2.mono (hSn _)) (hb3.mono (hSn _)) (by omega)) rfl ?_ (fun _ _ _ h => h.elim)))
                  rintro _ _ _ ⟨rfl, rfl, rfl⟩
                  refine WS.c (One.gNT rfl hg23 (One.not rfl rfl ?_))
                  refine WS.c (One.pickF rfl hg23 rfl rfl ?_)
                  refine WS.mv rfl rfl ?_
                  refine WS.nil ?_
                  refine WC.ret ?_
                  have hSx := HSub.new (o := .cells (chL c (.slice a1 c.key.length c1) (.slice a2 c.old.length c2) (.slice a3 c.new.length c3)) 68 0) hH (Nat.le_refl _) (HSub.refl H)
                  first
                  | refine EndOk.less rfl rfl hSx ⟨congrArg Value.bool (decide_eq_false (p := chIs c ahead w) ?_).symm, rfl, rfl⟩
                    rintro ⟨h1, h2, h3, h4, h5, h6, h7, h8⟩
                    first | omega | (have := h3 ‹w›; omega)
                  | exact EndOk.less rfl rfl hSx ⟨congrArg Value.bool (decide_eq_true (p := chIs c ahead w) ⟨by omega, by omega, fun _ => by first | omega | contradiction, by omega, by omega, by omega, by omega, by omega⟩).symm, rfl, rfl⟩
                  | exact EndOk.less rfl rfl hSx ⟨congrArg Value.bool (decide_eq_decide.2 ⟨fun ho => ⟨by omega, by omega, fun _ => by first | omega | contradiction, by omega, by omega, by omega, by omega, fun _ => ho⟩, fun h => h.2.2.2.2.2.2.2 (by omega)⟩), rfl, rfl⟩
theorem spec54 (hsm : sm 54 = none) (hsm106 : sm 106 = none) (hsm51 : sm 51 = none) (hsm105 : sm 105 = none) (hsm104 : sm 104 = none) (hsm107 : sm 107 = none) (hsm171 : sm 171 = none) (H : Hp) (nx r b : Nat) (s : RS) (hR : RR H r b s.1 s.2) (hH : HB H nx) : FnOk (envS sm) 54 [.pointer (some ⟨r, 0, none⟩)] H nx (fun v H' nx' => (∃ v1 v2 v3, v = .agg ⟨chL (chC false s) v1 v2 v3⟩ ∧ SlB H' nx v1 (keV s) ∧ SlB H' nx v2 (olV false s) ∧ SlB H' nx v3 (neV false s)) ∧ RR H' r b (neS false s).1 (neS false s).2 ∧ HSub (del H r) H' ∧ HB H' nx' ∧ nx ≤ nx') (fun _ _ _ => False) := by
  refine FnOk.of (fn := Tryz.f54) hsm rfl rfl rfl ?_
  have hrn := hR.lt hH
  have hbn := hR.ltb hH
  have k1 : leV (rawO s.1 s.2 1) < _ := gV1 s
  refine WC.seqR (xs := [oq 2 (.m (.alc [(.int .i64 0), (.slice none 0 0), (.slice none 0 0), (.slice none 0 0)] 68))]) (by kernel_rfl) ?_
  refine WS.c (One.alc rfl ?_)
  refine WS.nil ?_
  refine WC.seqR (xs := [om 4 (.t 0),
      oq 5 (.call (.v (.func (.func 51) #[] #[])) [(.t 4), (.v (.int .i64 1))]),
      oq 6 (.p (.cvI .i64 (.t 5))),
      oq 7 (.p (.bld [(0, 1, (.t 6))] [(.int .i64 0), (.slice none 0 0), (.slice none 0 0), (.slice none 0 0)])),
      oq 3 (.m (.alc [(.int .i64 0), (.slice none 0 0), (.slice none 0 0), (.slice none 0 0)] 68)),
      ⟨none, none, .w (.sto 4 (.t 3) (.t 7))⟩]) (by kernel_rfl) ?_
  refine WS.mv rfl rfl ?_
  refine WS.c (One.call rfl rfl (spec51 hsm51 hsm105 hsm104 hsm107 hsm171 _ _ r b _ 1 _ (hR.upd (by omega) (by omega)) hH.new (by omega)) rfl ?_ (fun _ _ _ h => h.elim))
  rintro _ H2 n2 ⟨rfl, hR2, hS2, hB2, hn2⟩
  refine WS.c (One.cvI rfl (wrap_i64 (by omega) (by omega)) rfl ?_)
  refine WS.c (One.bld rfl rfl ?_)
  refine WS.c (One.alc rfl ?_)
  refine WS.z (One.sto (cs' := [.int .i64 (gV s 1 : Nat), .slice none 0 0, .slice none 0 0, .slice none 0 0]) rfl rfl upd_eq rfl rfl rfl rfl ?_)
  refine WS.nil ?_
  refine WC.seqR (xs := [om 8 (.t 0),
      oq 9 (.call (.v (.func (.func 106) #[] #[])) [(.t 8), (.v (.int .i64 24))]),
      oq 10 (.p (.fad (.t 3) 1)),
      ⟨none, none, .w (.sto 1 (.t 10) (.t 9))⟩]) (by kernel_rfl) ?_
  have hRa := (hR2.upd (c := n2) (o := .cells [.int .i64 0, .slice none 0 0, .slice none 0 0, .slice none 0 0] 68 0) (by omega) (by omega)).upd (c := n2) (o := .cells [.int .i64 (gV s 1 : Nat), .slice none 0 0, .slice none 0 0, .slice none 0 0] 68 0) (by omega) (by omega)
  have hBa := hB2.new (o := .cells [.int .i64 0, .slice none 0 0, .slice none 0 0, .slice none 0 0] 68 0) |>.upd (b := n2) (o := .cells [.int .i64 (gV s 1 : Nat), .slice none 0 0, .slice none 0 0, .slice none 0 0] 68 0) (by omega)
  have hSa := HSub.new (b := n2) (o := .cells [.int .i64 (gV s 1 : Nat), .slice none 0 0, .slice none 0 0, .slice none 0 0] 68 0) hH.new.del (by omega) (HSub.new (b := n2) (o := .cells [.int .i64 0, .slice none 0 0, .slice none 0 0, .slice none 0 0] 68 0) hH.new.del (by omega) hS2)
  refine WS.mv rfl rfl ?_
  refine WS.c (One.call rfl rfl (spec106 hsm106 hsm105 hsm104 hsm107 hsm171 _ _ r b _ 24 _ hRa hBa (by omega)) rfl ?_ (fun _ _ _ h => h.elim))
  rintro v1 H3 n3 ⟨hv1, hR3, hS3, hB3, hn3⟩
  have q1 : SlB H3 (n2 + 1) v1 (keV s) := hv1
  have hT3 := HSub.delT hSa hS3
  have hc3 := del_at hS3 upd_eq (by omega)
  obtain ⟨a1, c1, hve1, _, _⟩ := hv1
  subst hve1
  refine WS.c (One.fad rfl rfl ?_)
  refine WS.z (One.sto (cs' := [.int .i64 (gV s 1 : Nat), .slice a1 (keV s).length c1, .slice none 0 0, .slice none 0 0]) rfl rfl hc3 rfl rfl rfl rfl ?_)
  refine WS.nil ?_
  refine WC.seq ?_
  refine WC.seqR (xs := [oq 11 (.p (.fad (.t 3) 0)),
      oq 12 (.l (.ld none (.t 11))),
      oq 13 (.p (.bin .neq .other true (.t 12) (.v (.int .i64 1))))]) (by kernel_rfl) ?_
  have hRb : RR _ r b (keS s).1 (keS s).2 := hR3.upd (c := n2) (o := .cells [.int .i64 (gV s 1 : Nat), .slice a1 (keV s).length c1, .slice none 0 0, .slice none 0 0] 68 0) (by omega) (by omega)
  have hBb := hB3.upd (b := n2) (o := .cells [.int .i64 (gV s 1 : Nat), .slice a1 (keV s).length c1, .slice none 0 0, .slice none 0 0] 68 0) (by omega)
  have hSb := HSub.new (b := n2) (o := .cells [.int .i64 (gV s 1 : Nat), .slice a1 (keV s).length c1, .slice none 0 0, .slice none 0 0] 68 0) hH.new.del (by omega) hT3
  have q1b := q1.upd (c := n2) (o := .cells [.int .i64 (gV s 1 : Nat), .slice a1 (keV s).length c1, .slice none 0 0, .slice none 0 0] 68 0) (by omega)
  refine WS.c (One.fad rfl rfl ?_)
  refine WS.c (One.ld rfl (by first | exact ld_same rfl | (refine ld_skip (by omega) ?_; exact ld_same rfl) | assumption) rfl ?_)
  refine WS.c (One.bin rfl rfl bin_neq rfl ?_)
  refine WS.nil ?_
  refine WC.cond rfl (fun hc1 => ?_) (fun hc1 => ?_)
  · have hk : ¬ gV s 1 = 1 := by omega
    refine WC.region (xs := [om 14 (.t 0),
        om 15 (.t 0),
        oq 16 (.call (.v (.func (.func 51) #[] #[])) [(.t 15), (.v (.int .i64 2))]),
        oq 17 (.p (.cvI .i64 (.t 16))),
        oq 18 (.call (.v (.func (.func 105) #[] #[])) [(.t 14), (.t 17)]),
        oq 19 (.p (.fad (.t 3) 2)),
        ⟨none, none, .w (.sto 1 (.t 19) (.t 18))⟩]) (by kernel_rfl) ?_
    refine WS.mv rfl rfl ?_
    refine WS.mv rfl rfl ?_
    have kk : leV (rawO (keS s).1 (keS s).2 2) < _ := gV2 (keS s)
    refine WS.c (One.call rfl rfl (spec51 hsm51 hsm105 hsm104 hsm107 hsm171 _ _ r b _ 2 _ hRb hBb (by omega)) rfl ?_ (fun _ _ _ h => h.elim))
    rintro _ H4 n4 ⟨rfl, hR4, hS4, hB4, hn4⟩
    have hT4 := HSub.delT hSb hS4
    have hc4 := del_at hS4 upd_eq (by omega)
    have q14 := q1b.low hS4 (by omega)
    refine WS.c (One.cvI rfl (wrap_i64 (by omega) (by omega)) rfl ?_)
    refine WS.c (One.call rfl rfl (spec105 hsm105 hsm104 hsm107 hsm171 _ _ r b _ _ _ hR4 hB4 (by omega)) rfl ?_ (fun _ _ _ h => h.elim))
    rintro v5 H5 n5 ⟨hv, hR5, hS5, hB5, hn5⟩
    have hv5 : SlB H5 n4 v5 (vlV false (keS s)) := hv
    have hT5 := HSub.delT hT4 hS5
    have hc5 := del_at hS5 hc4 (by omega)
    have q15 := q14.low hS5 (by omega)
    have q2 := (hv5.le (l := n2 + 1) (by omega)).cast (show olV false s = _ from if_neg hk)
    obtain ⟨a2, c2, hve2, _, _⟩ := id q2
    subst hve2
    refine WS.c (One.fad rfl rfl ?_)
    refine WS.z (One.sto (cs' := [.int .i64 (gV s 1 : Nat), .slice a1 (keV s).length c1, .slice a2 (olV false s).length c2, .slice none 0 0]) rfl rfl hc5 rfl rfl rfl rfl ?_)
    have hRc := (hR5.cast (show olS false s = vlS false (keS s) from if_neg hk)).upd (c := n2) (o := .cells [.int .i64 (gV s 1 : Nat), .slice a1 (keV s).length c1, .slice a2 (olV false s).length c2, .slice none 0 0] 68 0) (by omega) (by omega)
    have hBc := hB5.upd (b := n2) (o := .cells [.int .i64 (gV s 1 : Nat), .slice a1 (keV s).length c1, .slice a2 (olV false s).length c2, .slice none 0 0] 68 0) (by omega)
    have hSc := HSub.new (b := n2) (o := .cells [.int .i64 (gV s 1 : Nat), .slice a1 (keV s).length c1, .slice a2 (olV false s).length c2, .slice none 0 0] 68 0) hH.new.del (by omega) hT5
    have q1c := q15.upd (c := n2) (o := .cells [.int .i64 (gV s 1 : Nat), .slice a1 (keV s).length c1, .slice a2 (olV false s).length c2, .slice none 0 0] 68 0) (by omega)
    have q2c := q2.upd (c := n2) (o := .cells [.int .i64 (gV s 1 : Nat), .slice a1 (keV s).length c1, .slice a2 (olV false s).length c2, .slice none 0 0] 68 0) (by omega)
    refine WS.nil ?_
    refine WC.seq ?_
    refine WC.seqR (xs := [oq 20 (.p (.fad (.t 3) 0)),
        oq 21 (.l (.ld none (.t 20))),
        oq 22 (.p (.bin .neq .other true (.t 21) (.v (.int .i64 2))))]) (by kernel_rfl) ?_
    refine WS.c (One.fad rfl rfl ?_)
    refine WS.c (One.ld rfl (by first | exact ld_same rfl | (refine ld_skip (by omega) ?_; exact ld_same rfl) | assumption) rfl ?_)
    refine WS.c (One.bin rfl rfl bin_neq rfl ?_)
    refine WS.nil ?_
    refine WC.cond rfl (fun hc2 => ?_) (fun hc2 => ?_)
    · have hk2 : ¬ gV s 1 = 2 := by omega
      refine WC.region (xs := [om 23 (.t 0),
          om 24 (.t 0),
          oq 25 (.call (.v (.func (.func 51) #[] #[])) [(.t 24), (.v (.int .i64 2))]),
          oq 26 (.p (.cvI .i64 (.t 25))),
          oq 27 (.call (.v (.func (.func 105) #[] #[])) [(.t 23), (.t 26)]),
          oq 28 (.p (.fad (.t 3) 3)),
          ⟨none, none, .w (.sto 1 (.t 28) (.t 27))⟩]) (by kernel_rfl) ?_
      refine WS.mv rfl rfl ?_
      refine WS.mv rfl rfl ?_
      have kk : leV (rawO (olS false s).1 (olS false s).2 2) < _ := gV2 (olS false s)
      refine WS.c (One.call rfl rfl (spec51 hsm51 hsm105 hsm104 hsm107 hsm171 _ _ r b _ 2 _ hRc hBc (by omega)) rfl ?_ (fun _ _ _ h => h.elim))
      rintro _ H6 n6 ⟨rfl, hR6, hS6, hB6, hn6⟩
      have hT6 := HSub.delT hSc hS6
      have hc6 := del_at hS6 upd_eq (by omega)
      have q16 := q1c.low hS6 (by omega)
      have q26 := q2c.low hS6 (by omega)
      refine WS.c (One.cvI rfl (wrap_i64 (by omega) (by omega)) rfl ?_)
      refine WS.c (One.call rfl rfl (spec105 hsm105 hsm104 hsm107 hsm171 _ _ r b _ _ _ hR6 hB6 (by omega)) rfl ?_ (fun _ _ _ h => h.elim))
      rintro v7 H7 n7 ⟨hv, hR7, hS7, hB7, hn7⟩
      have hv7 : SlB H7 n6 v7 (vlV false (olS false s)) := hv
      have hT7 := HSub.delT hT6 hS7
      have hc7 := del_at hS7 hc6 (by omega)
      have q17 := q16.low hS7 (by omega)
      have q27 := q26.low hS7 (by omega)
      have q3 := (hv7.le (l := n2 + 1) (by omega)).cast (show neV false s = _ from if_neg hk2)
      obtain ⟨a3, c3, hve3, _, _⟩ := id q3
      subst hve3
      refine WS.c (One.fad rfl rfl ?_)
      refine WS.z (One.sto (cs' := [.int .i64 (gV s 1 : Nat), .slice a1 (keV s).length c1, .slice a2 (olV false s).length c2, .slice a3 (neV false s).length c3]) rfl rfl hc7 rfl rfl rfl rfl ?_)
      have hRd := (hR7.cast (show neS false s = vlS false (olS false s) from if_neg hk2)).upd (c := n2) (o := .cells [.int .i64 (gV s 1 : Nat), .slice a1 (keV s).length c1, .slice a2 (olV false s).length c2, .slice a3 (neV false s).length c3] 68 0) (by omega) (by omega)
      have hBd := hB7.upd (b := n2) (o := .cells [.int .i64 (gV s 1 : Nat), .slice a1 (keV s).length c1, .slice a2 (olV false s).length c2, .slice a3 (neV false s).length c3] 68 0) (by omega)
      have hSd := HSub.new (b := n2) (o := .cells [.int .i64 (gV s 1 : Nat), .slice a1 (keV s).length c1, .slice a2 (olV false s).length c2, .slice a3 (neV false s).length c3] 68 0) hH.new.del (by omega) hT7
      have q1d := q17.upd (c := n2) (o := .cells [.int .i64 (gV s 1 : Nat), .slice a1 (keV s).length c1, .slice a2 (olV false s).length c2, .slice a3 (neV false s).length c3] 68 0) (by omega)
      have q2d := q27.upd (c := n2) (o := .cells [.int .i64 (gV s 1 : Nat), .slice a1 (keV s).length c1, .slice a2 (olV false s).length c2, .slice a3 (neV false s).length c3] 68 0) (by omega)
      have q3d := q3.upd (c := n2) (o := .cells [.int .i64 (gV s 1 : Nat), .slice a1 (keV s).length c1, .slice a2 (olV false s).length c2, .slice a3 (neV false s).length c3] 68 0) (by omega)
      refine WS.nil ?_
      refine WC.seqR (xs := [oq 29 (.l (.ld (some 4) (.t 3))),
          ⟨none, none, .w (.sto 4 (.t 2) (.t 29))⟩]) (by kernel_rfl) ?_
      refine WS.c (One.ld rfl (ld_sameA (m := 4) (Nat.le_refl 4) rfl) rfl ?_)
      have hres := hSd nx _ (by rw [del_ne (by omega)]; exact upd_eq)
      refine WS.z (One.sto (cs' := _) rfl rfl hres rfl rfl rfl rfl ?_)
      refine WS.nil ?_
      refine WC.ret ?_
      exact EndOk.now rfl (resE_cell rfl (by kernel_rfl) (ld_sameA (m := 4) (Nat.le_refl 4) rfl) rfl) ⟨⟨_, _, _, rfl, (q1d.upd (by omega)).le (by omega), (q2d.upd (by omega)).le (by omega), (q3d.upd (by omega)).le (by omega)⟩, hRd.upd (by omega) (by omega), HSub.new hH.del (Nat.le_refl _) (HSub.delT (HSub.new hH.del (Nat.le_refl _) (HSub.delL H r)) hSd), hBd.upd (by omega), by omega⟩
    · have hk2 : gV s 1 = 2 := by omega
      have hRd := hRc.cast (show neS false s = _ from if_pos hk2)
      have hBd := hBc
      have hSd := hSc
      have q1d := q1c
      have q2d := q2c
      have q3d := SlB.nilR (lo := n2 + 1) hRd (show neV false s = [] from if_pos hk2)
      refine WC.skip ?_
      refine WC.seqR (xs := [oq 29 (.l (.ld (some 4) (.t 3))),
          ⟨none, none, .w (.sto 4 (.t 2) (.t 29))⟩]) (by kernel_rfl) ?_
      refine WS.c (One.ld rfl (ld_sameA (m := 4) (Nat.le_refl 4) rfl) rfl ?_)
      have hres := hSd nx _ (by rw [del_ne (by omega)]; exact upd_eq)
      refine WS.z (One.sto (cs' := _) rfl rfl hres rfl rfl rfl rfl ?_)
      refine WS.nil ?_
      refine WC.ret ?_
      exact EndOk.now rfl (resE_cell rfl (by kernel_rfl) (ld_sameA (m := 4) (Nat.le_refl 4) rfl) rfl) ⟨⟨_, _, _, rfl, (q1d.upd (by omega)).le (by omega), (q2d.upd (by omega)).le (by omega), (q3d.upd (by omega)).le (by omega)⟩, hRd.upd (by omega) (by omega), HSub.new hH.del (Nat.le_refl _) (HSub.delT (HSub.new hH.del (Nat.le_refl _) (HSub.delL H r)) hSd), hBd.upd (by omega), by omega⟩
  · have hk : gV s 1 = 1 := by omega
    have hRc := hRb.cast (show olS false s = _ from if_pos hk)
    have hBc := hBb
    have hSc := hSb
    have q1c := q1b
    have q2c := SlB.nilR (lo := n2 + 1) hRc (show olV false s = [] from if_pos hk)
    refine WC.skip ?_
    refine WC.seq ?_
    refine WC.seqR (xs := [oq 20 (.p (.fad (.t 3) 0)),
        oq 21 (.l (.ld none (.t 20))),
        oq 22 (.p (.bin .neq .other true (.t 21) (.v (.int .i64 2))))]) (by kernel_rfl) ?_
    refine WS.c (One.fad rfl rfl ?_)
    refine WS.c (One.ld rfl (by first | exact ld_same rfl | (refine ld_skip (by omega) ?_; exact ld_same rfl) | assumption) rfl ?_)
    refine WS.c (One.bin rfl rfl bin_neq rfl ?_)
    refine WS.nil ?_
    refine WC.cond rfl (fun hc3 => ?_) (fun hc3 => ?_)
    · have hk2 : ¬ gV s 1 = 2 := by omega
      refine WC.region (xs := [om 23 (.t 0),
          om 24 (.t 0),
          oq 25 (.call (.v (.func (.func 51) #[] #[])) [(.t 24), (.v (.int .i64 2))]),
          oq 26 (.p (.cvI .i64 (.t 25))),
          oq 27 (.call (.v (.func (.func 105) #[] #[])) [(.t 23), (.t 26)]),
          oq 28 (.p (.fad (.t 3) 3)),
          ⟨none, none, .w (.sto 1 (.t 28) (.t 27))⟩]) (by kernel_rfl) ?_
      refine WS.mv rfl rfl ?_
      refine WS.mv rfl rfl ?_
      have kk : leV (rawO (olS false s).1 (olS false s).2 2) < _ := gV2 (olS false s)
      refine WS.c (One.call rfl rfl (spec51 hsm51 hsm105 hsm104 hsm107 hsm171 _ _ r b _ 2 _ hRc hBc (by omega)) rfl ?_ (fun _ _ _ h => h.elim))
      rintro _ H6 n6 ⟨rfl, hR6, hS6, hB6, hn6⟩
      have hT6 := HSub.delT hSc hS6
      have hc6 := del_at hS6 upd_eq (by omega)
      have q16 := q1c.low hS6 (by omega)
      have q26 := q2c.low hS6 (by omega)
      refine WS.c (One.cvI rfl (wrap_i64 (by omega) (by omega)) rfl ?_)
      refine WS.c (One.call rfl rfl (spec105 hsm105 hsm104 hsm107 hsm171 _ _ r b _ _ _ hR6 hB6 (by omega)) rfl ?_ (fun _ _ _ h => h.elim))
      rintro v7 H7 n7 ⟨hv, hR7, hS7, hB7, hn7⟩
      have hv7 : SlB H7 n6 v7 (vlV false (olS false s)) := hv
      have hT7 := HSub.delT hT6 hS7
      have hc7 := del_at hS7 hc6 (by omega)
      have q17 := q16.low hS7 (by omega)
      have q27 := q26.low hS7 (by omega)
      have q3 := (hv7.le (l := n2 + 1) (by omega)).cast (show neV false s = _ from if_neg hk2)
      obtain ⟨a3, c3, hve3, _, _⟩ := id q3
      subst hve3
      refine WS.c (One.fad rfl rfl ?_)
      refine WS.z (One.sto (cs' := [.int .i64 (gV s 1 : Nat), .slice a1 (keV s).length c1, .slice none 0 0, .slice a3 (neV false s).length c3]) rfl rfl hc7 rfl rfl rfl rfl ?_)
      have hRd := (hR7.cast (show neS false s = vlS false (olS false s) from if_neg hk2)).upd (c := n2) (o := .cells [.int .i64 (gV s 1 : Nat), .slice a1 (keV s).length c1, .slice none 0 0, .slice a3 (neV false s).length c3] 68 0) (by omega) (by omega)
      have hBd := hB7.upd (b := n2) (o := .cells [.int .i64 (gV s 1 : Nat), .slice a1 (keV s).length c1, .slice none 0 0, .slice a3 (neV false s).length c3] 68 0) (by omega)
      have hSd := HSub.new (b := n2) (o := .cells [.int .i64 (gV s 1 : Nat), .slice a1 (keV s).length c1, .slice none 0 0, .slice a3 (neV false s).length c3] 68 0) hH.new.del (by omega) hT7
      have q1d := q17.upd (c := n2) (o := .cells [.int .i64 (gV s 1 : Nat), .slice a1 (keV s).length c1, .slice none 0 0, .slice a3 (neV false s).length c3] 68 0) (by omega)
      have q2d := q27.upd (c := n2) (o := .cells [.int .i64 (gV s 1 : Nat), .slice a1 (keV s).length c1, .slice none 0 0, .slice a3 (neV false s).length c3] 68 0) (by omega)
      have q3d := q3.upd (c := n2) (o := .cells [.int .i64 (gV s 1 : Nat), .slice a1 (keV s).length c1, .slice none 0 0, .slice a3 (neV false s).length c3] 68 0) (by omega)
      refine WS.nil ?_
      refine WC.seqR (xs := [oq 29 (.l (.ld (some 4) (.t 3))),
          ⟨none, none, .w (.sto 4 (.t 2) (.t 29))⟩]) (by kernel_rfl) ?_
      refine WS.c (One.ld rfl (ld_sameA (m := 4) (Nat.le_refl 4) rfl) rfl ?_)
      have hres := hSd nx _ (by rw [del_ne (by omega)]; exact upd_eq)
      refine WS.z (One.sto (cs' := _) rfl rfl hres rfl rfl rfl rfl ?_)
      refine WS.nil ?_
      refine WC.ret ?_
      exact EndOk.now rfl (resE_cell rfl (by kernel_rfl) (ld_sameA (m := 4) (Nat.le_refl 4) rfl) rfl) ⟨⟨_, _, _, rfl, (q1d.upd (by omega)).le (by omega), (q2d.upd (by omega)).le (by omega), (q3d.upd (by omega)).le (by omega)⟩, hRd.upd (by omega) (by omega), HSub.new hH.del (Nat.le_refl _) (HSub.delT (HSub.new hH.del (Nat.le_refl _) (HSub.delL H r)) hSd), hBd.upd (by omega), by omega⟩
    · have hk2 : gV s 1 = 2 := by omega
      have hRd := hRc.cast (show neS false s = _ from if_pos hk2)
      have hBd := hBc
      have hSd := hSc
      have q1d := q1c
      have q2d := q2c
      have q3d := SlB.nilR (lo := n2 + 1) hRd (show neV false s = [] from if_pos hk2)
      refine WC.skip ?_
      refine WC.seqR (xs := [oq 29 (.l (.ld (some 4) (.t 3))),
          ⟨none, none, .w (.sto 4 (.t 2) (.t 29))⟩]) (by kernel_rfl) ?_
      refine WS.c (One.ld rfl (ld_sameA (m := 4) (Nat.le_refl 4) rfl) rfl ?_)
      have hres := hSd nx _ (by rw [del_ne (by omega)]; exact upd_eq)
      refine WS.z (One.sto (cs' := _) rfl rfl hres rfl rfl rfl rfl ?_)
      refine WS.nil ?_
      refine WC.ret ?_
      exact EndOk.now rfl (resE_cell rfl (by kernel_rfl) (ld_sameA (m := 4) (Nat.le_refl 4) rfl) rfl) ⟨⟨_, _, _, rfl, (q1d.upd (by omega)).le (by omega), (q2d.upd (by omega)).le (by omega), (q3d.upd (by omega)).le (by omega)⟩, hRd.upd (by omega) (by omega), HSub.new hH.del (Nat.le_refl _) (HSub.delT (HSub.new hH.del (Nat.le_refl _) (HSub.delL H r)) hSd), hBd.upd (by omega), by omega⟩
end Go.Proofs
