/-
  Part of the proof of StreamReadsUptoSaid: The program reads a change.
-/
import Derived.Test.YtgidhbelekicbaaGreatSg
set_option linter.unusedVariables false
section
namespace Go.Proofs
open Go.Eng
variable {sm : Nat → Option (List Value → St → Option (Value × St))}
def GB (H : Hp) (v : Value) (l : List UInt8) (lo hi : Nat) : Prop := GS H v l.length (strCells l) 5 1 lo hi
theorem GB.cast {H : Hp} {v : Value} {l k : List UInt8} {lo hi : Nat} (h : GB H v l lo hi) (e : k = l) : GB H v k lo hi := e ▸ h
theorem GB.low {A B : Hp} {v : Value} {l : List UInt8} {lo hi hi' r : Nat} (h : GB A v l lo hi) (hs : HSub (del A r) B) (hr : r < lo) (hh : hi ≤ hi') : GB B v l lo hi' := GS.low h hs hr hh
theorem GB.updLo {A : Hp} {v : Value} {l : List UInt8} {lo hi c : Nat} {o : AO} (h : GB A v l lo hi) (hr : c < lo ∨ hi ≤ c) : GB (upd A c o) v l lo hi := GS.updLo h hr (Nat.le_refl _)
theorem GB.nilR {A : Hp} {r b e lo : Nat} {t l : List UInt8} (_ : WR A r b t e) (h : l = []) : GB A (.slice none 0 0) l lo lo := by subst h; exact GS.nil _ _ _ _ _
theorem GB.shape {A : Hp} {v : Value} {l : List UInt8} {lo hi : Nat} (h : GB A v l lo hi) : ∃ a c, v = .slice a l.length c ∧ BS A a l := GS.bs h
theorem WR.cast {A : Hp} {r b : Nat} {s t : RS} (h : WR A r b t.1 t.2) (e : s = t) : WR A r b s.1 s.2 := e ▸ h
def okP (s : RS) (ahead : List UInt8) (w : Prop) : Prop :=
 (neS true s).2 = 0 ∧ ¬ (keV s).length = 0 ∧ 0 < cmpU (keV s) ahead ∧ (w → gV s 1 = 1) ∧ (gV s 1 = 3 → ¬ olV true s = neV true s) ∧ (gV s 1 = 1 ∨ gV s 1 = 2 ∨ gV s 1 = 3)
instance (s : RS) (ahead : List UInt8) (w : Prop) [Decidable w] : Decidable (okP s ahead w) := by unfold okP; infer_instance
theorem vl_eq {s : RS} (h : gV s 2 ≤ 3840) : vlN true s = vlN false s := by
 unfold vlN
 rw [show Nat.blt 3840 (gV s 2) = false from Bool.eq_false_iff.2 (fun h2 => by have := Nat.le_of_ble_eq_true h2; omega)]; rfl
theorem vlV_eq {s : RS} (h : gV s 2 ≤ 3840) : vlV true s = vlV false s := by unfold vlV; rw [vl_eq h]
theorem vlS_eq {s : RS} (h : gV s 2 ≤ 3840) : vlS true s = vlS false s := by unfold vlS; rw [vl_eq h]
theorem vl_cap {s : RS} (h : (vlS true s).2 = 0) : gV s 2 ≤ 3840 := by
 apply Nat.le_of_not_lt
 intro hn
 have h1 := rawE_zero h
 unfold vlN at h1
 rw [show Nat.blt 3840 (gV s 2) = true from Nat.ble_eq_true_of_le (by omega)] at h1
 have h2 : (gS s 2).1.length + 1 ≤ (gS s 2).1.length := h1.2
 omega
theorem vl_len {s : RS} (h : (vlS false s).2 = 0) : (vlV false s).length = gV s 2 := by
 have h1 := rawE_zero h
 have h2 : gV s 2 ≤ (gS s 2).1.length := h1.2
 show (rawO (gS s 2).1 (gS s 2).2 (gV s 2)).length = _
 unfold rawO
 rw [if_pos h1.1, if_pos h2, List.length_take]; omega
theorem vl_len_le (s : RS) : (vlV false s).length ≤ gV s 2 := rawO_len _ _ _
theorem okP_iff {s : RS} {ahead : List UInt8} {w : Prop} [Decidable w] : okP s ahead w ↔ ((neS false s).2 = 0 ∧ chIs (chC false s) ahead w) := by
 unfold okP chIs chC
 simp only
 constructor
 ·rintro ⟨h1, h2, h3, h4, h5, h6⟩
  rcases h6 with h6 | h6 | h6
  ·have n2 : ¬ gV s 1 = 2 := by omega
   have e0 : ∀ p, olS p s = keS s := fun p => if_pos h6
   have e1 : ∀ p, neS p s = vlS p (keS s) := fun p => by unfold neS; rw [if_neg n2, e0]
   have e2 : ∀ p, neV p s = vlV p (keS s) := fun p => by unfold neV; rw [if_neg n2, e0]
   have e3 : ∀ p, olV p s = [] := fun p => if_pos h6
   rw [e1] at h1
   have hc := vl_cap h1
   rw [vlS_eq hc] at h1
   refine ⟨by rw [e1]; exact h1, by omega, by omega, h4, by omega, h3, by rw [e3]; simp, by rw [e2]; have := vl_len_le (keS s); omega, by omega⟩
  ·have n1 : ¬ gV s 1 = 1 := by omega
   have e0 : ∀ p, olS p s = vlS p (keS s) := fun p => if_neg n1
   have e1 : ∀ p, neS p s = vlS p (keS s) := fun p => by unfold neS; rw [if_pos h6, e0]
   have e2 : ∀ p, neV p s = [] := fun p => if_pos h6
   have e3 : ∀ p, olV p s = vlV p (keS s) := fun p => if_neg n1
   rw [e1] at h1
   have hc := vl_cap h1
   rw [vlS_eq hc] at h1
   refine ⟨by rw [e1]; exact h1, by omega, by omega, h4, by omega, h3, by rw [e3]; have := vl_len_le (keS s); omega, by rw [e2]; simp, by omega⟩
  ·have n1 : ¬ gV s 1 = 1 := by omega
   have n2 : ¬ gV s 1 = 2 := by omega
   have e0 : ∀ p, olS p s = vlS p (keS s) := fun p => if_neg n1
   have e1 : ∀ p, neS p s = vlS p (vlS p (keS s)) := fun p => by unfold neS; rw [if_neg n2, e0]
   have e2 : ∀ p, neV p s = vlV p (vlS p (keS s)) := fun p => by unfold neV; rw [if_neg n2, e0]
   have e3 : ∀ p, olV p s = vlV p (keS s) := fun p => if_neg n1
   rw [e1] at h1
   have hc := vl_cap (vlS_zero h1)
   have hd := vl_cap h1
   rw [vlS_eq hd, vlS_eq hc] at h1
   rw [vlS_eq hc] at hd
   have h5 := h5 h6
   rw [e2, e3, vlS_eq hc, vlV_eq hc, vlV_eq hd] at h5
   refine ⟨by rw [e1]; exact h1, by omega, by omega, h4, by omega, h3, by rw [e3]; have := vl_len_le (keS s); omega, by rw [e2]; have := vl_len_le (vlS false (keS s)); omega, fun _ => by rw [e2, e3]; exact h5⟩
 ·rintro ⟨h1, k1, k2, h4, h2, h3, l1, l2, h5⟩
  have h6 : gV s 1 = 1 ∨ gV s 1 = 2 ∨ gV s 1 = 3 := by omega
  refine ⟨?_, by omega, h3, h4, ?_, h6⟩
  ·rcases h6 with h6 | h6 | h6
   ·have n2 : ¬ gV s 1 = 2 := by omega
    have e0 : ∀ p, olS p s = keS s := fun p => if_pos h6
    have e1 : ∀ p, neS p s = vlS p (keS s) := fun p => by unfold neS; rw [if_neg n2, e0]
    have e2 : ∀ p, neV p s = vlV p (keS s) := fun p => by unfold neV; rw [if_neg n2, e0]
    rw [e1] at h1
    rw [e2, vl_len h1] at l2
    rw [e1, vlS_eq l2]; exact h1
   ·have n1 : ¬ gV s 1 = 1 := by omega
    have e0 : ∀ p, olS p s = vlS p (keS s) := fun p => if_neg n1
    have e1 : ∀ p, neS p s = vlS p (keS s) := fun p => by unfold neS; rw [if_pos h6, e0]
    have e3 : ∀ p, olV p s = vlV p (keS s) := fun p => if_neg n1
    rw [e1] at h1
    rw [e3, vl_len h1] at l1
    rw [e1, vlS_eq l1]; exact h1
   ·have n1 : ¬ gV s 1 = 1 := by omega
    have n2 : ¬ gV s 1 = 2 := by omega
    have e0 : ∀ p, olS p s = vlS p (keS s) := fun p => if_neg n1
    have e1 : ∀ p, neS p s = vlS p (vlS p (keS s)) := fun p => by unfold neS; rw [if_neg n2, e0]
    have e2 : ∀ p, neV p s = vlV p (vlS p (keS s)) := fun p => by unfold neV; rw [if_neg n2, e0]
    have e3 : ∀ p, olV p s = vlV p (keS s) := fun p => if_neg n1
    rw [e1] at h1
    rw [e3, vl_len (vlS_zero h1)] at l1
    rw [e2, vl_len h1] at l2
    rw [e1, vlS_eq l1, vlS_eq l2]; exact h1
  ·intro h6
   have n1 : ¬ gV s 1 = 1 := by omega
   have n2 : ¬ gV s 1 = 2 := by omega
   have e0 : ∀ p, olS p s = vlS p (keS s) := fun p => if_neg n1
   have e1 : ∀ p, neS p s = vlS p (vlS p (keS s)) := fun p => by unfold neS; rw [if_neg n2, e0]
   have e2 : ∀ p, neV p s = vlV p (vlS p (keS s)) := fun p => by unfold neV; rw [if_neg n2, e0]
   have e3 : ∀ p, olV p s = vlV p (keS s) := fun p => if_neg n1
   rw [e1] at h1
   rw [e3, vl_len (vlS_zero h1)] at l1
   rw [e2, vl_len h1] at l2
   have h5 := h5 h6
   rw [e2, e3] at h5
   rw [e2, e3, vlS_eq l1, vlV_eq l1, vlV_eq l2]; exact h5
theorem okP_same {s : RS} {ahead : List UInt8} {w : Prop} [Decidable w] (h : okP s ahead w) : chC true s = chC false s ∧ neS true s = neS false s := by
 obtain ⟨h1, h2, h3, h4, h5, h6⟩ := h
 unfold chC
 rcases h6 with h6 | h6 | h6
 ·have n2 : ¬ gV s 1 = 2 := by omega
  have e0 : ∀ p, olS p s = keS s := fun p => if_pos h6
  have e1 : ∀ p, neS p s = vlS p (keS s) := fun p => by unfold neS; rw [if_neg n2, e0]
  have e2 : ∀ p, neV p s = vlV p (keS s) := fun p => by unfold neV; rw [if_neg n2, e0]
  have e3 : ∀ p, olV p s = [] := fun p => if_pos h6
  rw [e1] at h1
  have hc := vl_cap h1
  rw [e1, e1, e2, e2, e3, e3, vlS_eq hc, vlV_eq hc]; exact ⟨rfl, rfl⟩
 ·have n1 : ¬ gV s 1 = 1 := by omega
  have e0 : ∀ p, olS p s = vlS p (keS s) := fun p => if_neg n1
  have e1 : ∀ p, neS p s = vlS p (keS s) := fun p => by unfold neS; rw [if_pos h6, e0]
  have e2 : ∀ p, neV p s = [] := fun p => if_pos h6
  have e3 : ∀ p, olV p s = vlV p (keS s) := fun p => if_neg n1
  rw [e1] at h1
  have hc := vl_cap h1
  rw [e1, e1, e2, e2, e3, e3, vlS_eq hc, vlV_eq hc]; exact ⟨rfl, rfl⟩
 ·have n1 : ¬ gV s 1 = 1 := by omega
  have n2 : ¬ gV s 1 = 2 := by omega
  have e0 : ∀ p, olS p s = vlS p (keS s) := fun p => if_neg n1
  have e1 : ∀ p, neS p s = vlS p (vlS p (keS s)) := fun p => by unfold neS; rw [if_neg n2, e0]
  have e2 : ∀ p, neV p s = vlV p (vlS p (keS s)) := fun p => by unfold neV; rw [if_neg n2, e0]
  have e3 : ∀ p, olV p s = vlV p (keS s) := fun p => if_neg n1
  rw [e1] at h1
  have hc := vl_cap (vlS_zero h1)
  have hd := vl_cap h1
  rw [vlS_eq hc] at hd
  rw [e1, e1, e2, e2, e3, e3, vlS_eq hc, vlV_eq hc, vlS_eq hd, vlV_eq hd]; exact ⟨rfl, rfl⟩
end Go.Proofs
end
section
namespace Go.Proofs
open Go.Eng
variable {sm : Nat → Option (List Value → St → Option (Value × St))}
theorem GB.nilS {A : Hp} {r b e lo : Nat} {t l : List UInt8} (_ : WR A r b t e) (h : l = []) : GB A (.slice none l.length 0) l lo lo := by subst h; exact GS.nil _ _ _ _ _
theorem veq_slb {H : Hp} {a : Option Addr} {l : List UInt8} (f m c : Nat) (h : BS H a l) : veq f (.slice a m c) (.slice a m c) = true := by
  cases a with
  | none => exact veq_slN f m c
  | some a =>
    have := h.sp a rfl
    obtain ⟨b, o, sp⟩ := a
    simp only at this; subst this; exact veq_sl f b o m c
theorem veq_chL {H : Hp} {a1 a2 a3 : Option Addr} {l1 l2 l3 : List UInt8} {c1 c2 c3 : Nat} (c : Chg) (h1 : BS H a1 l1) (h2 : BS H a2 l2) (h3 : BS H a3 l3) : veq 3 (.agg ⟨chL c (.slice a1 l1.length c1) (.slice a2 l2.length c2) (.slice a3 l3.length c3)⟩) (.agg ⟨chL c (.slice a1 l1.length c1) (.slice a2 l2.length c2) (.slice a3 l3.length c3)⟩) = true := by
  refine veq_agg _ ?_
  intro v hv
  simp only [chL, List.mem_cons, List.not_mem_nil, or_false] at hv
  rcases hv with rfl | rfl | rfl | rfl
  · exact veq_int _ _ _
  · exact veq_slb _ _ _ h1
  · exact veq_slb _ _ _ h2
  · exact veq_slb _ _ _ h3
theorem bin_neqS {con : Bool} {a b : List UInt8} : rBinV .neq .str con (.string ⟨⟨a⟩⟩) (.string ⟨⟨b⟩⟩) = some (.bool (decide (¬ a = b))) := by
  show some (Value.bool (not (a == b))) = _
  congr 2
  by_cases h : a = b
  · subst h; simp
  · rw [decide_eq_true h, beq_eq_false_iff_ne.2 h]; rfl
theorem spec46 (hsm : sm 46 = none) (hsm100 : sm 100 = none) (hsm167 : sm 167 = none) (hsm166 : sm 166 = none) (hsm237 : sm 237 = none) (hsm318 : sm 318 = none) (hsm238 : sm 238 = none) (hsm227 : sm 227 = none) (hsm168 : sm 168 = none) (hsm239 : sm 239 = none) (hsm164 : sm 164 = none) (hsm236 : sm 236 = none) (hsm44 : sm 44 = none) (hsm96 : sm 96 = none) (hsm163 : sm 163 = none) (hsm97 : sm 97 = none) (hsm98 : sm 98 = none) (hsm99 : sm 99 = none) (hsm165 : sm 165 = none) (hsm101 : sm 101 = none) (hsm102 : sm 102 = none) (hsm169 : sm 169 = none) (hsm93 : sm 93 = none) (hsm161 : sm 161 = none) (H : Hp) (nx r b : Nat) (s : RS) (a4 : Option Addr) (ahead : List UInt8) (c4 : Nat) (w : Prop) [Decidable w] (hR : WR H r b s.1 s.2) (hH : HB H nx) (ha4 : BS H a4 ahead) (hnb : NB a4 r) : FnOk (envS sm) 46 [.agg ⟨[.pointer (some ⟨r, 0, none⟩)]⟩, .slice a4 ahead.length c4, .bool (decide w)] H nx (fun v H' nx' => ∃ v1 v2 v3 m1 m2, v = .tuple ⟨[.agg ⟨chL (chC true s) v1 v2 v3⟩, .bool (decide (okP s ahead w))]⟩ ∧ GB H' v1 (keV s) nx m1 ∧ GB H' v2 (olV true s) m1 m2 ∧ GB H' v3 (neV true s) m2 nx' ∧ nx ≤ m1 ∧ m1 ≤ m2 ∧ m2 ≤ nx' ∧ WR H' r b (neS true s).1 (neS true s).2 ∧ HSub (del H r) H' ∧ HB H' nx') (fun _ _ _ => False) := by
  refine FnOk.of (fn := Tryz.f46) hsm rfl rfl rfl ?_
  have hrn := hR.lt hH
  have hbn := hR.ltb hH
  have k1 := gV1 s
  have hR1 : WR (upd (upd H nx (.cells [.pointer (some ⟨r, 0, none⟩)] 112 0)) (nx + 1) (.cells [.int .i64 0, .slice none 0 0, .slice none 0 0, .slice none 0 0] 68 0)) r b s.1 s.2 := (hR.upd (by omega) (by omega)).upd (by omega) (by omega)
  have hB1 : HB (upd (upd H nx (.cells [.pointer (some ⟨r, 0, none⟩)] 112 0)) (nx + 1) (.cells [.int .i64 0, .slice none 0 0, .slice none 0 0, .slice none 0 0] 68 0)) (nx + 1 + 1) := hH.new.new
  have hbx1 : (upd (upd H nx (.cells [.pointer (some ⟨r, 0, none⟩)] 112 0)) (nx + 1) (.cells [.int .i64 0, .slice none 0 0, .slice none 0 0, .slice none 0 0] 68 0)) nx = some (.cells [.pointer (some ⟨r, 0, none⟩)] 112 0) := (upd_ne (by omega)).trans upd_eq
  have hS0 : HSub H (upd (upd H nx (.cells [.pointer (some ⟨r, 0, none⟩)] 112 0)) (nx + 1) (.cells [.int .i64 0, .slice none 0 0, .slice none 0 0, .slice none 0 0] 68 0)) := HSub.new hH (by omega) (HSub.new hH (Nat.le_refl _) (HSub.refl H))
  have hS00 : HSub (del H r) (upd (upd H nx (.cells [.pointer (some ⟨r, 0, none⟩)] 112 0)) (nx + 1) (.cells [.int .i64 0, .slice none 0 0, .slice none 0 0, .slice none 0 0] 68 0)) := hS0.delM r
  refine WC.seqR (xs := [oq 3 (.m (.box 112 (.t 0))),
      oq 6 (.m (.alc [(.int .i64 0), (.slice none 0 0), (.slice none 0 0), (.slice none 0 0)] 68)),
      om 7 (.v (.bool false))]) (by kernel_rfl) ?_
  refine WS.c (One.box rfl rfl rfl ?_)
  refine WS.c (One.alc rfl ?_)
  refine WS.mv rfl rfl ?_
  refine WS.nil ?_
  refine WC.seqR (xs := [oq 9 (.p (.fad (.t 3) 0)),
      oq 10 (.l (.ld none (.t 9))),
      oq 11 (.call (.v (.func (.func 44) #[] #[])) [(.t 10)]),
      oq 12 (.p (.cvI .i64 (.t 11))),
      oq 13 (.p (.bld [(0, 1, (.t 12))] [(.int .i64 0), (.slice none 0 0), (.slice none 0 0), (.slice none 0 0)])),
      oq 8 (.m (.alc [(.int .i64 0), (.slice none 0 0), (.slice none 0 0), (.slice none 0 0)] 68)),
      ⟨none, none, .w (.sto 4 (.t 8) (.t 13))⟩]) (by kernel_rfl) ?_
  refine WS.c (One.fad rfl rfl ?_)
  refine WS.c (One.ld rfl (ld_of (o := 0) (v := .pointer (some ⟨r, 0, none⟩)) hbx1 rfl) rfl ?_)
  refine WS.c (One.call rfl rfl (spec44s hsm44 hsm96 hsm163 hsm97 hsm98 hsm93 hsm161 _ _ r b s hR1 hB1) rfl ?_ (fun _ _ _ h => h.elim))
  rintro _ H2 n2 ⟨rfl, hR2, hS2, hB2, hn2⟩
  refine WS.c (One.cvI rfl (wrap_i64 (by omega) (by omega)) rfl ?_)
  refine WS.c (One.bld rfl rfl ?_)
  refine WS.c (One.alc rfl ?_)
  refine WS.z (One.sto (cs' := [.int .i64 (gV s 1 : Nat), .slice none 0 0, .slice none 0 0, .slice none 0 0]) rfl rfl upd_eq rfl rfl rfl rfl ?_)
  refine WS.nil ?_
  refine WC.seqR (xs := [oq 14 (.p (.fad (.t 3) 0)),
      oq 15 (.l (.ld none (.t 14))),
      oq 16 (.call (.v (.func (.func 99) #[] #[])) [(.t 15), (.v (.int .i64 24))]),
      oq 17 (.p (.fad (.t 8) 1)),
      ⟨none, none, .w (.sto 1 (.t 17) (.t 16))⟩]) (by kernel_rfl) ?_
  have hRa := (hR2.upd (c := n2) (o := .cells [.int .i64 0, .slice none 0 0, .slice none 0 0, .slice none 0 0] 68 0) (by omega) (by omega)).upd (c := n2) (o := .cells [.int .i64 (gV s 1 : Nat), .slice none 0 0, .slice none 0 0, .slice none 0 0] 68 0) (by omega) (by omega)
  have hBa := (hB2.new (o := .cells [.int .i64 0, .slice none 0 0, .slice none 0 0, .slice none 0 0] 68 0)).upd (b := n2) (o := .cells [.int .i64 (gV s 1 : Nat), .slice none 0 0, .slice none 0 0, .slice none 0 0] 68 0) (by omega)
  have hSa := HSub.new (b := n2) (o := .cells [.int .i64 (gV s 1 : Nat), .slice none 0 0, .slice none 0 0, .slice none 0 0] 68 0) hB1.del (by omega) (HSub.new (b := n2) (o := .cells [.int .i64 0, .slice none 0 0, .slice none 0 0, .slice none 0 0] 68 0) hB1.del (by omega) hS2)
  refine WS.c (One.fad rfl rfl ?_)
  refine WS.c (One.ld rfl (ld_of (o := 0) (v := .pointer (some ⟨r, 0, none⟩)) (hSa nx _ (by rw [del_ne (by omega)]; exact hbx1)) rfl) rfl ?_)
  refine WS.c (One.call rfl rfl (spec99 hsm99 hsm165 hsm164 hsm236 hsm93 hsm161 _ _ r b _ 24 _ hRa hBa (by omega)) rfl ?_ (fun _ _ _ h => h.elim))
  rintro v1 H3 n3 ⟨hv1, hR3, hS3, hB3, hn3⟩
  have q1 : GB H3 v1 (keV s) (n2 + 1) n3 := hv1
  have hT3 := HSub.delT hSa hS3
  have hc3 := del_at hS3 upd_eq (by omega)
  obtain ⟨a1, c1, hve1, _⟩ := q1.shape
  subst hve1
  refine WS.c (One.fad rfl rfl ?_)
  refine WS.z (One.sto (cs' := [.int .i64 (gV s 1 : Nat), .slice a1 (keV s).length c1, .slice none 0 0, .slice none 0 0]) rfl rfl hc3 rfl rfl rfl rfl ?_)
  refine WS.nil ?_
  refine WC.mid (fun env ds H' nx' => ∃ (a1 a2 : Option Addr) (c1 c2 mc : Nat), SubE [(1, .slice a4 ahead.length c4), (2, .bool (decide w)), (3, .pointer (some ⟨nx, 0, none⟩)), (6, .pointer (some ⟨nx + 1, 0, none⟩)), (8, .pointer (some ⟨n2, 0, none⟩))] env ∧ ds = [] ∧ (GB H' (.slice a1 (keV s).length c1) (keV s) (n2 + 1) n3 ∧ GB H' (.slice a2 (olV true s).length c2) (olV true s) n3 mc ∧ n3 ≤ mc ∧ mc = nx' ∧ WR H' r b (olS true s).1 (olS true s).2 ∧ HB H' nx' ∧ HSub (del (upd (upd H nx (.cells [.pointer (some ⟨r, 0, none⟩)] 112 0)) (nx + 1) (.cells [.int .i64 0, .slice none 0 0, .slice none 0 0, .slice none 0 0] 68 0)) r) H' ∧ H' n2 = some (.cells [.int .i64 (gV s 1 : Nat), .slice a1 (keV s).length c1, .slice a2 (olV true s).length c2, .slice none 0 0] 68 0))) ?_ (fun env ds H' nx' hI => ?_)
  · refine WC.seqR (xs := [oq 18 (.p (.fad (.t 8) 0)),
        oq 19 (.l (.ld none (.t 18))),
        oq 20 (.p (.bin .neq .other true (.t 19) (.v (.int .i64 1))))]) (by kernel_rfl) ?_
    have hRb : WR _ r b (keS s).1 (keS s).2 := hR3.upd (c := n2) (o := .cells [.int .i64 (gV s 1 : Nat), .slice a1 (keV s).length c1, .slice none 0 0, .slice none 0 0] 68 0) (by omega) (by omega)
    have hBb := hB3.upd (b := n2) (o := .cells [.int .i64 (gV s 1 : Nat), .slice a1 (keV s).length c1, .slice none 0 0, .slice none 0 0] 68 0) (by omega)
    have hSb := HSub.new (b := n2) (o := .cells [.int .i64 (gV s 1 : Nat), .slice a1 (keV s).length c1, .slice none 0 0, .slice none 0 0] 68 0) hB1.del (by omega) hT3
    have p1b := q1.updLo (c := n2) (o := .cells [.int .i64 (gV s 1 : Nat), .slice a1 (keV s).length c1, .slice none 0 0, .slice none 0 0] 68 0) (.inl (by omega))
    refine WS.c (One.fad rfl rfl ?_)
    refine WS.c (One.ld rfl (by first | exact ld_same rfl | (refine ld_skip (by omega) ?_; exact ld_same rfl) | assumption) rfl ?_)
    refine WS.c (One.bin rfl rfl bin_neq rfl ?_)
    refine WS.nil ?_
    refine WC.cond rfl (fun hc1 => ?_) (fun hc1 => ?_)
    · have hk : ¬ gV s 1 = 1 := by omega
      have l2 : True := trivial
      refine WC.region (xs := [oq 21 (.l (.ld (some 1) (.t 3))),
          oq 22 (.call (.v (.func (.func 100) #[] #[])) [(.t 21)]),
          oq 23 (.p (.fad (.t 8) 2)),
          ⟨none, none, .w (.sto 1 (.t 23) (.t 22))⟩]) (by kernel_rfl) ?_
      refine WS.c (One.ld rfl (ld_ofA (cs := [.pointer (some ⟨r, 0, none⟩)]) (e := 112) (el := 0) (o := 0) (m := 1) (l := [.pointer (some ⟨r, 0, none⟩)]) (hSb nx _ (by rw [del_ne (by omega)]; exact hbx1)) (Nat.le_refl 1) rfl) rfl ?_)
      refine WS.c (One.call rfl rfl (spec100 hsm100 hsm167 hsm166 hsm237 hsm318 hsm238 hsm227 hsm168 hsm239 hsm164 hsm236 hsm93 hsm161 _ _ r b (keS s) hRb hBb) rfl ?_ (fun _ _ _ h => h.elim))
      rintro v4 H4 n4 ⟨hv4, hR4, hS4, hB4, hn4⟩
      have hT4 := HSub.delT hSb hS4
      have hc4 := del_at hS4 upd_eq (by omega)
      have p14 := p1b.low hS4 (by omega) (Nat.le_refl _)
      have p24 : GB H4 v4 (olV true s) n3 n4 := GB.cast (l := vlV true (keS s)) hv4 (show olV true s = _ from if_neg hk)
      obtain ⟨a2, c2, hve2, _⟩ := p24.shape
      subst hve2
      refine WS.c (One.fad rfl rfl ?_)
      refine WS.z (One.sto (cs' := [.int .i64 (gV s 1 : Nat), .slice a1 (keV s).length c1, .slice a2 (olV true s).length c2, .slice none 0 0]) rfl rfl hc4 rfl rfl rfl rfl ?_)
      have hRc := (hR4.cast (show olS true s = vlS true (keS s) from if_neg hk)).upd (c := n2) (o := .cells [.int .i64 (gV s 1 : Nat), .slice a1 (keV s).length c1, .slice a2 (olV true s).length c2, .slice none 0 0] 68 0) (by omega) (by omega)
      have hBc := hB4.upd (b := n2) (o := .cells [.int .i64 (gV s 1 : Nat), .slice a1 (keV s).length c1, .slice a2 (olV true s).length c2, .slice none 0 0] 68 0) (by omega)
      have hSc := HSub.new (b := n2) (o := .cells [.int .i64 (gV s 1 : Nat), .slice a1 (keV s).length c1, .slice a2 (olV true s).length c2, .slice none 0 0] 68 0) hB1.del (by omega) hT4
      have p1c := p14.updLo (c := n2) (o := .cells [.int .i64 (gV s 1 : Nat), .slice a1 (keV s).length c1, .slice a2 (olV true s).length c2, .slice none 0 0] 68 0) (.inl (by omega))
      have p2c := p24.updLo (c := n2) (o := .cells [.int .i64 (gV s 1 : Nat), .slice a1 (keV s).length c1, .slice a2 (olV true s).length c2, .slice none 0 0] 68 0) (.inl (by omega))
      refine WS.nil ?_
      exact ⟨_, _, _, _, _, (by repeat (first | exact SubE.nil _ | refine SubE.cons rfl ?_)), rfl, p1c, p2c, by omega, rfl, hRc, hBc, hSc, by first | exact upd_eq | (rw [l2]; exact upd_eq)⟩
    · have hk : gV s 1 = 1 := by omega
      have hRc := hRb.cast (show olS true s = keS s from if_pos hk)
      have hBc := hBb
      have hSc := hSb
      have p1c := p1b
      have p2c := GB.nilS (lo := n3) hRc (show olV true s = [] from if_pos hk)
      have l2 : (olV true s).length = 0 := by rw [show olV true s = [] from if_pos hk]; rfl
      refine WC.skip ?_
      exact ⟨_, _, _, _, _, (by repeat (first | exact SubE.nil _ | refine SubE.cons rfl ?_)), rfl, p1c, p2c, by omega, rfl, hRc, hBc, hSc, by first | exact upd_eq | (rw [l2]; exact upd_eq)⟩
  · obtain ⟨a1, a2, c1, c2, mc, hsub, rfl, p1c, p2c, hm1, hme, hRc, hBc, hSc, hcc⟩ := hI
    refine WC.weak (env' := [(1, .slice a4 ahead.length c4), (2, .bool (decide w)), (3, .pointer (some ⟨nx, 0, none⟩)), (6, .pointer (some ⟨nx + 1, 0, none⟩)), (8, .pointer (some ⟨n2, 0, none⟩))]) ?_ hsub (fun _ _ h => h)
    subst hme
    obtain ⟨z1, y1, hz1, _⟩ := p1c.shape
    obtain ⟨z2, y2, hz2, _⟩ := p2c.shape
    refine WC.mid (fun env ds H' nx' => ∃ (a1 a2 a3 : Option Addr) (c1 c2 c3 mc : Nat), SubE [(1, .slice a4 ahead.length c4), (2, .bool (decide w)), (3, .pointer (some ⟨nx, 0, none⟩)), (6, .pointer (some ⟨nx + 1, 0, none⟩)), (8, .pointer (some ⟨n2, 0, none⟩))] env ∧ ds = [] ∧ (GB H' (.slice a1 (keV s).length c1) (keV s) (n2 + 1) n3 ∧ GB H' (.slice a2 (olV true s).length c2) (olV true s) n3 mc ∧ GB H' (.slice a3 (neV true s).length c3) (neV true s) mc nx' ∧ n3 ≤ mc ∧ mc ≤ nx' ∧ WR H' r b (neS true s).1 (neS true s).2 ∧ HB H' nx' ∧ HSub (del (upd (upd H nx (.cells [.pointer (some ⟨r, 0, none⟩)] 112 0)) (nx + 1) (.cells [.int .i64 0, .slice none 0 0, .slice none 0 0, .slice none 0 0] 68 0)) r) H' ∧ H' n2 = some (.cells (chL (chC true s) (.slice a1 (keV s).length c1) (.slice a2 (olV true s).length c2) (.slice a3 (neV true s).length c3)) 68 0))) ?_ (fun env ds H' nx' hI => ?_)
    · refine WC.seqR (xs := [oq 24 (.p (.fad (.t 8) 0)),
          oq 25 (.l (.ld none (.t 24))),
          oq 26 (.p (.bin .neq .other true (.t 25) (.v (.int .i64 2))))]) (by kernel_rfl) ?_
      refine WS.c (One.fad rfl rfl ?_)
      refine WS.c (One.ld rfl (ld_of (o := 0) hcc rfl) rfl ?_)
      refine WS.c (One.bin rfl rfl bin_neq rfl ?_)
      refine WS.nil ?_
      refine WC.cond rfl (fun hc2 => ?_) (fun hc2 => ?_)
      · have hk2 : ¬ gV s 1 = 2 := by omega
        have l3 : True := trivial
        refine WC.region (xs := [oq 27 (.l (.ld (some 1) (.t 3))),
            oq 28 (.call (.v (.func (.func 100) #[] #[])) [(.t 27)]),
            oq 29 (.p (.fad (.t 8) 3)),
            ⟨none, none, .w (.sto 1 (.t 29) (.t 28))⟩]) (by kernel_rfl) ?_
        refine WS.c (One.ld rfl (ld_ofA (cs := [.pointer (some ⟨r, 0, none⟩)]) (e := 112) (el := 0) (o := 0) (m := 1) (l := [.pointer (some ⟨r, 0, none⟩)]) (hSc nx _ (by rw [del_ne (by omega)]; exact hbx1)) (Nat.le_refl 1) rfl) rfl ?_)
        refine WS.c (One.call rfl rfl (spec100 hsm100 hsm167 hsm166 hsm237 hsm318 hsm238 hsm227 hsm168 hsm239 hsm164 hsm236 hsm93 hsm161 _ _ r b (olS true s) hRc hBc) rfl ?_ (fun _ _ _ h => h.elim))
        rintro v6 H6 n6 ⟨hv6, hR6, hS6, hB6, hn6⟩
        have hT6 := HSub.delT hSc hS6
        have hc6 := del_at hS6 hcc (by omega)
        have p16 := p1c.low hS6 (by omega) (Nat.le_refl _)
        have p26 := p2c.low hS6 (by omega) (Nat.le_refl _)
        have p36 := GB.cast (l := vlV true (olS true s)) hv6 (show neV true s = _ from if_neg hk2)
        obtain ⟨a3, c3, hve3, _⟩ := p36.shape
        subst hve3
        refine WS.c (One.fad rfl rfl ?_)
        refine WS.z (One.sto (cs' := [.int .i64 (gV s 1 : Nat), .slice a1 (keV s).length c1, .slice a2 (olV true s).length c2, .slice a3 (neV true s).length c3]) rfl rfl hc6 rfl rfl rfl rfl ?_)
        have hRd := (hR6.cast (show neS true s = vlS true (olS true s) from if_neg hk2)).upd (c := n2) (o := .cells [.int .i64 (gV s 1 : Nat), .slice a1 (keV s).length c1, .slice a2 (olV true s).length c2, .slice a3 (neV true s).length c3] 68 0) (by omega) (by omega)
        have hBd := hB6.upd (b := n2) (o := .cells [.int .i64 (gV s 1 : Nat), .slice a1 (keV s).length c1, .slice a2 (olV true s).length c2, .slice a3 (neV true s).length c3] 68 0) (by omega)
        have hSd := HSub.new (b := n2) (o := .cells [.int .i64 (gV s 1 : Nat), .slice a1 (keV s).length c1, .slice a2 (olV true s).length c2, .slice a3 (neV true s).length c3] 68 0) hB1.del (by omega) hT6
        have p1d := p16.updLo (c := n2) (o := .cells [.int .i64 (gV s 1 : Nat), .slice a1 (keV s).length c1, .slice a2 (olV true s).length c2, .slice a3 (neV true s).length c3] 68 0) (.inl (by omega))
        have p2d := p26.updLo (c := n2) (o := .cells [.int .i64 (gV s 1 : Nat), .slice a1 (keV s).length c1, .slice a2 (olV true s).length c2, .slice a3 (neV true s).length c3] 68 0) (.inl (by omega))
        have p3d := p36.updLo (c := n2) (o := .cells [.int .i64 (gV s 1 : Nat), .slice a1 (keV s).length c1, .slice a2 (olV true s).length c2, .slice a3 (neV true s).length c3] 68 0) (.inl (by omega))
        refine WS.nil ?_
        exact ⟨_, _, _, _, _, _, _, (by repeat (first | exact SubE.nil _ | refine SubE.cons rfl ?_)), rfl, p1d, p2d, p3d, by omega, by omega, hRd, hBd, hSd, by first | exact upd_eq | (rw [l3]; exact hcc)⟩
      · have hk2 : gV s 1 = 2 := by omega
        have hRd := hRc.cast (show neS true s = olS true s from if_pos hk2)
        have hBd := hBc
        have hSd := hSc
        have p1d := p1c
        have p2d := p2c
        have p3d := GB.nilS (lo := mc) hRd (show neV true s = [] from if_pos hk2)
        have l3 : (neV true s).length = 0 := by rw [show neV true s = [] from if_pos hk2]; rfl
        refine WC.skip ?_
        exact ⟨_, _, _, _, _, _, _, (by repeat (first | exact SubE.nil _ | refine SubE.cons rfl ?_)), rfl, p1d, p2d, p3d, by omega, by omega, hRd, hBd, hSd, by first | exact upd_eq | (rw [l3]; exact hcc)⟩
    · obtain ⟨a1, a2, a3, c1, c2, c3, mc, hsub, rfl, p1, p2, p3, hm1, hm2, hR, hB, hS, hc⟩ := hI
      refine WC.weak (env' := [(1, .slice a4 ahead.length c4), (2, .bool (decide w)), (3, .pointer (some ⟨nx, 0, none⟩)), (6, .pointer (some ⟨nx + 1, 0, none⟩)), (8, .pointer (some ⟨n2, 0, none⟩))]) ?_ hsub (fun _ _ h => h)
      have hkk : (chC true s).kind = gV s 1 := rfl
      obtain ⟨z1, y1, hz1, hb1⟩ := p1.shape
      obtain ⟨z2, y2, hz2, hb2⟩ := p2.shape
      obtain ⟨z3, y3, hz3, hb3⟩ := p3.shape
      injection hz1 with k1 k2 k3
      injection hz2 with k4 k5 k6
      injection hz3 with k7 k8 k9
      subst k1 k3 k4 k6 k7 k9
      have hA4 : BS H' a4 ahead := (ha4.mono hS0).del hnb hS
      obtain ⟨p0, c0, hro⟩ := hR.obj
      have hres := hS (nx + 1) _ (by rw [del_ne (by omega)]; exact upd_eq)
      have hf1 := p1.updLo (c := nx + 1) (o := .cells (chL (chC true s) (.slice a1 (keV s).length c1) (.slice a2 (olV true s).length c2) (.slice a3 (neV true s).length c3)) 68 0) (.inl (by omega))
      have hf2 := p2.updLo (c := nx + 1) (o := .cells (chL (chC true s) (.slice a1 (keV s).length c1) (.slice a2 (olV true s).length c2) (.slice a3 (neV true s).length c3)) 68 0) (.inl (by omega))
      have hf3 := p3.updLo (c := nx + 1) (o := .cells (chL (chC true s) (.slice a1 (keV s).length c1) (.slice a2 (olV true s).length c2) (.slice a3 (neV true s).length c3)) 68 0) (.inl (by omega))
      obtain ⟨y1, z1, hy1, hb1u⟩ := hf1.shape
      obtain ⟨y2, z2, hy2, hb2u⟩ := hf2.shape
      obtain ⟨y3, z3, hy3, hb3u⟩ := hf3.shape
      injection hy1 with k1 k2 k3
      injection hy2 with k4 k5 k6
      injection hy3 with k7 k8 k9
      subst k1 k3 k4 k6 k7 k9
      have hcu : (upd H' (nx + 1) (.cells (chL (chC true s) (.slice a1 (keV s).length c1) (.slice a2 (olV true s).length c2) (.slice a3 (neV true s).length c3)) 68 0)) n2 = some (.cells (chL (chC true s) (.slice a1 (keV s).length c1) (.slice a2 (olV true s).length c2) (.slice a3 (neV true s).length c3)) 68 0) := (upd_ne (by omega)).trans hc
      refine WC.seq ?_
      refine WC.block ?_
      refine WC.seqR (xs := [oq 31 (.p (.fad (.t 3) 0)),
          oq 32 (.l (.ld none (.t 31))),
          oq 33 (.call (.v (.func (.func 101) #[] #[])) [(.t 32)]),
          oq 34 (.p (.bin .neq .other true (.t 33) (.v (.int .i64 0)))),
          om 35 (.t 34),
          ⟨(some (35, false)), (some (36, 36)), .p (.fad (.t 8) 1)⟩,
          ⟨(some (35, false)), (some (37, 37)), .l (.ld none (.t 36))⟩,
          ⟨(some (35, false)), (some (38, 38)), .p (.len (.t 37))⟩,
          ⟨(some (35, false)), (some (39, 39)), .p (.bin .eql .other true (.t 38) (.v (.int .i64 0)))⟩,
          oq 40 (.p (.pick (.t 35) (.v (.bool true)) (.t 39))),
          om 41 (.t 40),
          ⟨(some (41, false)), (some (42, 42)), .p (.fad (.t 8) 1)⟩,
          ⟨(some (41, false)), (some (43, 43)), .l (.ld none (.t 42))⟩,
          ⟨(some (41, false)), (some (44, 44)), .p (.mv (.t 1))⟩,
          ⟨(some (41, false)), (some (45, 45)), .call (.v (.func (.func 102) #[] #[])) [(.t 43), (.t 44)]⟩,
          ⟨(some (41, false)), (some (46, 46)), .p (.bin .leq .other true (.t 45) (.v (.int .i64 0)))⟩,
          oq 47 (.p (.pick (.t 41) (.v (.bool true)) (.t 46))),
          om 48 (.t 47),
          ⟨(some (48, false)), (some (49, 49)), .p (.mv (.t 2))⟩,
          ⟨(some (48, false)), (some (50, 50)), .p (.mv (.t 49))⟩,
          ⟨(some (50, true)), (some (51, 51)), .p (.fad (.t 8) 0)⟩,
          ⟨(some (50, true)), (some (52, 52)), .l (.ld none (.t 51))⟩,
          ⟨(some (50, true)), (some (53, 53)), .p (.bin .neq .other true (.t 52) (.v (.int .i64 1)))⟩,
          ⟨(some (48, false)), (some (54, 54)), .p (.pick (.t 50) (.t 53) (.v (.bool false)))⟩,
          oq 55 (.p (.pick (.t 48) (.v (.bool true)) (.t 54))),
          om 30 (.t 55)]) (by kernel_rfl) ?_
      refine WS.c (One.fad rfl rfl ?_)
      refine WS.c (One.ld rfl (ld_of (o := 0) (v := .pointer (some ⟨r, 0, none⟩)) (hS nx _ (by rw [del_ne (by omega)]; exact hbx1)) rfl) rfl ?_)
      refine WS.c (One.call rfl rfl (spec101 hsm101 _ _ r b _ _ hR) rfl ?_ (fun _ _ _ h => h.elim))
      rintro _ _ _ ⟨rfl, rfl, rfl⟩
      refine WS.c (One.bin rfl rfl bin_neq rfl ?_)
      refine WS.mv rfl rfl ?_
      refine WS.split (t := 35) rfl (fun hg3 => ?_) (fun hg3 => ?_)
      · refine WS.c (One.gNF rfl hg3 rfl ?_)
        refine WS.c (One.gNF rfl hg3 rfl ?_)
        refine WS.c (One.gNF rfl hg3 rfl ?_)
        refine WS.c (One.gNF rfl hg3 rfl ?_)
        refine WS.c (One.pickT rfl hg3 rfl rfl ?_)
        refine WS.mv rfl rfl ?_
        refine WS.c (One.gF rfl rfl rfl ?_)
        refine WS.c (One.gF rfl rfl rfl ?_)
        refine WS.c (One.gF rfl rfl rfl ?_)
        refine WS.c (One.gF rfl rfl rfl ?_)
        refine WS.c (One.gF rfl rfl rfl ?_)
        refine WS.c (One.pick rfl rfl rfl ?_)
        refine WS.mv rfl rfl ?_
        refine WS.c (One.gF rfl rfl rfl ?_)
        refine WS.c (One.gF rfl rfl rfl ?_)
        refine WS.c (One.gU rfl rfl ?_)
        refine WS.c (One.gU rfl rfl ?_)
        refine WS.c (One.gU rfl rfl ?_)
        refine WS.c (One.gF rfl rfl rfl ?_)
        refine WS.c (One.pick rfl rfl rfl ?_)
        refine WS.mv rfl rfl ?_
        refine WS.nil ?_
        refine WC.condB rfl (fun _ => ?_) (fun h => nomatch h)
        refine WC.seqR (xs := [oq 56 (.l (.ld (some 4) (.t 8))),
            ⟨none, none, .w (.sto 4 (.t 6) (.t 56))⟩,
            om 7 (.v (.bool false))]) (by kernel_rfl) ?_
        refine WS.c (One.ld rfl (ld_ofA (o := 0) (m := 4) (l := (chL (chC true s) (.slice a1 (keV s).length c1) (.slice a2 (olV true s).length c2) (.slice a3 (neV true s).length c3))) hc (Nat.le_refl 4) rfl) rfl ?_)
        refine WS.z (One.sto (cs' := (chL (chC true s) (.slice a1 (keV s).length c1) (.slice a2 (olV true s).length c2) (.slice a3 (neV true s).length c3))) rfl rfl hres rfl rfl rfl rfl ?_)
        refine WS.mv rfl rfl ?_
        refine WS.nil ?_
        refine WC.ret ?_
        refine EndOk.now rfl (resE_cell rfl (by kernel_rfl) (ld_sameA (m := 4) (Nat.le_refl 4) rfl) rfl) ⟨_, _, _, n3, mc, ?_, GS.le hf1 (by omega), hf2, hf3, by omega, hm1, hm2, hR.upd (by omega) (by omega), HSub.new hH.del (by omega) (HSub.delT hS00 hS), hB.upd (by omega)⟩
        refine congrArg (fun t => Value.tuple ⟨[.agg ⟨(chL (chC true s) (.slice a1 (keV s).length c1) (.slice a2 (olV true s).length c2) (.slice a3 (neV true s).length c3))⟩, .bool t]⟩) ?_
        first
        | exact decide_eq_decide.2 ⟨fun h => ⟨by omega, by omega, by omega, fun hw => by first | omega | contradiction, fun _ => h, by omega⟩, fun h => h.2.2.2.2.1 (by omega)⟩
        | exact decide_eq_decide.2 ⟨fun h => ⟨by omega, by omega, by omega, fun hw => by first | omega | contradiction, fun _ => by omega, by omega⟩, fun h => by have := h.2.2.2.2.2; omega⟩
        | exact (decide_eq_true (p := okP s ahead w) ⟨by omega, by omega, by omega, fun hw => by first | omega | contradiction, fun _ => by omega, by omega⟩).symm
        | (refine (decide_eq_false (p := okP s ahead w) fun h => ?_).symm
           obtain ⟨h1, h2, h3, h4, h5, h6⟩ := h
           first | omega | (have := h4 ‹w›; omega))
      · refine WS.c (One.gNT rfl hg3 (One.fad rfl rfl ?_))
        refine WS.c (One.gNT rfl hg3 (One.ld rfl (ld_of (o := 1) hc rfl) rfl ?_))
        refine WS.c (One.gNT rfl hg3 (One.len rfl rfl ?_))
        refine WS.c (One.gNT rfl hg3 (One.bin rfl rfl bin_eql rfl ?_))
        refine WS.c (One.pickF rfl hg3 rfl rfl ?_)
        refine WS.mv rfl rfl ?_
        refine WS.split (t := 41) rfl (fun hg5 => ?_) (fun hg5 => ?_)
        · refine WS.c (One.gNF rfl hg5 rfl ?_)
          refine WS.c (One.gNF rfl hg5 rfl ?_)
          refine WS.c (One.gNF rfl hg5 rfl ?_)
          refine WS.c (One.gNF rfl hg5 rfl ?_)
          refine WS.c (One.gNF rfl hg5 rfl ?_)
          refine WS.c (One.pickT rfl hg5 rfl rfl ?_)
          refine WS.mv rfl rfl ?_
          refine WS.c (One.gF rfl rfl rfl ?_)
          refine WS.c (One.gF rfl rfl rfl ?_)
          refine WS.c (One.gU rfl rfl ?_)
          refine WS.c (One.gU rfl rfl ?_)
          refine WS.c (One.gU rfl rfl ?_)
          refine WS.c (One.gF rfl rfl rfl ?_)
          refine WS.c (One.pick rfl rfl rfl ?_)
          refine WS.mv rfl rfl ?_
          refine WS.nil ?_
          refine WC.condB rfl (fun _ => ?_) (fun h => nomatch h)
          refine WC.seqR (xs := [oq 56 (.l (.ld (some 4) (.t 8))),
              ⟨none, none, .w (.sto 4 (.t 6) (.t 56))⟩,
              om 7 (.v (.bool false))]) (by kernel_rfl) ?_
          refine WS.c (One.ld rfl (ld_ofA (o := 0) (m := 4) (l := (chL (chC true s) (.slice a1 (keV s).length c1) (.slice a2 (olV true s).length c2) (.slice a3 (neV true s).length c3))) hc (Nat.le_refl 4) rfl) rfl ?_)
          refine WS.z (One.sto (cs' := (chL (chC true s) (.slice a1 (keV s).length c1) (.slice a2 (olV true s).length c2) (.slice a3 (neV true s).length c3))) rfl rfl hres rfl rfl rfl rfl ?_)
          refine WS.mv rfl rfl ?_
          refine WS.nil ?_
          refine WC.ret ?_
          refine EndOk.now rfl (resE_cell rfl (by kernel_rfl) (ld_sameA (m := 4) (Nat.le_refl 4) rfl) rfl) ⟨_, _, _, n3, mc, ?_, GS.le hf1 (by omega), hf2, hf3, by omega, hm1, hm2, hR.upd (by omega) (by omega), HSub.new hH.del (by omega) (HSub.delT hS00 hS), hB.upd (by omega)⟩
          refine congrArg (fun t => Value.tuple ⟨[.agg ⟨(chL (chC true s) (.slice a1 (keV s).length c1) (.slice a2 (olV true s).length c2) (.slice a3 (neV true s).length c3))⟩, .bool t]⟩) ?_
          first
          | exact decide_eq_decide.2 ⟨fun h => ⟨by omega, by omega, by omega, fun hw => by first | omega | contradiction, fun _ => h, by omega⟩, fun h => h.2.2.2.2.1 (by omega)⟩
          | exact decide_eq_decide.2 ⟨fun h => ⟨by omega, by omega, by omega, fun hw => by first | omega | contradiction, fun _ => by omega, by omega⟩, fun h => by have := h.2.2.2.2.2; omega⟩
          | exact (decide_eq_true (p := okP s ahead w) ⟨by omega, by omega, by omega, fun hw => by first | omega | contradiction, fun _ => by omega, by omega⟩).symm
          | (refine (decide_eq_false (p := okP s ahead w) fun h => ?_).symm
             obtain ⟨h1, h2, h3, h4, h5, h6⟩ := h
             first | omega | (have := h4 ‹w›; omega))
        · refine WS.c (One.gNT rfl hg5 (One.fad rfl rfl ?_))
          refine WS.c (One.gNT rfl hg5 (One.ld rfl (ld_of (o := 1) hc rfl) rfl ?_))
          refine WS.c (One.gNT rfl hg5 (One.mv rfl rfl ?_))
          refine WS.c (One.gNT rfl hg5 (One.call rfl rfl (spec102 hsm102 hsm169 _ _ a1 a4 (keV s) ahead c1 c4 hb1 hA4) rfl ?_ (fun _ _ _ h => h.elim)))
          rintro _ _ _ ⟨rfl, rfl, rfl⟩
          refine WS.c (One.gNT rfl hg5 (One.bin rfl rfl bin_leq rfl ?_))
          refine WS.c (One.pickF rfl hg5 rfl rfl ?_)
          refine WS.mv rfl rfl ?_
          refine WS.split (t := 48) rfl (fun hg7 => ?_) (fun hg7 => ?_)
          · refine WS.c (One.gNF rfl hg7 rfl ?_)
            refine WS.c (One.gNF rfl hg7 rfl ?_)
            refine WS.c (One.gU rfl rfl ?_)
            refine WS.c (One.gU rfl rfl ?_)
            refine WS.c (One.gU rfl rfl ?_)
            refine WS.c (One.gNF rfl hg7 rfl ?_)
            refine WS.c (One.pickT rfl hg7 rfl rfl ?_)
            refine WS.mv rfl rfl ?_
            refine WS.nil ?_
            refine WC.condB rfl (fun _ => ?_) (fun h => nomatch h)
            refine WC.seqR (xs := [oq 56 (.l (.ld (some 4) (.t 8))),
                ⟨none, none, .w (.sto 4 (.t 6) (.t 56))⟩,
                om 7 (.v (.bool false))]) (by kernel_rfl) ?_
            refine WS.c (One.ld rfl (ld_ofA (o := 0) (m := 4) (l := (chL (chC true s) (.slice a1 (keV s).length c1) (.slice a2 (olV true s).length c2) (.slice a3 (neV true s).length c3))) hc (Nat.le_refl 4) rfl) rfl ?_)
            refine WS.z (One.sto (cs' := (chL (chC true s) (.slice a1 (keV s).length c1) (.slice a2 (olV true s).length c2) (.slice a3 (neV true s).length c3))) rfl rfl hres rfl rfl rfl rfl ?_)
            refine WS.mv rfl rfl ?_
            refine WS.nil ?_
            refine WC.ret ?_
            refine EndOk.now rfl (resE_cell rfl (by kernel_rfl) (ld_sameA (m := 4) (Nat.le_refl 4) rfl) rfl) ⟨_, _, _, n3, mc, ?_, GS.le hf1 (by omega), hf2, hf3, by omega, hm1, hm2, hR.upd (by omega) (by omega), HSub.new hH.del (by omega) (HSub.delT hS00 hS), hB.upd (by omega)⟩
            refine congrArg (fun t => Value.tuple ⟨[.agg ⟨(chL (chC true s) (.slice a1 (keV s).length c1) (.slice a2 (olV true s).length c2) (.slice a3 (neV true s).length c3))⟩, .bool t]⟩) ?_
            first
            | exact decide_eq_decide.2 ⟨fun h => ⟨by omega, by omega, by omega, fun hw => by first | omega | contradiction, fun _ => h, by omega⟩, fun h => h.2.2.2.2.1 (by omega)⟩
            | exact decide_eq_decide.2 ⟨fun h => ⟨by omega, by omega, by omega, fun hw => by first | omega | contradiction, fun _ => by omega, by omega⟩, fun h => by have := h.2.2.2.2.2; omega⟩
            | exact (decide_eq_true (p := okP s ahead w) ⟨by omega, by omega, by omega, fun hw => by first | omega | contradiction, fun _ => by omega, by omega⟩).symm
            | (refine (decide_eq_false (p := okP s ahead w) fun h => ?_).symm
               obtain ⟨h1, h2, h3, h4, h5, h6⟩ := h
               first | omega | (have := h4 ‹w›; omega))
          · refine WS.c (One.gNT rfl hg7 (One.mv rfl rfl ?_))
            refine WS.c (One.gNT rfl hg7 (One.mv rfl rfl ?_))
            refine WS.split (t := 50) rfl (fun hg9 => ?_) (fun hg9 => ?_)
            · refine WS.c (One.gPT rfl hg9 (One.fad rfl rfl ?_))
              refine WS.c (One.gPT rfl hg9 (One.ld rfl (ld_of (o := 0) hc rfl) rfl ?_))
              refine WS.c (One.gPT rfl hg9 (One.bin rfl rfl bin_neq rfl ?_))
              refine WS.c (One.gNT rfl hg7 (One.pickT rfl hg9 rfl rfl ?_))
              refine WS.c (One.pickF rfl hg7 rfl rfl ?_)
              refine WS.mv rfl rfl ?_
              refine WS.nil ?_
              refine WC.cond rfl (fun hc10 => ?_) (fun hc10 => ?_)
              · refine WC.seqR (xs := [oq 56 (.l (.ld (some 4) (.t 8))),
                    ⟨none, none, .w (.sto 4 (.t 6) (.t 56))⟩,
                    om 7 (.v (.bool false))]) (by kernel_rfl) ?_
                refine WS.c (One.ld rfl (ld_ofA (o := 0) (m := 4) (l := (chL (chC true s) (.slice a1 (keV s).length c1) (.slice a2 (olV true s).length c2) (.slice a3 (neV true s).length c3))) hc (Nat.le_refl 4) rfl) rfl ?_)
                refine WS.z (One.sto (cs' := (chL (chC true s) (.slice a1 (keV s).length c1) (.slice a2 (olV true s).length c2) (.slice a3 (neV true s).length c3))) rfl rfl hres rfl rfl rfl rfl ?_)
                refine WS.mv rfl rfl ?_
                refine WS.nil ?_
                refine WC.ret ?_
                refine EndOk.now rfl (resE_cell rfl (by kernel_rfl) (ld_sameA (m := 4) (Nat.le_refl 4) rfl) rfl) ⟨_, _, _, n3, mc, ?_, GS.le hf1 (by omega), hf2, hf3, by omega, hm1, hm2, hR.upd (by omega) (by omega), HSub.new hH.del (by omega) (HSub.delT hS00 hS), hB.upd (by omega)⟩
                refine congrArg (fun t => Value.tuple ⟨[.agg ⟨(chL (chC true s) (.slice a1 (keV s).length c1) (.slice a2 (olV true s).length c2) (.slice a3 (neV true s).length c3))⟩, .bool t]⟩) ?_
                first
                | exact decide_eq_decide.2 ⟨fun h => ⟨by omega, by omega, by omega, fun hw => by first | omega | contradiction, fun _ => h, by omega⟩, fun h => h.2.2.2.2.1 (by omega)⟩
                | exact decide_eq_decide.2 ⟨fun h => ⟨by omega, by omega, by omega, fun hw => by first | omega | contradiction, fun _ => by omega, by omega⟩, fun h => by have := h.2.2.2.2.2; omega⟩
                | exact (decide_eq_true (p := okP s ahead w) ⟨by omega, by omega, by omega, fun hw => by first | omega | contradiction, fun _ => by omega, by omega⟩).symm
                | (refine (decide_eq_false (p := okP s ahead w) fun h => ?_).symm
                   obtain ⟨h1, h2, h3, h4, h5, h6⟩ := h
                   first | omega | (have := h4 ‹w›; omega))
              · refine WC.seqR (xs := [oq 58 (.p (.fad (.t 8) 0)),
                    oq 59 (.l (.ld none (.t 58))),
                    oq 60 (.p (.bin .eql .other true (.t 59) (.v (.int .i64 3)))),
                    om 57 (.t 60)]) (by kernel_rfl) ?_
                refine WS.c (One.fad rfl rfl ?_)
                refine WS.c (One.ld rfl (ld_of (o := 0) hc rfl) rfl ?_)
                refine WS.c (One.bin rfl rfl bin_eql rfl ?_)
                refine WS.mv rfl rfl ?_
                refine WS.nil ?_
                refine WC.cond rfl (fun hc11 => ?_) (fun hc11 => ?_)
                · refine WC.seqT (l := [oq 61 (.l (.ld (some 4) (.t 8))),
                      oq 62 (.p (.fad (.t 8) 2)),
                      oq 63 (.l (.ld none (.t 62))),
                      oq 64 (.l (.str (.t 63))),
                      oq 65 (.p (.fad (.t 8) 3)),
                      oq 66 (.l (.ld none (.t 65))),
                      oq 67 (.l (.str (.t 66))),
                      oq 68 (.p (.bin .neq .str false (.t 64) (.t 67))),
                      ⟨none, none, .w (.sto 4 (.t 6) (.t 61))⟩,
                      om 7 (.t 68)]) (ws := [(0, 0), (0, 1), (0, 1), (0, 1), (0, 1), (0, 1), (0, 1), (0, 1), (0, 1), (1, 1)]) (xs := [(oq 61 (.l (.ld (some 4) (.t 8))), [8]),
                      (oq 62 (.p (.fad (.t 8) 2)), [8]),
                      (oq 63 (.l (.ld none (.t 62))), [62]),
                      (oq 64 (.l (.str (.t 63))), [63]),
                      (oq 65 (.p (.fad (.t 8) 3)), [8]),
                      (oq 66 (.l (.ld none (.t 65))), [65]),
                      (oq 67 (.l (.str (.t 66))), [66]),
                      (oq 68 (.p (.bin .neq .str false (.t 64) (.t 67))), [64, 67]),
                      (⟨none, none, .w (.sto 4 (.t 6) (.t 61))⟩, [6, 61]),
                      (om 7 (.t 68), [68])]) (by kernel_rfl) (by kernel_rfl) ?_
                  refine WD.r (One.ld rfl (ld_ofA (o := 0) (m := 4) (l := (chL (chC true s) (.slice a1 (keV s).length c1) (.slice a2 (olV true s).length c2) (.slice a3 (neV true s).length c3))) hc (Nat.le_refl 4) rfl) rfl ⟨_, rfl, ?_⟩)
                  refine WD.q rfl (One.fad rfl rfl ⟨rfl, ?_⟩)
                  refine WD.r (One.ld rfl (ld_of (o := 2) hc rfl) rfl ⟨_, rfl, ?_⟩)
                  refine WD.r (One.str rfl (bytesE_bs hb2) rfl ⟨_, rfl, ?_⟩)
                  refine WD.q rfl (One.fad rfl rfl ⟨rfl, ?_⟩)
                  refine WD.r (One.ld rfl (ld_of (o := 3) hc rfl) rfl ⟨_, rfl, ?_⟩)
                  refine WD.r (One.str rfl (bytesE_bs hb3) rfl ⟨_, rfl, ?_⟩)
                  refine WD.q rfl (One.bin rfl rfl bin_neqS rfl ⟨rfl, ?_⟩)
                  refine WD.l rfl (One.sto (cs' := (chL (chC true s) (.slice a1 (keV s).length c1) (.slice a2 (olV true s).length c2) (.slice a3 (neV true s).length c3))) rfl rfl hres rfl rfl rfl rfl ⟨rfl, ?_⟩)
                  refine WD.q rfl (One.mv rfl rfl ⟨rfl, ?_⟩)
                  refine WD.nil (⟨⟨veq_str _ _, by simp only [evE, bytesE_bs hb3], by simp only [evE, bytesE_bs hb3u], trivial⟩, ⟨veq_slb _ _ _ hb3, ld_of (o := 3) hc rfl, ld_of (o := 3) hcu rfl, trivial⟩, ⟨veq_str _ _, by simp only [evE, bytesE_bs hb2], by simp only [evE, bytesE_bs hb2u], trivial⟩, ⟨veq_slb _ _ _ hb2, ld_of (o := 2) hc rfl, ld_of (o := 2) hcu rfl, trivial⟩, ⟨veq_chL (chC true s) hb1 hb2 hb3, ld_ofA (o := 0) (m := 4) (l := (chL (chC true s) (.slice a1 (keV s).length c1) (.slice a2 (olV true s).length c2) (.slice a3 (neV true s).length c3))) hc (Nat.le_refl 4) rfl, trivial⟩, trivial⟩) ?_
                  refine WC.ret ?_
                  refine EndOk.now rfl (resE_cell rfl (by kernel_rfl) (ld_sameA (m := 4) (Nat.le_refl 4) rfl) rfl) ⟨_, _, _, n3, mc, ?_, GS.le hf1 (by omega), hf2, hf3, by omega, hm1, hm2, hR.upd (by omega) (by omega), HSub.new hH.del (by omega) (HSub.delT hS00 hS), hB.upd (by omega)⟩
                  refine congrArg (fun t => Value.tuple ⟨[.agg ⟨(chL (chC true s) (.slice a1 (keV s).length c1) (.slice a2 (olV true s).length c2) (.slice a3 (neV true s).length c3))⟩, .bool t]⟩) ?_
                  first
                  | exact decide_eq_decide.2 ⟨fun h => ⟨by omega, by omega, by omega, fun hw => by first | omega | contradiction, fun _ => h, by omega⟩, fun h => h.2.2.2.2.1 (by omega)⟩
                  | exact decide_eq_decide.2 ⟨fun h => ⟨by omega, by omega, by omega, fun hw => by first | omega | contradiction, fun _ => by omega, by omega⟩, fun h => by have := h.2.2.2.2.2; omega⟩
                  | exact (decide_eq_true (p := okP s ahead w) ⟨by omega, by omega, by omega, fun hw => by first | omega | contradiction, fun _ => by omega, by omega⟩).symm
                  | (refine (decide_eq_false (p := okP s ahead w) fun h => ?_).symm
                     obtain ⟨h1, h2, h3, h4, h5, h6⟩ := h
                     first | omega | (have := h4 ‹w›; omega))
                · refine WC.skip ?_
                  refine WC.seqT (l := [oq 69 (.l (.ld (some 4) (.t 8))),
                      oq 70 (.p (.fad (.t 8) 0)),
                      oq 71 (.l (.ld none (.t 70))),
                      oq 72 (.p (.bin .eql .other true (.t 71) (.v (.int .i64 1)))),
                      om 73 (.t 72),
                      ⟨(some (73, false)), (some (74, 74)), .p (.fad (.t 8) 0)⟩,
                      ⟨(some (73, false)), (some (75, 75)), .l (.ld none (.t 74))⟩,
                      ⟨(some (73, false)), (some (76, 76)), .p (.bin .eql .other true (.t 75) (.v (.int .i64 2)))⟩,
                      oq 77 (.p (.pick (.t 73) (.v (.bool true)) (.t 76))),
                      ⟨none, none, .w (.sto 4 (.t 6) (.t 69))⟩,
                      om 7 (.t 77)]) (ws := [(0, 0), (0, 0), (0, 0), (0, 0), (0, 0), (0, 1), (0, 1), (0, 1), (0, 1), (0, 1), (1, 1)]) (xs := [(oq 69 (.l (.ld (some 4) (.t 8))), [8]),
                      (oq 70 (.p (.fad (.t 8) 0)), [8]),
                      (oq 71 (.l (.ld none (.t 70))), [70]),
                      (oq 72 (.p (.bin .eql .other true (.t 71) (.v (.int .i64 1)))), [71]),
                      (om 73 (.t 72), [72]),
                      (⟨(some (73, false)), (some (74, 74)), .p (.fad (.t 8) 0)⟩, [8, 73]),
                      (⟨(some (73, false)), (some (75, 75)), .l (.ld none (.t 74))⟩, [74, 73]),
                      (⟨(some (73, false)), (some (76, 76)), .p (.bin .eql .other true (.t 75) (.v (.int .i64 2)))⟩, [75, 73]),
                      (oq 77 (.p (.pick (.t 73) (.v (.bool true)) (.t 76))), [73, 76]),
                      (⟨none, none, .w (.sto 4 (.t 6) (.t 69))⟩, [6, 69]),
                      (om 7 (.t 77), [77])]) (by kernel_rfl) (by kernel_rfl) ?_
                  refine WD.r (One.ld rfl (ld_ofA (o := 0) (m := 4) (l := (chL (chC true s) (.slice a1 (keV s).length c1) (.slice a2 (olV true s).length c2) (.slice a3 (neV true s).length c3))) hc (Nat.le_refl 4) rfl) rfl ⟨_, rfl, ?_⟩)
                  refine WD.q rfl (One.fad rfl rfl ⟨rfl, ?_⟩)
                  refine WD.r (One.ld rfl (ld_of (o := 0) hc rfl) rfl ⟨_, rfl, ?_⟩)
                  refine WD.q rfl (One.bin rfl rfl bin_eql rfl ⟨rfl, ?_⟩)
                  refine WD.q rfl (One.mv rfl rfl ⟨rfl, ?_⟩)
                  refine WD.split (t := 73) rfl (fun hg12 => ?_) (fun hg12 => ?_)
                  · refine WD.q rfl (One.gNF rfl hg12 rfl ⟨rfl, ?_⟩)
                    refine WD.q rfl (One.gNF rfl hg12 rfl ⟨rfl, ?_⟩)
                    refine WD.q rfl (One.gNF rfl hg12 rfl ⟨rfl, ?_⟩)
                    refine WD.q rfl (One.pickT rfl hg12 rfl rfl ⟨rfl, ?_⟩)
                    refine WD.l rfl (One.sto (cs' := (chL (chC true s) (.slice a1 (keV s).length c1) (.slice a2 (olV true s).length c2) (.slice a3 (neV true s).length c3))) rfl rfl hres rfl rfl rfl rfl ⟨rfl, ?_⟩)
                    refine WD.q rfl (One.mv rfl rfl ⟨rfl, ?_⟩)
                    refine WD.nil (by first | exact ⟨⟨veq_int _ _ _, ld_of (o := 0) hc rfl, trivial⟩, ⟨veq_chL (chC true s) hb1 hb2 hb3, ld_ofA (o := 0) (m := 4) (l := (chL (chC true s) (.slice a1 (keV s).length c1) (.slice a2 (olV true s).length c2) (.slice a3 (neV true s).length c3))) hc (Nat.le_refl 4) rfl, trivial⟩, trivial⟩ | exact ⟨⟨veq_int _ _ _, ld_of (o := 0) hc rfl, ld_of (o := 0) hcu rfl, trivial⟩, ⟨veq_int _ _ _, ld_of (o := 0) hc rfl, trivial⟩, ⟨veq_chL (chC true s) hb1 hb2 hb3, ld_ofA (o := 0) (m := 4) (l := (chL (chC true s) (.slice a1 (keV s).length c1) (.slice a2 (olV true s).length c2) (.slice a3 (neV true s).length c3))) hc (Nat.le_refl 4) rfl, trivial⟩, trivial⟩) ?_
                    refine WC.ret ?_
                    refine EndOk.now rfl (resE_cell rfl (by kernel_rfl) (ld_sameA (m := 4) (Nat.le_refl 4) rfl) rfl) ⟨_, _, _, n3, mc, ?_, GS.le hf1 (by omega), hf2, hf3, by omega, hm1, hm2, hR.upd (by omega) (by omega), HSub.new hH.del (by omega) (HSub.delT hS00 hS), hB.upd (by omega)⟩
                    refine congrArg (fun t => Value.tuple ⟨[.agg ⟨(chL (chC true s) (.slice a1 (keV s).length c1) (.slice a2 (olV true s).length c2) (.slice a3 (neV true s).length c3))⟩, .bool t]⟩) ?_
                    first
                    | exact decide_eq_decide.2 ⟨fun h => ⟨by omega, by omega, by omega, fun hw => by first | omega | contradiction, fun _ => h, by omega⟩, fun h => h.2.2.2.2.1 (by omega)⟩
                    | exact decide_eq_decide.2 ⟨fun h => ⟨by omega, by omega, by omega, fun hw => by first | omega | contradiction, fun _ => by omega, by omega⟩, fun h => by have := h.2.2.2.2.2; omega⟩
                    | exact (decide_eq_true (p := okP s ahead w) ⟨by omega, by omega, by omega, fun hw => by first | omega | contradiction, fun _ => by omega, by omega⟩).symm
                    | (refine (decide_eq_false (p := okP s ahead w) fun h => ?_).symm
                       obtain ⟨h1, h2, h3, h4, h5, h6⟩ := h
                       first | omega | (have := h4 ‹w›; omega))
                  · refine WD.q rfl (One.gNT rfl hg12 (One.fad rfl rfl ⟨rfl, ?_⟩))
                    refine WD.r (One.gNT rfl hg12 (One.ld rfl (ld_of (o := 0) hc rfl) rfl ⟨_, rfl, ?_⟩))
                    refine WD.q rfl (One.gNT rfl hg12 (One.bin rfl rfl bin_eql rfl ⟨rfl, ?_⟩))
                    refine WD.q rfl (One.pickF rfl hg12 rfl rfl ⟨rfl, ?_⟩)
                    refine WD.l rfl (One.sto (cs' := (chL (chC true s) (.slice a1 (keV s).length c1) (.slice a2 (olV true s).length c2) (.slice a3 (neV true s).length c3))) rfl rfl hres rfl rfl rfl rfl ⟨rfl, ?_⟩)
                    refine WD.q rfl (One.mv rfl rfl ⟨rfl, ?_⟩)
                    refine WD.nil (by first | exact ⟨⟨veq_int _ _ _, ld_of (o := 0) hc rfl, trivial⟩, ⟨veq_chL (chC true s) hb1 hb2 hb3, ld_ofA (o := 0) (m := 4) (l := (chL (chC true s) (.slice a1 (keV s).length c1) (.slice a2 (olV true s).length c2) (.slice a3 (neV true s).length c3))) hc (Nat.le_refl 4) rfl, trivial⟩, trivial⟩ | exact ⟨⟨veq_int _ _ _, ld_of (o := 0) hc rfl, ld_of (o := 0) hcu rfl, trivial⟩, ⟨veq_int _ _ _, ld_of (o := 0) hc rfl, trivial⟩, ⟨veq_chL (chC true s) hb1 hb2 hb3, ld_ofA (o := 0) (m := 4) (l := (chL (chC true s) (.slice a1 (keV s).length c1) (.slice a2 (olV true s).length c2) (.slice a3 (neV true s).length c3))) hc (Nat.le_refl 4) rfl, trivial⟩, trivial⟩) ?_
                    refine WC.ret ?_
                    refine EndOk.now rfl (resE_cell rfl (by kernel_rfl) (ld_sameA (m := 4) (Nat.le_refl 4) rfl) rfl) ⟨_, _, _, n3, mc, ?_, GS.le hf1 (by omega), hf2, hf3, by omega, hm1, hm2, hR.upd (by omega) (by omega), HSub.new hH.del (by omega) (HSub.delT hS00 hS), hB.upd (by omega)⟩
                    refine congrArg (fun t => Value.tuple ⟨[.agg ⟨(chL (chC true s) (.slice a1 (keV s).length c1) (.slice a2 (olV true s).length c2) (.slice a3 (neV true s).length c3))⟩, .bool t]⟩) ?_
                    first
                    | exact decide_eq_decide.2 ⟨fun h => ⟨by omega, by omega, by omega, fun hw => by first | omega | contradiction, fun _ => h, by omega⟩, fun h => h.2.2.2.2.1 (by omega)⟩
                    | exact decide_eq_decide.2 ⟨fun h => ⟨by omega, by omega, by omega, fun hw => by first | omega | contradiction, fun _ => by omega, by omega⟩, fun h => by have := h.2.2.2.2.2; omega⟩
                    | exact (decide_eq_true (p := okP s ahead w) ⟨by omega, by omega, by omega, fun hw => by first | omega | contradiction, fun _ => by omega, by omega⟩).symm
                    | (refine (decide_eq_false (p := okP s ahead w) fun h => ?_).symm
                       obtain ⟨h1, h2, h3, h4, h5, h6⟩ := h
                       first | omega | (have := h4 ‹w›; omega))
            · refine WS.c (One.gPF rfl hg9 rfl ?_)
              refine WS.c (One.gPF rfl hg9 rfl ?_)
              refine WS.c (One.gPF rfl hg9 rfl ?_)
              refine WS.c (One.gNT rfl hg7 (One.pickF rfl hg9 rfl rfl ?_))
              refine WS.c (One.pickF rfl hg7 rfl rfl ?_)
              refine WS.mv rfl rfl ?_
              refine WS.nil ?_
              refine WC.condB rfl (fun h => nomatch h) (fun _ => ?_)
              refine WC.seqR (xs := [oq 58 (.p (.fad (.t 8) 0)),
                  oq 59 (.l (.ld none (.t 58))),
                  oq 60 (.p (.bin .eql .other true (.t 59) (.v (.int .i64 3)))),
                  om 57 (.t 60)]) (by kernel_rfl) ?_
              refine WS.c (One.fad rfl rfl ?_)
              refine WS.c (One.ld rfl (ld_of (o := 0) hc rfl) rfl ?_)
              refine WS.c (One.bin rfl rfl bin_eql rfl ?_)
              refine WS.mv rfl rfl ?_
              refine WS.nil ?_
              refine WC.cond rfl (fun hc14 => ?_) (fun hc14 => ?_)
              · refine WC.seqT (l := [oq 61 (.l (.ld (some 4) (.t 8))),
                    oq 62 (.p (.fad (.t 8) 2)),
                    oq 63 (.l (.ld none (.t 62))),
                    oq 64 (.l (.str (.t 63))),
                    oq 65 (.p (.fad (.t 8) 3)),
                    oq 66 (.l (.ld none (.t 65))),
                    oq 67 (.l (.str (.t 66))),
                    oq 68 (.p (.bin .neq .str false (.t 64) (.t 67))),
                    ⟨none, none, .w (.sto 4 (.t 6) (.t 61))⟩,
                    om 7 (.t 68)]) (ws := [(0, 0), (0, 1), (0, 1), (0, 1), (0, 1), (0, 1), (0, 1), (0, 1), (0, 1), (1, 1)]) (xs := [(oq 61 (.l (.ld (some 4) (.t 8))), [8]),
                    (oq 62 (.p (.fad (.t 8) 2)), [8]),
                    (oq 63 (.l (.ld none (.t 62))), [62]),
                    (oq 64 (.l (.str (.t 63))), [63]),
                    (oq 65 (.p (.fad (.t 8) 3)), [8]),
                    (oq 66 (.l (.ld none (.t 65))), [65]),
                    (oq 67 (.l (.str (.t 66))), [66]),
                    (oq 68 (.p (.bin .neq .str false (.t 64) (.t 67))), [64, 67]),
                    (⟨none, none, .w (.sto 4 (.t 6) (.t 61))⟩, [6, 61]),
                    (om 7 (.t 68), [68])]) (by kernel_rfl) (by kernel_rfl) ?_
                refine WD.r (One.ld rfl (ld_ofA (o := 0) (m := 4) (l := (chL (chC true s) (.slice a1 (keV s).length c1) (.slice a2 (olV true s).length c2) (.slice a3 (neV true s).length c3))) hc (Nat.le_refl 4) rfl) rfl ⟨_, rfl, ?_⟩)
                refine WD.q rfl (One.fad rfl rfl ⟨rfl, ?_⟩)
                refine WD.r (One.ld rfl (ld_of (o := 2) hc rfl) rfl ⟨_, rfl, ?_⟩)
                refine WD.r (One.str rfl (bytesE_bs hb2) rfl ⟨_, rfl, ?_⟩)
                refine WD.q rfl (One.fad rfl rfl ⟨rfl, ?_⟩)
                refine WD.r (One.ld rfl (ld_of (o := 3) hc rfl) rfl ⟨_, rfl, ?_⟩)
                refine WD.r (One.str rfl (bytesE_bs hb3) rfl ⟨_, rfl, ?_⟩)
                refine WD.q rfl (One.bin rfl rfl bin_neqS rfl ⟨rfl, ?_⟩)
                refine WD.l rfl (One.sto (cs' := (chL (chC true s) (.slice a1 (keV s).length c1) (.slice a2 (olV true s).length c2) (.slice a3 (neV true s).length c3))) rfl rfl hres rfl rfl rfl rfl ⟨rfl, ?_⟩)
                refine WD.q rfl (One.mv rfl rfl ⟨rfl, ?_⟩)
                refine WD.nil (⟨⟨veq_str _ _, by simp only [evE, bytesE_bs hb3], by simp only [evE, bytesE_bs hb3u], trivial⟩, ⟨veq_slb _ _ _ hb3, ld_of (o := 3) hc rfl, ld_of (o := 3) hcu rfl, trivial⟩, ⟨veq_str _ _, by simp only [evE, bytesE_bs hb2], by simp only [evE, bytesE_bs hb2u], trivial⟩, ⟨veq_slb _ _ _ hb2, ld_of (o := 2) hc rfl, ld_of (o := 2) hcu rfl, trivial⟩, ⟨veq_chL (chC true s) hb1 hb2 hb3, ld_ofA (o := 0) (m := 4) (l := (chL (chC true s) (.slice a1 (keV s).length c1) (.slice a2 (olV true s).length c2) (.slice a3 (neV true s).length c3))) hc (Nat.le_refl 4) rfl, trivial⟩, trivial⟩) ?_
                refine WC.ret ?_
                refine EndOk.now rfl (resE_cell rfl (by kernel_rfl) (ld_sameA (m := 4) (Nat.le_refl 4) rfl) rfl) ⟨_, _, _, n3, mc, ?_, GS.le hf1 (by omega), hf2, hf3, by omega, hm1, hm2, hR.upd (by omega) (by omega), HSub.new hH.del (by omega) (HSub.delT hS00 hS), hB.upd (by omega)⟩
                refine congrArg (fun t => Value.tuple ⟨[.agg ⟨(chL (chC true s) (.slice a1 (keV s).length c1) (.slice a2 (olV true s).length c2) (.slice a3 (neV true s).length c3))⟩, .bool t]⟩) ?_
                first
                | exact decide_eq_decide.2 ⟨fun h => ⟨by omega, by omega, by omega, fun hw => by first | omega | contradiction, fun _ => h, by omega⟩, fun h => h.2.2.2.2.1 (by omega)⟩
                | exact decide_eq_decide.2 ⟨fun h => ⟨by omega, by omega, by omega, fun hw => by first | omega | contradiction, fun _ => by omega, by omega⟩, fun h => by have := h.2.2.2.2.2; omega⟩
                | exact (decide_eq_true (p := okP s ahead w) ⟨by omega, by omega, by omega, fun hw => by first | omega | contradiction, fun _ => by omega, by omega⟩).symm
                | (refine (decide_eq_false (p := okP s ahead w) fun h => ?_).symm
                   obtain ⟨h1, h2, h3, h4, h5, h6⟩ := h
                   first | omega | (have := h4 ‹w›; omega))
              · refine WC.skip ?_
                refine WC.seqT (l := [oq 69 (.l (.ld (some 4) (.t 8))),
                    oq 70 (.p (.fad (.t 8) 0)),
                    oq 71 (.l (.ld none (.t 70))),
                    oq 72 (.p (.bin .eql .other true (.t 71) (.v (.int .i64 1)))),
                    om 73 (.t 72),
                    ⟨(some (73, false)), (some (74, 74)), .p (.fad (.t 8) 0)⟩,
                    ⟨(some (73, false)), (some (75, 75)), .l (.ld none (.t 74))⟩,
                    ⟨(some (73, false)), (some (76, 76)), .p (.bin .eql .other true (.t 75) (.v (.int .i64 2)))⟩,
                    oq 77 (.p (.pick (.t 73) (.v (.bool true)) (.t 76))),
                    ⟨none, none, .w (.sto 4 (.t 6) (.t 69))⟩,
                    om 7 (.t 77)]) (ws := [(0, 0), (0, 0), (0, 0), (0, 0), (0, 0), (0, 1), (0, 1), (0, 1), (0, 1), (0, 1), (1, 1)]) (xs := [(oq 69 (.l (.ld (some 4) (.t 8))), [8]),
                    (oq 70 (.p (.fad (.t 8) 0)), [8]),
                    (oq 71 (.l (.ld none (.t 70))), [70]),
                    (oq 72 (.p (.bin .eql .other true (.t 71) (.v (.int .i64 1)))), [71]),
                    (om 73 (.t 72), [72]),
                    (⟨(some (73, false)), (some (74, 74)), .p (.fad (.t 8) 0)⟩, [8, 73]),
                    (⟨(some (73, false)), (some (75, 75)), .l (.ld none (.t 74))⟩, [74, 73]),
                    (⟨(some (73, false)), (some (76, 76)), .p (.bin .eql .other true (.t 75) (.v (.int .i64 2)))⟩, [75, 73]),
                    (oq 77 (.p (.pick (.t 73) (.v (.bool true)) (.t 76))), [73, 76]),
                    (⟨none, none, .w (.sto 4 (.t 6) (.t 69))⟩, [6, 69]),
                    (om 7 (.t 77), [77])]) (by kernel_rfl) (by kernel_rfl) ?_
                refine WD.r (One.ld rfl (ld_ofA (o := 0) (m := 4) (l := (chL (chC true s) (.slice a1 (keV s).length c1) (.slice a2 (olV true s).length c2) (.slice a3 (neV true s).length c3))) hc (Nat.le_refl 4) rfl) rfl ⟨_, rfl, ?_⟩)
                refine WD.q rfl (One.fad rfl rfl ⟨rfl, ?_⟩)
                refine WD.r (One.ld rfl (ld_of (o := 0) hc rfl) rfl ⟨_, rfl, ?_⟩)
                refine WD.q rfl (One.bin rfl rfl bin_eql rfl ⟨rfl, ?_⟩)
                refine WD.q rfl (One.mv rfl rfl ⟨rfl, ?_⟩)
                refine WD.split (t := 73) rfl (fun hg15 => ?_) (fun hg15 => ?_)
                · refine WD.q rfl (One.gNF rfl hg15 rfl ⟨rfl, ?_⟩)
                  refine WD.q rfl (One.gNF rfl hg15 rfl ⟨rfl, ?_⟩)
                  refine WD.q rfl (One.gNF rfl hg15 rfl ⟨rfl, ?_⟩)
                  refine WD.q rfl (One.pickT rfl hg15 rfl rfl ⟨rfl, ?_⟩)
                  refine WD.l rfl (One.sto (cs' := (chL (chC true s) (.slice a1 (keV s).length c1) (.slice a2 (olV true s).length c2) (.slice a3 (neV true s).length c3))) rfl rfl hres rfl rfl rfl rfl ⟨rfl, ?_⟩)
                  refine WD.q rfl (One.mv rfl rfl ⟨rfl, ?_⟩)
                  refine WD.nil (by first | exact ⟨⟨veq_int _ _ _, ld_of (o := 0) hc rfl, trivial⟩, ⟨veq_chL (chC true s) hb1 hb2 hb3, ld_ofA (o := 0) (m := 4) (l := (chL (chC true s) (.slice a1 (keV s).length c1) (.slice a2 (olV true s).length c2) (.slice a3 (neV true s).length c3))) hc (Nat.le_refl 4) rfl, trivial⟩, trivial⟩ | exact ⟨⟨veq_int _ _ _, ld_of (o := 0) hc rfl, ld_of (o := 0) hcu rfl, trivial⟩, ⟨veq_int _ _ _, ld_of (o := 0) hc rfl, trivial⟩, ⟨veq_chL (chC true s) hb1 hb2 hb3, ld_ofA (o := 0) (m := 4) (l := (chL (chC true s) (.slice a1 (keV s).length c1) (.slice a2 (olV true s).length c2) (.slice a3 (neV true s).length c3))) hc (Nat.le_refl 4) rfl, trivial⟩, trivial⟩) ?_
                  refine WC.ret ?_
                  refine EndOk.now rfl (resE_cell rfl (by kernel_rfl) (ld_sameA (m := 4) (Nat.le_refl 4) rfl) rfl) ⟨_, _, _, n3, mc, ?_, GS.le hf1 (by omega), hf2, hf3, by omega, hm1, hm2, hR.upd (by omega) (by omega), HSub.new hH.del (by omega) (HSub.delT hS00 hS), hB.upd (by omega)⟩
                  refine congrArg (fun t => Value.tuple ⟨[.agg ⟨(chL (chC true s) (.slice a1 (keV s).length c1) (.slice a2 (olV true s).length c2) (.slice a3 (neV true s).length c3))⟩, .bool t]⟩) ?_
                  first
                  | exact decide_eq_decide.2 ⟨fun h => ⟨by omega, by omega, by omega, fun hw => by first | omega | contradiction, fun _ => h, by omega⟩, fun h => h.2.2.2.2.1 (by omega)⟩
                  | exact decide_eq_decide.2 ⟨fun h => ⟨by omega, by omega, by omega, fun hw => by first | omega | contradiction, fun _ => by omega, by omega⟩, fun h => by have := h.2.2.2.2.2; omega⟩
                  | exact (decide_eq_true (p := okP s ahead w) ⟨by omega, by omega, by omega, fun hw => by first | omega | contradiction, fun _ => by omega, by omega⟩).symm
                  | (refine (decide_eq_false (p := okP s ahead w) fun h => ?_).symm
                     obtain ⟨h1, h2, h3, h4, h5, h6⟩ := h
                     first | omega | (have := h4 ‹w›; omega))
                · refine WD.q rfl (One.gNT rfl hg15 (One.fad rfl rfl ⟨rfl, ?_⟩))
                  refine WD.r (One.gNT rfl hg15 (One.ld rfl (ld_of (o := 0) hc rfl) rfl ⟨_, rfl, ?_⟩))
                  refine WD.q rfl (One.gNT rfl hg15 (One.bin rfl rfl bin_eql rfl ⟨rfl, ?_⟩))
                  refine WD.q rfl (One.pickF rfl hg15 rfl rfl ⟨rfl, ?_⟩)
                  refine WD.l rfl (One.sto (cs' := (chL (chC true s) (.slice a1 (keV s).length c1) (.slice a2 (olV true s).length c2) (.slice a3 (neV true s).length c3))) rfl rfl hres rfl rfl rfl rfl ⟨rfl, ?_⟩)
                  refine WD.q rfl (One.mv rfl rfl ⟨rfl, ?_⟩)
                  refine WD.nil (by first | exact ⟨⟨veq_int _ _ _, ld_of (o := 0) hc rfl, trivial⟩, ⟨veq_chL (chC true s) hb1 hb2 hb3, ld_ofA (o := 0) (m := 4) (l := (chL (chC true s) (.slice a1 (keV s).length c1) (.slice a2 (olV true s).length c2) (.slice a3 (neV true s).length c3))) hc (Nat.le_refl 4) rfl, trivial⟩, trivial⟩ | exact ⟨⟨veq_int _ _ _, ld_of (o := 0) hc rfl, ld_of (o := 0) hcu rfl, trivial⟩, ⟨veq_int _ _ _, ld_of (o := 0) hc rfl, trivial⟩, ⟨veq_chL (chC true s) hb1 hb2 hb3, ld_ofA (o := 0) (m := 4) (l := (chL (chC true s) (.slice a1 (keV s).length c1) (.slice a2 (olV true s).length c2) (.slice a3 (neV true s).length c3))) hc (Nat.le_refl 4) rfl, trivial⟩, trivial⟩) ?_
                  refine WC.ret ?_
                  refine EndOk.now rfl (resE_cell rfl (by kernel_rfl) (ld_sameA (m := 4) (Nat.le_refl 4) rfl) rfl) ⟨_, _, _, n3, mc, ?_, GS.le hf1 (by omega), hf2, hf3, by omega, hm1, hm2, hR.upd (by omega) (by omega), HSub.new hH.del (by omega) (HSub.delT hS00 hS), hB.upd (by omega)⟩
                  refine congrArg (fun t => Value.tuple ⟨[.agg ⟨(chL (chC true s) (.slice a1 (keV s).length c1) (.slice a2 (olV true s).length c2) (.slice a3 (neV true s).length c3))⟩, .bool t]⟩) ?_
                  first
                  | exact decide_eq_decide.2 ⟨fun h => ⟨by omega, by omega, by omega, fun hw => by first | omega | contradiction, fun _ => h, by omega⟩, fun h => h.2.2.2.2.1 (by omega)⟩
                  | exact decide_eq_decide.2 ⟨fun h => ⟨by omega, by omega, by omega, fun hw => by first | omega | contradiction, fun _ => by omega, by omega⟩, fun h => by have := h.2.2.2.2.2; omega⟩
                  | exact (decide_eq_true (p := okP s ahead w) ⟨by omega, by omega, by omega, fun hw => by first | omega | contradiction, fun _ => by omega, by omega⟩).symm
                  | (refine (decide_eq_false (p := okP s ahead w) fun h => ?_).symm
                     obtain ⟨h1, h2, h3, h4, h5, h6⟩ := h
                     first | omega | (have := h4 ‹w›; omega))
end Go.Proofs
end
