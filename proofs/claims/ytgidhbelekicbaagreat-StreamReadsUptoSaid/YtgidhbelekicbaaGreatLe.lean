/-
  Part of the proof of StreamReadsUptoSaid: lives answers true; StreamReads in every world.
-/
import Derived.Test.YtgidhbelekicbaaGreatLc
import Derived.Test.YtgidhbelekicbaaGreatLd
import Derived.KernelRfl
import Derived.Test.YtgidhbelekicbaaGreatSl
set_option linter.unusedVariables false
section
namespace Go.Proofs
open Go.Eng
noncomputable def smQ := smM [m15a, m15b, m16, m17, m18]
theorem sndQ : ∀ n, Sound Tryz.prog (envS smQ) (ev (envS smQ) n) := sndM (mcons m15a_ok (mcons m15b_ok (mcons m16_ok (mcons m17_ok (mcons m18_ok (fun _ h => by cases h))))))
noncomputable def isT : Option Res → Bool
 | some (.val v _) => veq 1 v (.bool true)
 | _ => false
theorem lives_c : isT (ev (envS smQ) 20000 (.call 5 [] ⟨.lf, 0⟩)) = true := by kernel_rfl
theorem lives_run : ∃ s, ev (envS smQ) 20000 (.call 5 [] ⟨.lf, 0⟩) = some (.val (.bool true) s) := by
 have h := lives_c
 unfold isT at h
 split at h
 ·rename_i v s hr
  have := veq_eq 1 _ _ h
  subst this
  exact ⟨s, hr⟩
 ·cases h
end Go.Proofs
end
section
namespace Go.Proofs
open Go.Eng
def g5 (args : List Value) (s : St) : Option (Value × St) := match args with
 | [] => some (.bool true, s)
 | _ => none
theorem g5_ok {E : Env} (hsm : E.sm 5 ≠ none) {args : List Value} {s s' : St} {v : Value} (h : g5 args s = some (v, s')) : CallOk Tryz.prog E 5 args s v s' := by
 unfold g5 at h
 split at h
 case h_2 => cases h
 injection h with h
 injection h with e1 e2
 subst e1 e2
 obtain ⟨s1, hr⟩ := lives_run
 obtain ⟨he, hc⟩ := (sndQ 20000).call _ _ _ _ _ hr
 refine ⟨he, ?_⟩
 intro μ w args' kind cs hR hF hargs hkind
 have hkn : kind = .normal := by
  rcases hkind with h | ⟨_, h, _⟩
  ·exact h
  ·exact absurd h hsm
 subst hkn
 cases hargs
 obtain ⟨μ2, w2, v2, fr2, p1, p2, p3, p4, p5⟩ := hc (fun _ => none) w [] .normal cs (R.none 0) (fun _ _ _ => rfl) .nil (.inl rfl)
 cases p4
 have hsame : ∀ b, b < w.heap.size → w2.heap[b]? = w.heap[b]? := fun b hb => p3.frame b hb (fun id o g h => by rw [lf_none] at h; cases h)
 refine ⟨μ, w2, _, fr2, p1, ⟨fun id o ho => ?_, hR.inj, hR.nx⟩, ⟨fun _ _ h => h, fun _ _ h => .inl h, Nat.le_refl _, p3.os, p3.tape, p3.output, p3.size, fun b hb _ => hsame b hb, fun id o g h1 h2 => .inr ⟨id, o, g, h1, h2, rfl⟩, fun h => h, fun hi => RoOk.refl hi (fun _ _ h => h) hsame⟩, .bool true, p5⟩
 obtain ⟨g, o', h1, h2, h3⟩ := hR.live id o ho
 exact ⟨g, o', h1, by rw [hsame _ (lt_of_get h2)]; exact h2, h3⟩
noncomputable def smA (f : Nat) : Option (List Value → St → Option (Value × St)) := bif Nat.beq f 14 then some g14 else bif Nat.beq f 5 then some g5 else none
theorem smA_no (k : Nat) (h1 : k ≠ 14) (h2 : k ≠ 5) : smA k = none := by
 unfold smA
 rw [natBeq, natBeq, decide_eq_false h1, decide_eq_false h2]; rfl
theorem sndA : ∀ n, Sound Tryz.prog (envS smA) (ev (envS smA) n) := by
 have hc : ∀ f g, (envS smA).sm f = some g → (f = 14 ∧ g = g14) ∨ (f = 5 ∧ g = g5) := fun f g h => by
  by_cases h1 : f = 14
  ·subst h1
   have h : some g14 = some g := h
   injection h with h; exact .inl ⟨rfl, h.symm⟩
  ·by_cases h2 : f = 5
   ·subst h2
    have h : some g5 = some g := h
    injection h with h; exact .inr ⟨rfl, h.symm⟩
   ·have h : smA f = some g := h
    rw [smA_no f h1 h2] at h; cases h
 refine snd smA (fun f g args s v s' h h1 => ?_) (fun f g args s v s' h h1 => ?_)
 ·rcases hc f g h with ⟨rfl, rfl⟩ | ⟨rfl, rfl⟩
  ·exact g14_nx h1
  ·unfold g5 at h1
   split at h1
   ·injection h1 with h1; injection h1 with e1 e2; subst e2; exact Nat.le_refl _
   ·cases h1
 ·rcases hc f g h with ⟨rfl, rfl⟩ | ⟨rfl, rfl⟩
  ·exact g14_ok snd0 (fun h => nomatch (show some g14 = none from h)) (fun H nx t base u ns hap => spec14 (sm := sm0) rfl H nx t base u ns hap) (fun H nx a c => spec14e (sm := sm0) rfl H nx a c) h1
  ·exact g5_ok (fun h => nomatch (show some g5 = none from h)) h1
theorem spec5s (H : Hp) (nx : Nat) : FnOk (envS smA) 5 [] H nx (fun v H' nx' => v = .bool true ∧ H = H' ∧ nx = nx') (fun _ _ _ => False) :=
 FnOk.sum (F := g5) rfl (fun s hS => ⟨.bool true, s, H, nx, rfl, hS, rfl, rfl, rfl⟩)
theorem spec3  (H : Hp) (nx : Nat) (hH : HB H nx) (a : Option Addr) (l : List UInt8) (c : Nat) (ha : BS H a l) (hl : l.length ≤ 268435456) (hcl0 : l.length ≤ c) (hc0 : c ≤ 1073741824) : FnOk (envS smA) 3 [.slice a l.length c] H nx (fun v H' _ => v = .bool true ∧ HSub H H') (fun _ _ _ => False) := by
 refine FnOk.of (fn := Tryz.f3) rfl rfl rfl rfl ?_
 refine WC.seqR (xs := [om 2 (.v (.bool false))]) (by kernel_rfl) ?_
 refine WS.mv rfl rfl ?_
 refine WS.nil ?_
 refine WC.seqR (xs := [om 3 (.t 0),
   oq 4 (.call (.v (.func (.func 4) #[] #[])) [(.t 3)]),
   om 5 (.t 4),
   ⟨(some (5, true)), (some (6, 6)), .call (.v (.func (.func 5) #[] #[])) []⟩,
   oq 7 (.p (.pick (.t 5) (.t 6) (.v (.bool false)))),
   om 2 (.t 7)]) (by kernel_rfl) ?_
 refine WS.mv rfl rfl ?_
 refine WS.c (One.call rfl rfl (spec4 (sm := smA) smA_no rfl H nx hH a l c ha hl hcl0 hc0) rfl ?_ (fun _ _ _ h => h.elim))
 rintro _ H1 n1 ⟨rfl, hn1, hs1⟩
 refine WS.mv rfl rfl ?_
 refine WS.c (One.gT rfl rfl (One.call rfl rfl (spec5s H1 n1) rfl ?_ (fun _ _ _ h => h.elim)))
 rintro _ _ _ ⟨rfl, rfl, rfl⟩
 refine WS.c (One.pick rfl rfl rfl ?_)
 refine WS.mv rfl rfl ?_
 refine WS.nil ?_
 refine WC.ret ?_
 exact EndOk.now rfl rfl ⟨rfl, hs1⟩
theorem call3 {μ : Mu} {s : St} {W : World} (hR : R μ s W) (hF : ∀ id, s.nx ≤ id → μ id = none) {a : Option Addr} {l : List UInt8} {c : Nat} {v' : Value} (hv : VR μ (.slice a l.length c) v') (ha : BS s.h.get a l) (hl : l.length ≤ 268435456) (hcl0 : l.length ≤ c) (hc0 : c ≤ 1073741824) (cs : List Frame) :
  ∃ μ' w' s' fr, Steps Tryz.prog (lone (Frame.enter Tryz.prog 3 #[v'] .normal) cs W) (lone fr cs w') ∧ Go.Eng.Ends Tryz.prog 3 .normal fr w' (.bool true) ∧ R μ' s' w' ∧ Ext μ s W μ' s' w' := by
 obtain ⟨N, r, h1, h2⟩ := spec3 s.h.get s.nx (fun id o h => hR.nx id o h) a l c ha hl hcl0 hc0 s ⟨rfl, fun _ _ h => h⟩
 cases r with
 | thr v s1 => obtain ⟨_, _, _, h⟩ := h2; exact h.elim
 | code e fr s1 => exact h2.elim
 | pan fr v s1 => exact h2.elim
 | val v s1 =>
  obtain ⟨H1, nx1, h3, rfl, h4⟩ := h2
  obtain ⟨μ', w', v2, fr, p1, p2, p3, p4, p5⟩ := ((sndA N).call _ _ _ _ _ h1).2 μ W [v'] .normal cs hR (fun id h5 _ => hF id h5) (.cons _ _ _ _ hv .nil) (.inl rfl)
  cases p4
  exact ⟨μ', w', s1, fr, p1, p5, p2, p3⟩
def Same (W w' : World) : Prop := w'.os = W.os ∧ w'.output = W.output ∧ W.heap.size ≤ w'.heap.size ∧ ∀ b, b < W.heap.size → w'.heap[b]? = W.heap[b]?
theorem reads_nil {W : World} {v' : Value} (hv : v' = .slice none 0 0 ∨ ∃ a, v' = .slice (some a) 0 0) (cs : List Frame) :
  ∃ w' fr, Steps Tryz.prog (lone (Frame.enter Tryz.prog 3 #[v'] .normal) cs W) (lone fr cs w') ∧ Go.Eng.Ends Tryz.prog 3 .normal fr w' (.bool true) ∧ Same W w' := by
 have key : ∃ a, VR (fun _ => none) (.slice a ([] : List UInt8).length 0) v' ∧ BS (fun _ => none) a [] := by
  rcases hv with rfl | ⟨a, rfl⟩
  ·exact ⟨none, .slN 0 0 (by decide), BS.nil _⟩
  ·exact ⟨some ⟨0, 0, none⟩, .slE _ _ 0 (by decide), BS.empty _ _ _⟩
 obtain ⟨a, h1, h2⟩ := key
 have h2' : BS (St.mk .lf 0).h.get a [] := ⟨h2.sp, fun h => absurd rfl h⟩
 obtain ⟨μ', w', s', fr, p1, p2, p3, p4⟩ := call3 (μ := fun _ => none) (s := ⟨.lf, 0⟩) (W := W) (R.none 0) (fun _ _ => rfl) h1 h2' (by decide) (by decide) (by decide) cs
 exact ⟨w', fr, p1, p2, p4.os, p4.output, p4.size, fun b hb => p4.frame b hb (fun id o g h => by rw [lf_none] at h; cases h)⟩
theorem reads_row {W : World} {blk off cap : Nat} {l : List UInt8} {ec : TypeId} {fz : Nat × Nat} {ws : List Value} (hb : W.heap[blk]? = some (.cells ⟨ws⟩ ec fz)) (hle : off + l.length ≤ ws.length) (hlc : l.length ≤ cap) (hcap : cap ≤ 1048576) (hl : (ws.drop off).take l.length = strCells l)
  (cs : List Frame) : ∃ w' fr, Steps Tryz.prog (lone (Frame.enter Tryz.prog 3 #[.slice (some ⟨blk, off, none⟩) l.length cap] .normal) cs W) (lone fr cs w') ∧ Go.Eng.Ends Tryz.prog 3 .normal fr w' (.bool true) ∧ Same W w' := by
 let g : Img := ⟨blk, off, 1, ws.length⟩
 have hR0 : R (fun _ => none) ⟨.lf, 0⟩ W := R.none 0
 have hob : OB (Mu.add (fun _ => none) 0 g) g (.cells (strCells l) 5 1) (.cells ⟨ws⟩ ec fz) := by
  refine .cells _ 5 1 ws fz rfl rfl (fun h => by cases h) (by show off + _ ≤ _; rw [strCells_len]; exact hle) ?_ (fun h => absurd rfl h) (fun h => absurd rfl h)
  show LR _ _ ((ws.drop off).take (strCells l).length)
  rw [strCells_len, hl]
  exact plainL_rel _ (by rw [strCells_map, List.all_map]; simp [bv, plain1])
 have hR := hR0.see (o := .cells (strCells l) 5 1) (g := g) rfl hb (fun id p gp h => by rw [lf_none] at h; cases h) hob
 have hget : (newO ⟨.lf, 0⟩ (.cells (strCells l) 5 1)).h.get 0 = some (.cells (strCells l) 5 1) := by rw [newO_h]; exact Tr.put_same _ _ _
 have hm : (Mu.add (fun _ => none) (St.mk .lf 0).nx g) 0 = some g := by show (if 0 = 0 then some g else none) = _; rfl
 obtain ⟨μ', w', s', fr, p1, p2, p3, p4⟩ := call3 hR (fun id h => by
   have hn : (newO ⟨.lf, 0⟩ (.cells (strCells l) 5 1)).nx = 1 := newO_nx _ _
   rw [hn] at h
   unfold Mu.add
   rw [if_neg (by show id ≠ 0; omega)]) (a := some ⟨0, 0, none⟩) (l := l) (c := cap) (v' := .slice (some ⟨blk, off, none⟩) l.length cap) (by
   have := VR.sl (μ := Mu.add (fun _ => none) (St.mk .lf 0).nx g) 0 0 l.length cap cap g hm (.inl ⟨by show cap < big; exact Nat.lt_of_le_of_lt hcap (by decide), rfl⟩)
   exact this) (BS.whole hget) (by omega) hlc (by omega) cs
 refine ⟨w', fr, p1, p2, p4.os, p4.output, p4.size, fun b hbs => ?_⟩
 by_cases he : b = blk
 ·subst he
  exact (p4.ro (fun id id' o o' g1 g2 h1 h2 => hR.inj id id' o o' g1 g2 h1 h2) 0 _ _ g hget hm hbs).1
 ·refine p4.frame b hbs (fun id o gi h1 h2 h3 => ?_)
  rw [newO_h] at h1
  rcases Tr.get_put _ _ _ _ _ h1 with ⟨e1, _⟩ | ⟨_, h4⟩
  ·subst e1
   rw [hm] at h2; injection h2 with h2; subst h2
   exact he h3.symm
  ·rw [lf_none] at h4; cases h4
end Go.Proofs
end
