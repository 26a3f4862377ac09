/-
  Part of the proof of StreamReadsUptoSaid: Summaries for the closed run.
-/
import Derived.Test.YtgidhbelekicbaaGreatSk
import Derived.Test.YtgidhbelekicbaaGreatEj
import Derived.Test.YtgidhbelekicbaaGreatEg
import Derived.Test.YtgidhbelekicbaaGreatSa
set_option linter.unusedVariables false
section
namespace Go.Proofs
open Go.Eng
variable {sm : Nat → Option (List Value → St → Option (Value × St))}
theorem spec104n (hsm : sm 104 = none) (H : Hp) (nx : Nat) (hH : HB H nx) (a : Option Addr) (l : List UInt8) (c : Nat) (ha : BS H a l) (hl : l.length ≤ 536870912) : FnOk (envS sm) 104 [.slice a l.length c] H nx (fun v H' nx' => v = .slice (some ⟨nx, 0, none⟩) l.length l.length ∧ H' nx = some (.cells (strCells l) 5 0) ∧ HSub H H' ∧ HB H' nx' ∧ nx + 1 + l.length = nx') (fun _ _ _ => False) := by
 refine FnOk.of (fn := Tryz.f104) hsm rfl rfl rfl ?_
 refine WC.seqR (xs := [om 2 (.v (.slice none 0 0))]) (by kernel_rfl) ?_
 refine WS.mv rfl rfl ?_
 refine WS.nil ?_
 refine WC.seqR (xs := [om 5 (.t 0),
   oq 6 (.p (.len (.t 5))),
   oq 7 (.m (.mk [(.int .u8 0)] 5 (.v (.int .i64 0)) (.t 6))),
   om 3 (.t 7)]) (by kernel_rfl) ?_
 refine WS.mv rfl rfl ?_
 refine WS.c (One.len rfl rfl ?_)
 refine WS.c (One.mkS (la := 0) (lb := l.length) rfl rfl rfl rfl (by omega) (by omega) rfl ?_)
 refine WS.mv rfl rfl ?_
 refine WS.nil ?_
 refine WC.seq ?_
 refine WC.seqR (xs := [om 4 (.v (.int .i64 0))]) (by kernel_rfl) ?_
 refine WS.mv rfl rfl ?_
 refine WS.nil ?_
 refine WC.block ?_
 refine WC.loop (fun m env ds H' nx' => ∃ (i : Nat) (tl : List Value), m = l.length - i ∧ SubE [(0, .slice a l.length c), (3, .slice (some ⟨nx, 0, none⟩) i l.length), (4, .int .i64 (i : Int))] env ∧ ds = [] ∧ i ≤ l.length ∧ tl.length = l.length - i ∧ H' nx = some (.cells (strCells (l.take i) ++ tl) 5 0) ∧ BS H' a l ∧ HSub H H' ∧ HB H' nx' ∧ nx' = nx + 1 + i) (fun m env ds H' nx' hI => ?_) (m := l.length) (⟨0, repL [.int .u8 0] l.length, by omega, (by repeat (first | exact SubE.nil _ | refine SubE.cons rfl ?_)), rfl, by omega, by rw [repL_length]; simp, by rw [upd_eq]; rfl, ha.mono (HSub.new hH (Nat.le_refl _) (HSub.refl H)), HSub.new hH (Nat.le_refl _) (HSub.refl H), hH.new, rfl⟩)
 obtain ⟨i, tl, rfl, hsub, rfl, hi, htl, hc, hB, hS, hb, hn⟩ := hI
 refine WC.weak (env' := [(0, .slice a l.length c), (3, .slice (some ⟨nx, 0, none⟩) i l.length), (4, .int .i64 (i : Int))]) ?_ hsub (fun _ _ h => h)
 refine WC.seq ?_
 refine WC.seqR (xs := [om 8 (.t 4),
   om 9 (.t 0),
   oq 10 (.p (.len (.t 9))),
   oq 11 (.p (.bin .lss .other false (.t 8) (.t 10)))]) (by kernel_rfl) ?_
 refine WS.mv rfl rfl ?_
 refine WS.mv rfl rfl ?_
 refine WS.c (One.len rfl rfl ?_)
 refine WS.c (One.bin rfl rfl bin_lss rfl ?_)
 refine WS.nil ?_
 refine WC.cond rfl (fun hc1 => ?_) (fun hc1 => ?_)
 ·obtain ⟨b1, o1, rfl, hr1⟩ := hB.el (i := i) (by omega)
  obtain ⟨t, tl', rfl, htl'⟩ := list_cons (n := l.length - (i + 1)) (l := tl) (by omega)
  refine WC.skip ?_
  refine WC.seq ?_
  refine WC.block ?_
  refine WC.region (xs := [om 14 (.t 3),
    om 15 (.t 0),
    om 16 (.t 4),
    oq 17 (.p (.iaS 1 (.t 15) (.t 16))),
    oq 18 (.l (.ld none (.t 17))),
    oq 19 (.m (.sl [(.int .u8 0)] 5 1 [(0, 1, (.t 18))])),
    oq 20 (.w (.app 5 [(.int .u8 0)] false (.t 14) (.t 19))),
    om 3 (.t 20)]) (by kernel_rfl) ?_
  refine WS.mv rfl rfl ?_
  refine WS.mv rfl rfl ?_
  refine WS.mv rfl rfl ?_
  refine WS.c (One.iaS rfl rfl rfl (by omega) rfl ?_)
  refine WS.c (One.ld rfl hr1 rfl ?_)
  refine WS.c (One.sl (cs := [bv l[i]]) rfl rfl ?_)
  refine WS.c (One.appI (k := 1) (new := [bv l[i]]) rfl rfl (newE_bytes (l := [l[i]]) (BS.whole upd_eq)) (by simp) (low_le (by omega) (by omega)) (by rw [upd_ne (by omega)]; exact hc) rfl (lay1 (str_take l (by omega)) (by simp)) rfl ?_)
  refine WS.mv rfl rfl ?_
  refine WS.nil ?_
  refine WC.region (xs := [om 12 (.t 4),
    oq 13 (.p (.bin .add .other true (.t 12) (.v (.int .i64 1)))),
    om 4 (.t 13)]) (by kernel_rfl) ?_
  refine WS.mv rfl rfl ?_
  refine WS.c (One.bin rfl rfl (bin_add64 (by omega) (by omega)) rfl ?_)
  refine WS.mv rfl rfl ?_
  refine WS.nil ?_
  have hS2 : HSub H (upd (upd H' nx' (.cells [bv l[i]] 5 0)) nx (.cells (strCells (l.take i) ++ (bv l[i] :: tl')) 5 0)) := HSub.new hH (Nat.le_refl _) (HSub.new hH (by omega) hS)
  refine ⟨_, ?_, i + 1, tl', rfl, (by repeat (first | exact SubE.nil _ | refine SubE.cons rfl ?_)), rfl, by omega, by omega, ?_, ha.mono hS2, hS2, hb.new.upd (by omega), by omega⟩
  ·omega
  ·rw [upd_eq, str_snoc (by omega)]
 ·refine WC.exit ?_
  refine WC.seqR (xs := [om 21 (.t 3),
    om 2 (.t 21)]) (by kernel_rfl) ?_
  refine WS.mv rfl rfl ?_
  refine WS.mv rfl rfl ?_
  refine WS.nil ?_
  refine WC.ret ?_
  have hk : i = l.length := by omega
  subst hk
  have : tl = [] := List.eq_nil_of_length_eq_zero (by omega)
  subst this
  rw [List.take_length, List.append_nil] at hc
  exact EndOk.now rfl rfl ⟨rfl, hc, hS, hb, hn.symm⟩
theorem lay_at2 {Lc : List Value} {l : List UInt8} {p k : Nat} (hl : l.length = 512) (hLc : p + 512 ≤ Lc.length) (hk : k < 512) : layL (Lc.take p ++ (strCells (l.take k) ++ Lc.drop (p + k))) (p + k) [bv l[k]] = some (Lc.take p ++ (strCells (l.take (k + 1)) ++ Lc.drop (p + (k + 1)))) := by
 obtain ⟨t, r, htr⟩ : ∃ t r, Lc.drop (p + k) = t :: r := by
  cases h : Lc.drop (p + k) with
  | nil => have := congrArg List.length h; rw [List.length_drop] at this; simp at this; omega
  | cons t r => exact ⟨t, r, rfl⟩
 have hr : Lc.drop (p + (k + 1)) = r := by
  rw [show p + (k + 1) = (p + k) + 1 by omega, ← List.drop_drop, htr]; rfl
 rw [htr, hr, take_snoc (by omega), strCells_append, ← List.append_assoc, lay1 (A := Lc.take p ++ strCells (l.take k)) (by rw [List.length_append, List.length_take, strCells_len, List.length_take]; omega) rfl]
 show some ((Lc.take p ++ strCells (l.take k)) ++ (bv l[k] :: r)) = _
 rw [List.append_assoc, List.append_assoc]
 rfl
theorem spec260 (hsm : sm 260 = none) (H : Hp) (nx d o L lo i b bo ln lc n c : Nat) (Lc : List Value) (e1 : TypeId) (f1 : Nat) (x : TypeId) (el : Nat) (A : List Value) (hA : H d = some (.cells A x el)) (hAo : A[o]? = some (.slice (some ⟨L, lo, none⟩) ln lc)) (hL : H L = some (.cells Lc e1 f1)) (l : List UInt8) (hl : l.length = 512) (hB : BS H (some ⟨b, bo, none⟩) l) (hbL : b ≠ L) (hdL : d ≠ L) (hi : i ≤ 1048576) (hln : i * 512 + 512 ≤ ln) (hLc : lo + i * 512 + 512 ≤ Lc.length) (hn : 512 ≤ n) (hf1 : f1 ≠ 1) : FnOk (envS sm) 260 [.pointer (some ⟨d, o, none⟩), .int .i64 (i : Int), .slice (some ⟨b, bo, none⟩) n c] H nx (fun v H' nx' => v = .tuple #[] ∧ H' L = some (.cells (Lc.take (lo + i * 512) ++ (strCells l ++ Lc.drop (lo + i * 512 + 512))) e1 f1) ∧ HSub (del H L) H' ∧ nx = nx') (fun _ _ _ => False) := by
 refine FnOk.of (fn := Tryz.f260) hsm rfl rfl rfl ?_
 refine WC.seqR (xs := [om 6 (.v (.int .i64 0))]) (by kernel_rfl) ?_
 refine WS.mv rfl rfl ?_
 refine WS.nil ?_
 refine WC.block ?_
 refine WC.loop (fun m env ds H' nx' => ∃ (k : Nat), m = 512 - k ∧ SubE [(0, .pointer (some ⟨d, o, none⟩)), (1, .int .i64 (i : Int)), (2, .slice (some ⟨b, bo, none⟩) n c), (6, .int .i64 (k : Int))] env ∧ ds = [] ∧ k ≤ 512 ∧ H' L = some (.cells (Lc.take (lo + i * 512) ++ (strCells (l.take k) ++ Lc.drop (lo + i * 512 + k))) e1 f1) ∧ HSub (del H L) H' ∧ nx = nx') (fun m env ds H' nx' hI => ?_) (m := 512) (⟨0, rfl, (by repeat (first | exact SubE.nil _ | refine SubE.cons rfl ?_)), rfl, Nat.zero_le _, by rw [hL]; simp [strCells], HSub.delL _ _, rfl⟩)
 obtain ⟨k, rfl, hsub, rfl, hk5, hL2, hS, rfl⟩ := hI
 refine WC.weak (env' := [(0, .pointer (some ⟨d, o, none⟩)), (1, .int .i64 (i : Int)), (2, .slice (some ⟨b, bo, none⟩) n c), (6, .int .i64 (k : Int))]) ?_ hsub (fun _ _ h => h)
 have hA2 : H' d = some (.cells A x el) := hS _ _ (by rw [del_ne hdL]; exact hA)
 have hB2 : BS H' (some ⟨b, bo, none⟩) l := (hB.dn (b := L) (fun b' o' h => by injection h with h; injection h with h; omega)).mono hS
 refine WC.seq ?_
 refine WC.seqR (xs := [om 7 (.t 6),
   oq 8 (.p (.bin .lss .other true (.t 7) (.v (.int .i64 512))))]) (by kernel_rfl) ?_
 refine WS.mv rfl rfl ?_
 refine WS.c (One.bin rfl rfl bin_lss rfl ?_)
 refine WS.nil ?_
 refine WC.cond rfl (fun hc1 => ?_) (fun hc1 => ?_)
 ·refine WC.skip ?_
  refine WC.seq ?_
  refine WC.block ?_
  refine WC.regionT (l := [om 11 (.t 0),
    oq 12 (.p (.nilc (.t 11))),
    oq 13 (.p (.fad (.t 12) 0)),
    oq 14 (.l (.ld none (.t 13))),
    om 15 (.t 1),
    oq 16 (.p (.bin .mul .other true (.t 15) (.v (.int .i64 512)))),
    om 17 (.t 6),
    oq 18 (.p (.bin .add .other false (.t 16) (.t 17))),
    om 19 (.t 2),
    om 20 (.t 6),
    oq 21 (.p (.iaS 1 (.t 19) (.t 20))),
    oq 22 (.l (.ld none (.t 21))),
    oq 23 (.p (.iaS 1 (.t 14) (.t 18))),
    ⟨none, none, .w (.sto 1 (.t 23) (.t 22))⟩]) (ws := [(0, 0), (0, 0), (0, 0), (0, 0), (0, 0), (0, 0), (0, 0), (0, 0), (0, 0), (0, 0), (0, 0), (0, 0), (0, 0), (0, 1)]) (xs := [(om 11 (.t 0), [0]),
    (oq 12 (.p (.nilc (.t 11))), [11]),
    (oq 13 (.p (.fad (.t 12) 0)), [12]),
    (oq 14 (.l (.ld none (.t 13))), [13]),
    (om 15 (.t 1), [1]),
    (oq 16 (.p (.bin .mul .other true (.t 15) (.v (.int .i64 512)))), [15]),
    (om 17 (.t 6), [6]),
    (oq 18 (.p (.bin .add .other false (.t 16) (.t 17))), [16, 17]),
    (om 19 (.t 2), [2]),
    (om 20 (.t 6), [6]),
    (oq 21 (.p (.iaS 1 (.t 19) (.t 20))), [19, 20]),
    (oq 22 (.l (.ld none (.t 21))), [21]),
    (oq 23 (.p (.iaS 1 (.t 14) (.t 18))), [14, 18]),
    (⟨none, none, .w (.sto 1 (.t 23) (.t 22))⟩, [23, 22])]) (by kernel_rfl) (by kernel_rfl) ?_
  refine WD.q rfl (One.mv rfl rfl ⟨rfl, ?_⟩)
  refine WD.q rfl (One.nilc rfl rfl ⟨rfl, ?_⟩)
  refine WD.q rfl (One.fad rfl rfl ⟨rfl, ?_⟩)
  refine WD.r (One.ld rfl (ld_of (o := o + 0) hA2 hAo) rfl ⟨_, rfl, ?_⟩)
  refine WD.q rfl (One.mv rfl rfl ⟨rfl, ?_⟩)
  refine WD.q rfl (One.bin rfl rfl (bin_mul64 (by omega) (by omega)) rfl ⟨rfl, ?_⟩)
  refine WD.q rfl (One.mv rfl rfl ⟨rfl, ?_⟩)
  refine WD.q rfl (One.bin rfl rfl (bin_add64 (by omega) (by omega)) rfl ⟨rfl, ?_⟩)
  refine WD.q rfl (One.mv rfl rfl ⟨rfl, ?_⟩)
  refine WD.q rfl (One.mv rfl rfl ⟨rfl, ?_⟩)
  obtain ⟨b1, o1, hbe, hr1⟩ := hB2.el (i := k) (by omega)
  injection hbe with hbe
  injection hbe with hb1 ho1
  subst hb1 ho1
  refine WD.q rfl (One.iaS rfl rfl rfl (by omega) rfl ⟨rfl, ?_⟩)
  refine WD.r (One.ld rfl hr1 rfl ⟨_, rfl, ?_⟩)
  refine WD.q rfl (One.iaS (j := i * 512 + k) rfl rfl (by omega) (by omega) rfl ⟨rfl, ?_⟩)
  refine WD.l rfl (One.sto rfl rfl hL2 rfl rfl (by rw [show lo + (i * 512 + k) * 1 = lo + i * 512 + k by omega]; exact lay_at2 hl hLc (by omega)) rfl ⟨rfl, ?_⟩ hf1)
  refine WD.nil (⟨⟨veq_int _ _ _, hr1, trivial⟩, ⟨veq_sl _ _ _ _ _, ld_of (o := o + 0) hA2 hAo, trivial⟩, trivial⟩) ?_
  refine WC.region (xs := [om 9 (.t 6),
    oq 10 (.p (.bin .add .other true (.t 9) (.v (.int .i64 1)))),
    om 6 (.t 10)]) (by kernel_rfl) ?_
  refine WS.mv rfl rfl ?_
  refine WS.c (One.bin rfl rfl (bin_add64 (by omega) (by omega)) rfl ?_)
  refine WS.mv rfl rfl ?_
  refine WS.nil ?_
  refine ⟨_, ?_, k + 1, rfl, (by repeat (first | exact SubE.nil _ | refine SubE.cons rfl ?_)), rfl, by omega, upd_eq, hS.delU, rfl⟩
  omega
 ·refine WC.exit ?_
  have hk : k = 512 := by omega
  subst hk
  rw [← hl, List.take_length] at hL2
  rw [hl] at hL2
  simp only [show Nat.beq 0 0 = true from rfl, cond_true]
  exact EndOk.now (l := []) rfl rfl ⟨rfl, hL2, hS, rfl⟩
end Go.Proofs
end
section
namespace Go.Proofs
open Go.Eng
theorem snd (sm : Nat → Option (List Value → St → Option (Value × St))) (hM : MonoE (envS sm)) (hS : SumOk Tryz.prog (envS sm)) : ∀ n, Sound Tryz.prog (envS sm) (ev (envS sm) n) :=
 ev_sound (envS_ok sm) hM hS (draw_ok (envS_ok sm)) (draw_pan (envS_ok sm))
def sm0 : Nat → Option (List Value → St → Option (Value × St)) := fun _ => none
theorem snd0 : ∀ n, Sound Tryz.prog (envS sm0) (ev (envS sm0) n) := snd sm0 (fun f g args s v s' h => by cases h) (fun f g args s v s' h => by cases h)
theorem call_of_fn {E : Env} {f : FuncId} {fn : Func} {c : Code} (hft : ftT.get f = some fn) (hb : fn.body = some c) (hsm : E.sm f ≠ none) {args : List Value} {s s' : St} {v : Value}
  (h : HB s.h.get s.nx → FnOk (envS sm0) f args s.h.get s.nx (fun v1 H1 nx1 => v1 = v ∧ HSub s'.h.get H1 ∧ nx1 ≤ s'.nx) (fun _ _ _ => False)) : CallOk Tryz.prog E f args s v s' := by
 refine ⟨enters_of (envS_ok sm0) hft hb, ?_⟩
 intro μ w args' kind cs hR hF hargs hkind
 have hkn : kind = .normal := by
  rcases hkind with h | ⟨_, h, _⟩
  ·exact h
  ·exact absurd h hsm
 subst hkn
 obtain ⟨N, r, h1, h2⟩ := h (fun id o ho => hR.nx id o ho) s ⟨rfl, fun _ _ h => h⟩
 cases r with
 | thr v s1 => obtain ⟨_, _, _, h⟩ := h2; exact h.elim
 | code e fr s1 => exact h2.elim
 | pan fr v s1 => exact h2.elim
 | val v1 s1 =>
  obtain ⟨H1, nx1, hS, rfl, hsub, hle⟩ := h2
  have hsub : HSub s'.h.get s1.h.get := fun id o ho => hS.h _ _ (hsub id o ho)
  have hle : s1.nx ≤ s'.nx := by rw [hS.nx]; exact hle
  obtain ⟨μ2, w2, v2, fr2, p1, p2, p3, p4, p5⟩ := ((snd0 N).call _ _ _ _ _ h1).2 μ w args' .normal cs hR (fun id h3 h4 => hF id h3 (by omega)) hargs (.inl rfl)
  exact ⟨μ2, w2, v2, fr2, p1, R_sub p2 hsub hle, Ext_sub p3 hsub hle, p4, p5⟩
def mapB : List (Value × Value) → List (Value × Value) → Bool
 | [], [] => true
 | (a, b) :: r, (c, d) :: q => veq 4 a c && veq 4 b d && mapB r q
 | _, _ => false
theorem mapB_eq : ∀ {a b : List (Value × Value)}, mapB a b = true → a = b
 | [], [], _ => rfl
 | (a, b) :: r, (c, d) :: q, h => by
  simp only [mapB, Bool.and_eq_true] at h
  rw [veq_eq 4 _ _ h.1.1, veq_eq 4 _ _ h.1.2, mapB_eq h.2]
 | [], _ :: _, h => by cases h
 | _ :: _, [], h => by cases h
noncomputable def aoB : AO → AO → Bool
 | .cells a e n, .cells b f m => Nat.beq e f && Nat.beq n m && veq.go 4 a b
 | .map a, .map b => mapB a b
 | _, _ => false
theorem aoB_eq {a b : AO} (h : aoB a b = true) : a = b := by
 unfold aoB at h
 split at h
 ·simp only [Bool.and_eq_true] at h
  rw [Nat.eq_of_beq_eq_true h.1.1, Nat.eq_of_beq_eq_true h.1.2, veq_go 4 (veq_eq 4) _ _ h.2]
 ·rw [mapB_eq h]
 ·cases h
noncomputable def subB (t : Tr AO) : List (Nat × AO) → Bool
 | [] => true
 | (i, o) :: r => (match t.get i with
  | some p => aoB o p
  | none => false) && subB t r
theorem subB_ok {t : Tr AO} : ∀ {l : List (Nat × AO)}, subB t l = true → ∀ i o, (i, o) ∈ l → t.get i = some o
 | [], _, _, _, hm => by cases hm
 | (i, o) :: r, h, j, p, hm => by
  simp only [subB, Bool.and_eq_true] at h
  rcases List.mem_cons.1 hm with he | hm
  ·injection he with h1 h2
   subst h1 h2
   have h1 := h.1
   split at h1
   ·rename_i q hq; rw [hq, aoB_eq h1]
   ·cases h1
  ·exact subB_ok h.2 j p hm
noncomputable def puts : List (Nat × AO) → Tr AO → Tr AO
 | [], t => t
 | (i, o) :: r, t => match Tr.put (some o) i t with
  | .lf => puts r .lf
  | .nd a b c => puts r (.nd a b c)
theorem puts_get : ∀ {l : List (Nat × AO)} {t : Tr AO} {i : Nat} {o : AO}, (puts l t).get i = some o → (i, o) ∈ l ∨ (t.get i = some o ∧ ∀ p, (i, p) ∉ l)
 | [], _, _, _, h => .inr ⟨h, fun p hp => by cases hp⟩
 | (j, p) :: r, t, i, o, h => by
  have h' : (puts r (Tr.put (some p) j t)).get i = some o := by
   unfold puts at h
   split at h
   ·rename_i he; rw [he]; exact h
   ·rename_i he; rw [he]; exact h
  rcases puts_get h' with h1 | ⟨h1, h2⟩
  ·exact .inl (List.mem_cons_of_mem _ h1)
  ·rcases Tr.get_put _ _ _ _ _ h1 with ⟨e, h3⟩ | ⟨e, h3⟩
   ·injection h3 with h3
    subst e h3
    exact .inl (List.mem_cons_self ..)
   ·refine .inr ⟨h3, fun q hq => ?_⟩
    rcases List.mem_cons.1 hq with he | hq
    ·injection he with he; exact e he
    ·exact h2 q hq
structure Memo where
 f : FuncId
 args : List Value
 pre : List (Nat × AO)
 nx : Nat
 v : Value
 post : List (Nat × AO)
 ny : Nat
noncomputable def chkR (m : Memo) : Option Res → Bool
 | some (.val v s) => veq 4 v m.v && Nat.ble s.nx m.ny && subB s.h m.post
 | _ => false
noncomputable def keys : List (Nat × AO) → List (Nat × AO) → Bool
 | [], _ => true
 | (i, _) :: r, l => l.any (fun p => Nat.beq p.1 i) && keys r l
theorem keys_ok : ∀ {a b : List (Nat × AO)}, keys a b = true → ∀ i o, (i, o) ∈ a → ∃ p, (i, p) ∈ b
 | [], _, _, _, _, hm => by cases hm
 | (j, q) :: r, b, h, i, o, hm => by
  simp only [keys, Bool.and_eq_true, List.any_eq_true] at h
  rcases List.mem_cons.1 hm with he | hm
  ·injection he with he _
   obtain ⟨⟨k, p⟩, h1, h2⟩ := h.1
   have h2 := Nat.eq_of_beq_eq_true h2
   exact ⟨p, by rw [he, ← h2]; exact h1⟩
  ·exact keys_ok h.2 i o hm
noncomputable def memoF (m : Memo) (args : List Value) (s : St) : Option (Value × St) := match s with
 | ⟨h, nx⟩ => bif Nat.beq nx m.nx && veq.go 4 args m.args && subB h m.pre then some (m.v, ⟨puts m.post h, m.ny⟩) else none
theorem memo_ok {P : Program} {E1 E : Env} {m : Memo} {N : Nat} (hs : Sound P E1 (ev E1 N)) (hsm : E.sm m.f ≠ none) (hk : keys m.pre m.post = true)
  (h : chkR m (ev E1 N (.call m.f m.args ⟨puts m.pre .lf, m.nx⟩)) = true) {args : List Value} {s : St} {v : Value} {s' : St} (hm : memoF m args s = some (v, s')) : CallOk P E m.f args s v s' := by
 obtain ⟨hh, nx⟩ := s
 simp only [memoF] at hm
 cases hc : (Nat.beq nx m.nx && veq.go 4 args m.args && subB hh m.pre) with
 | false => rw [hc] at hm; cases hm
 | true =>
  rw [hc, cond_true] at hm
  injection hm with hm
  injection hm with h1 h2
  subst h1 h2
  simp only [Bool.and_eq_true] at hc
  obtain ⟨⟨h1, h2⟩, h3⟩ := hc
  have h1 := Nat.eq_of_beq_eq_true h1
  have h2 := veq_go 4 (veq_eq 4) _ _ h2
  subst h1 h2
  unfold chkR at h
  split at h
  ·rename_i v1 s1 hr
   simp only [Bool.and_eq_true] at h
   obtain ⟨⟨h4, h5⟩, h6⟩ := h
   have h4 := veq_eq 4 _ _ h4
   subst h4
   refine call_frame hsm (hs.call _ _ _ _ _ hr) (fun id o ho => ?_) rfl (Nat.le_of_ble_eq_true h5) (fun id o ho => ?_)
   ·rcases puts_get ho with h7 | ⟨h7, _⟩
    ·exact subB_ok h3 _ _ h7
    ·rw [lf_none] at h7; cases h7
   ·rcases puts_get ho with h7 | ⟨h7, h8⟩
    ·exact .inl (subB_ok h6 _ _ h7)
    ·refine .inr ⟨h7, ?_⟩
     cases h9 : (puts m.pre .lf).get id with
     | none => rfl
     | some p =>
      rcases puts_get h9 with h10 | ⟨h10, _⟩
      ·obtain ⟨q, hq⟩ := keys_ok hk _ _ h10
       exact absurd hq (h8 q)
      ·rw [lf_none] at h10; cases h10
  ·cases h
theorem memo_nx {m : Memo} (hn : m.nx ≤ m.ny) {args : List Value} {s : St} {v : Value} {s' : St} (hm : memoF m args s = some (v, s')) : s.nx ≤ s'.nx := by
 obtain ⟨hh, nx⟩ := s
 simp only [memoF] at hm
 cases hc : (Nat.beq nx m.nx && veq.go 4 args m.args && subB hh m.pre) with
 | false => rw [hc] at hm; cases hm
 | true =>
  rw [hc, cond_true] at hm
  injection hm with hm
  injection hm with h1 h2
  subst h2
  simp only [Bool.and_eq_true] at hc
  have := Nat.eq_of_beq_eq_true hc.1.1
  show nx ≤ m.ny
  omega
end Go.Proofs
end
section
namespace Go.Proofs
open Go.Eng
noncomputable def forceN {α : Type} (n : Nat) (k : Nat → α) : α := Nat.rec (motive := fun _ => α) (k 0) (fun m _ => k (Nat.succ m)) n
theorem forceN_eq {α : Type} (n : Nat) (k : Nat → α) : forceN n k = k n := by cases n <;> rfl
def tabP : Nat := 12749536319551302420830055290731983042906869231766370170184255228463894984119587222357463453493748006886229547019502462691509165827871124329361635492757504
def nibK (n : Nat) : Nat := Nat.xor (Nat.div n 16) (Nat.mod (Nat.div tabP (Nat.pow 4294967296 (Nat.mod n 16))) 4294967296)
theorem tabP_ok : ∀ r, r < 16 → (tabP / 4294967296 ^ r) % 4294967296 = eightN 4 r := by decide +kernel
theorem nibK_eq (n : Nat) : nibK n = eightN 4 n := by
 rw [← nib_ok n, ← tabP_ok (n % 16) (Nat.mod_lt _ (by decide))]; rfl
noncomputable def onS (v : Value) (ih : Nat → Option Nat) (w : Nat) : Option Nat := match v with
 | .int .u8 (.ofNat m) => bif Nat.ble m 255 then forceN (nibK (Nat.xor w m)) (fun x => forceN (nibK x) ih) else none
 | _ => none
noncomputable def onV (l : List Value) : Nat → Option Nat :=
 List.rec (motive := fun _ => Nat → Option Nat) (fun w => some w) (fun v _ ih w => onS v ih w) l
theorem cell_u8 {m : Nat} (h : m ≤ 255) : Value.int .u8 (.ofNat m) = bv (UInt8.ofNat m) := by
 unfold bv
 congr 1
 rw [UInt8.toNat_ofNat', Nat.mod_eq_of_lt (by omega)]
 rfl
theorem onV_ok : ∀ {cs : List Value} {w u : Nat}, onV cs w = some u → ∃ l : List UInt8, cs = strCells l ∧ u = onR l w
 | [], w, u, h => by
  have h : some w = some u := h
  injection h with h
  exact ⟨[], rfl, h.symm⟩
 | v :: r, w, u, h => by
  have h : onS v (onV r) w = some u := h
  unfold onS at h
  split at h
  ·rename_i m _
   cases hb : Nat.ble m 255 with
   | false => rw [hb] at h; cases h
   | true =>
    rw [hb, cond_true, forceN_eq, forceN_eq] at h
    have hm := Nat.le_of_ble_eq_true hb
    obtain ⟨l, h1, h2⟩ := onV_ok h
    refine ⟨UInt8.ofNat m :: l, ?_, ?_⟩
    ·rw [cell_u8 hm, h1]; simp only [strCells_map, List.map_cons]
    ·rw [h2]
     show onR l (nibK (nibK (w ^^^ m))) = onR l (eightN 8 (w ^^^ (UInt8.ofNat m).toNat))
     rw [nibK_eq, nibK_eq, eight_two, UInt8.toNat_ofNat', Nat.mod_eq_of_lt (show m < 2 ^ 8 by omega)]
  ·cases h
def isU8 (v : Value) (ih : Bool) : Bool := match v with
 | .int .u8 (.ofNat m) => bif Nat.ble m 255 then ih else false
 | _ => false
noncomputable def allU8 (l : List Value) : Bool := List.rec (motive := fun _ => Bool) true (fun v _ ih => isU8 v ih) l
theorem allU8_ok : ∀ {cs : List Value}, allU8 cs = true → ∃ l : List UInt8, cs = strCells l
 | [], _ => ⟨[], rfl⟩
 | v :: r, h => by
  have h : isU8 v (allU8 r) = true := h
  unfold isU8 at h
  split at h
  ·rename_i m _
   cases hb : Nat.ble m 255 with
   | false => rw [hb] at h; cases h
   | true =>
    rw [hb, cond_true] at h
    obtain ⟨l, h1⟩ := allU8_ok h
    exact ⟨UInt8.ofNat m :: l, by rw [cell_u8 (Nat.le_of_ble_eq_true hb), h1]; simp only [strCells_map, List.map_cons]⟩
  ·cases h
noncomputable def rowS (s : St) (a : Option Addr) (n : Nat) : Option (List Value) := match a with
 | none => bif Nat.beq n 0 then some [] else none
 | some a => match a.spot with
  | none => readRow s a n
  | some _ => none
theorem rowS_ok {s : St} {a : Option Addr} {n : Nat} {l : List UInt8} (h : rowS s a n = some (strCells l)) : l.length = n ∧ BS s.h.get a l := by
 unfold rowS at h
 split at h
 ·cases hb : Nat.beq n 0 with
  | false => rw [hb] at h; cases h
  | true =>
   rw [hb, cond_true] at h
   injection h with h
   have hl : l = [] := by cases l with
    | nil => rfl
    | cons b r => cases h
   subst hl
   exact ⟨(Nat.eq_of_beq_eq_true hb).symm, BS.nil _⟩
 ·rename_i a'
  split at h
  ·rename_i hsp
   obtain ⟨b, o, sp⟩ := a'
   have hsp : sp = none := hsp
   subst hsp
   unfold readRow at h
   split at h
   ·rename_i cs e el hb
    simp only [rowAt_eq] at h
    split at h
    ·rename_i hle
     injection h with h
     have hlen := congrArg List.length h
     rw [strCells_len, List.length_take, List.length_drop] at hlen
     have hn : l.length = n := by omega
     refine ⟨hn, BS.of hb (by omega) (by rw [hn]; exact h)⟩
    ·cases h
   ·cases h
  ·cases h
def abB (a : Option Addr) (n : Nat) : Bool := match a with
 | none => true
 | some a => Nat.ble (Nat.succ a.block) n
theorem abB_ok {a : Option Addr} {n : Nat} (h : abB a n = true) : AB a n := fun a' ha => by
 subst ha; exact Nat.le_of_ble_eq_true h
noncomputable def g103 (args : List Value) (s : St) : Option (Value × St) := match args with
 | [.int .u32 (.ofNat w), .slice a n c] => bif Nat.ble w 4294967295 && Nat.ble n 1073741824 then (match rowS s a n with
  | some cs => match onV cs w with
   | some u => some (.int .u32 (.ofNat u), s)
   | none => none
  | none => none) else none
 | _ => none
noncomputable def g95 (args : List Value) (s : St) : Option (Value × St) := match args with
 | [.int .u32 (.ofNat w), .slice a n c] => match s with
  | ⟨h, nx⟩ => bif Nat.ble w 4294967295 && Nat.ble n 1073741824 && abB a nx then (match rowS ⟨h, nx⟩ a n with
   | some cs => match onV cs w with
    | some u => some (.int .u32 (.ofNat u), ⟨h, nextN (nextN nx)⟩)
    | none => none
   | none => none) else none
 | _ => none
noncomputable def g104 (args : List Value) (s : St) : Option (Value × St) := match args with
 | [.slice a n c] => match s with
  | ⟨h, nx⟩ => bif Nat.ble n 536870912 then (match rowS ⟨h, nx⟩ a n with
   | some cs => bif allU8 cs then (match Tr.put (some (.cells cs 5 0)) nx h with
    | .lf => none
    | .nd x y z => forceN (Nat.add (Nat.succ nx) n) (fun ny => some (.slice (some ⟨nx, 0, none⟩) n n, ⟨.nd x y z, ny⟩))) else none
   | none => none) else none
 | _ => none
noncomputable def g260 (args : List Value) (s : St) : Option (Value × St) := match args with
 | [.pointer (some ⟨d, o, none⟩), .int .i64 (.ofNat i), .slice (some ⟨b, bo, none⟩) n _] => match s.h.get d with
  | some (.cells A _ _) => match nth A o with
   | some (.slice (some ⟨L, lo, none⟩) ln _) => bif Nat.ble i 1048576 && Nat.ble (Nat.add (Nat.mul i 512) 512) ln && Nat.ble 512 n && not (Nat.beq b L) && not (Nat.beq d L) then (match rowS s (some ⟨b, bo, none⟩) 512 with
     | some cs => bif allU8 cs then (match writeRow s ⟨L, Nat.add lo (Nat.mul i 512), none⟩ cs with
      | some s' => some (.tuple #[], s')
      | none => none) else none
     | none => none) else none
   | _ => none
  | _ => none
 | _ => none
variable {E : Env}
theorem g103_ok (hsm : E.sm 103 ≠ none) {args : List Value} {s s' : St} {v : Value} (h : g103 args s = some (v, s')) : CallOk Tryz.prog E 103 args s v s' := by
 unfold g103 at h
 split at h
 ·rename_i w a n c
  cases hb : (Nat.ble w 4294967295 && Nat.ble n 1073741824) with
  | false => rw [hb] at h; cases h
  | true =>
   rw [hb, cond_true] at h
   simp only [Bool.and_eq_true] at hb
   have hw := Nat.le_of_ble_eq_true hb.1
   have hn := Nat.le_of_ble_eq_true hb.2
   split at h
   ·rename_i cs hcs
    split at h
    ·rename_i u hu
     injection h with h
     injection h with h1 h2
     subst h1 h2
     obtain ⟨l, rfl, rfl⟩ := onV_ok hu
     obtain ⟨rfl, hB⟩ := rowS_ok hcs
     refine call_of_fn (fn := Tryz.f103) rfl rfl hsm (fun hH => ?_)
     exact (spec103 (sm := sm0) rfl rfl rfl s.h.get s.nx w (by omega) a l c hB (by omega)).mono (fun v H nx hq => ⟨hq.1, by rw [hq.2.1]; exact HSub.refl _, by rw [hq.2.2]; exact Nat.le_refl _⟩) (fun _ _ _ h => h)
    ·cases h
   ·cases h
 ·cases h
theorem g95_ok (hsm : E.sm 95 ≠ none) {args : List Value} {s s' : St} {v : Value} (h : g95 args s = some (v, s')) : CallOk Tryz.prog E 95 args s v s' := by
 unfold g95 at h
 split at h
 ·rename_i w a n c
  obtain ⟨hh, nx⟩ := s
  simp only at h
  cases hb : (Nat.ble w 4294967295 && Nat.ble n 1073741824 && abB a nx) with
  | false => rw [hb] at h; cases h
  | true =>
   rw [hb, cond_true] at h
   simp only [Bool.and_eq_true] at hb
   have hw := Nat.le_of_ble_eq_true hb.1.1
   have hn := Nat.le_of_ble_eq_true hb.1.2
   split at h
   ·rename_i cs hcs
    split at h
    ·rename_i u hu
     injection h with h
     injection h with h1 h2
     subst h1 h2
     obtain ⟨l, rfl, rfl⟩ := onV_ok hu
     obtain ⟨rfl, hB⟩ := rowS_ok hcs
     refine call_of_fn (fn := Tryz.f95) rfl rfl hsm (fun hH => ?_)
     exact (spec95 (sm := sm0) rfl rfl hh.get nx w hH (by omega) a l c hB (by omega) (abB_ok hb.2)).mono (fun v H nx' hq => ⟨hq.1, by rw [← hq.2.1]; exact HSub.refl _, by rw [hq.2.2]; show nx + 2 ≤ nextN (nextN nx); rw [nextN_eq, nextN_eq]; omega⟩) (fun _ _ _ h => h)
    ·cases h
   ·cases h
 ·cases h
theorem g104_ok (hsm : E.sm 104 ≠ none) {args : List Value} {s s' : St} {v : Value} (h : g104 args s = some (v, s')) : CallOk Tryz.prog E 104 args s v s' := by
 unfold g104 at h
 split at h
 ·rename_i a n c
  obtain ⟨hh, nx⟩ := s
  simp only at h
  cases hb : Nat.ble n 536870912 with
  | false => rw [hb] at h; cases h
  | true =>
   rw [hb, cond_true] at h
   have hn := Nat.le_of_ble_eq_true hb
   split at h
   ·rename_i cs hcs
    cases hu : allU8 cs with
    | false => rw [hu] at h; cases h
    | true =>
     rw [hu, cond_true] at h
     obtain ⟨l, rfl⟩ := allU8_ok hu
     obtain ⟨rfl, hB⟩ := rowS_ok hcs
     split at h
     ·cases h
     ·rename_i x y z hp
      rw [forceN_eq] at h
      injection h with h
      injection h with h1 h2
      subst h1 h2
      refine call_of_fn (fn := Tryz.f104) rfl rfl hsm (fun hH => ?_)
      refine (spec104n (sm := sm0) rfl hh.get nx hH a l c hB hn).mono (fun v H nx' hq => ⟨hq.1, fun id o ho => ?_, by rw [← hq.2.2.2.2]; show nx + 1 + l.length ≤ Nat.add (Nat.succ nx) l.length; exact Nat.le_of_eq rfl⟩) (fun _ _ _ h => h)
      have ho : (Tr.nd x y z).get id = some o := ho
      rw [← hp] at ho
      rcases Tr.get_put _ _ _ _ _ ho with ⟨e, h3⟩ | ⟨e, h3⟩
      ·injection h3 with h3; subst e h3; exact hq.2.1
      ·exact hq.2.2.1 _ _ h3
   ·cases h
 ·cases h
theorem g260_ok (hsm : E.sm 260 ≠ none) {args : List Value} {s s' : St} {v : Value} (h : g260 args s = some (v, s')) : CallOk Tryz.prog E 260 args s v s' := by
 unfold g260 at h
 split at h
 ·rename_i d o i b bo n c
  split at h
  ·rename_i A x el hA
   rw [nth_eq] at h
   split at h
   ·rename_i L lo ln lc hAo
    cases hb : (Nat.ble i 1048576 && Nat.ble (Nat.add (Nat.mul i 512) 512) ln && Nat.ble 512 n && not (Nat.beq b L) && not (Nat.beq d L)) with
    | false => rw [hb] at h; cases h
    | true =>
     rw [hb, cond_true] at h
     simp only [Bool.and_eq_true, Bool.not_eq_true'] at hb
     obtain ⟨⟨⟨⟨h1, h2⟩, h3⟩, h4⟩, h5⟩ := hb
     have h1 := Nat.le_of_ble_eq_true h1
     have h2 : i * 512 + 512 ≤ ln := Nat.le_of_ble_eq_true h2
     have h3 := Nat.le_of_ble_eq_true h3
     have h4 : b ≠ L := fun he => by rw [he, Nat.beq_refl] at h4; cases h4
     have h5 : d ≠ L := fun he => by rw [he, Nat.beq_refl] at h5; cases h5
     split at h
     ·rename_i cs hcs
      cases hu : allU8 cs with
      | false => rw [hu] at h; cases h
      | true =>
       rw [hu, cond_true] at h
       obtain ⟨l, rfl⟩ := allU8_ok hu
       obtain ⟨hl, hB⟩ := rowS_ok hcs
       split at h
       ·rename_i s1 hw
        injection h with h
        injection h with e1 e2
        subst e1 e2
        unfold writeRow at hw
        split at hw
        case h_2 => cases hw
        rename_i Lc e el1 hL
        simp only at hL
        have hel1 : el1 ≠ 1 := fun he => by
         subst he
         cases hsp : (⟨L, lo.add (i.mul 512), none⟩ : Addr).spot <;> cases hw
        rw [strCells_one, cond_true, layL_eq, nbeq1 hel1, cond_false] at hw
        have hadd : Nat.add lo (Nat.mul i 512) = lo + i * 512 := rfl
        rw [hadd] at hw
        simp only at hw
        split at hw
        ·cases hw
        ·rename_i r hr
         injection hw with hw
         subst hw
         split at hr
         case isFalse => cases hr
         rename_i hle
         injection hr with hr
         rw [strCells_len, hl] at hle hr
         refine call_of_fn (fn := Tryz.f260) rfl rfl hsm (fun hH => ?_)
         refine (spec260 (sm := sm0) rfl s.h.get s.nx d o L lo i b bo ln lc n c Lc e el1 x el A hA hAo hL l hl hB h4 h5 h1 h2 hle h3 hel1).mono (fun v H nx' hq => ⟨hq.1, fun id ob ho => ?_, by rw [setS_nx, hq.2.2.2]; exact Nat.le_refl _⟩) (fun _ _ _ h => h)
         rw [setS_h] at ho
         rcases Tr.get_put _ _ _ _ _ ho with ⟨e3, h6⟩ | ⟨e3, h6⟩
         ·injection h6 with h6
          subst e3 h6
          rw [hq.2.1, ← hr]
         ·exact hq.2.2.1 _ _ (by rw [del_ne e3]; exact h6)
       ·cases h
     ·cases h
   ·cases h
  ·cases h
 ·cases h
noncomputable def smK (f : Nat) : Option (List Value → St → Option (Value × St)) :=
 bif Nat.beq f 103 then some g103 else bif Nat.beq f 104 then some g104 else bif Nat.beq f 95 then some g95 else bif Nat.beq f 260 then some g260 else none
theorem smK_cases {f : Nat} {g : List Value → St → Option (Value × St)} (h : smK f = some g) : (f = 103 ∧ g = g103) ∨ (f = 104 ∧ g = g104) ∨ (f = 95 ∧ g = g95) ∨ (f = 260 ∧ g = g260) := by
 unfold smK at h
 simp only [natBeq] at h
 by_cases h1 : f = 103
 ·subst h1; injection h with h; exact .inl ⟨rfl, h.symm⟩
 ·rw [decide_eq_false h1, cond_false] at h
  by_cases h2 : f = 104
  ·subst h2; injection h with h; exact .inr (.inl ⟨rfl, h.symm⟩)
  ·rw [decide_eq_false h2, cond_false] at h
   by_cases h3 : f = 95
   ·subst h3; injection h with h; exact .inr (.inr (.inl ⟨rfl, h.symm⟩))
   ·rw [decide_eq_false h3, cond_false] at h
    by_cases h4 : f = 260
    ·subst h4; injection h with h; exact .inr (.inr (.inr ⟨rfl, h.symm⟩))
    ·rw [decide_eq_false h4, cond_false] at h; cases h
theorem g103_nx {args : List Value} {s s' : St} {v : Value} (h : g103 args s = some (v, s')) : s.nx ≤ s'.nx := by
 unfold g103 at h
 split at h
 ·rename_i w a n c
  cases hb : (Nat.ble w 4294967295 && Nat.ble n 1073741824) with
  | false => rw [hb] at h; cases h
  | true =>
   rw [hb, cond_true] at h
   split at h
   ·split at h
    ·injection h with h; injection h with h1 h2; subst h2; exact Nat.le_refl _
    ·cases h
   ·cases h
 ·cases h
theorem g95_nx {args : List Value} {s s' : St} {v : Value} (h : g95 args s = some (v, s')) : s.nx ≤ s'.nx := by
 unfold g95 at h
 split at h
 ·rename_i w a n c
  obtain ⟨hh, nx⟩ := s
  simp only at h
  cases hb : (Nat.ble w 4294967295 && Nat.ble n 1073741824 && abB a nx) with
  | false => rw [hb] at h; cases h
  | true =>
   rw [hb, cond_true] at h
   split at h
   ·split at h
    ·injection h with h; injection h with h1 h2; subst h2
     show nx ≤ nextN (nextN nx)
     rw [nextN_eq, nextN_eq]; omega
    ·cases h
   ·cases h
 ·cases h
theorem g104_nx {args : List Value} {s s' : St} {v : Value} (h : g104 args s = some (v, s')) : s.nx ≤ s'.nx := by
 unfold g104 at h
 split at h
 ·rename_i a n c
  obtain ⟨hh, nx⟩ := s
  simp only at h
  cases hb : Nat.ble n 536870912 with
  | false => rw [hb] at h; cases h
  | true =>
   rw [hb, cond_true] at h
   split at h
   ·rename_i cs hcs
    cases hu : allU8 cs with
    | false => rw [hu] at h; cases h
    | true =>
     rw [hu, cond_true] at h
     split at h
     ·cases h
     ·rw [forceN_eq] at h
      injection h with h; injection h with h1 h2; subst h2
      show nx ≤ nx + 1 + n
      omega
   ·cases h
 ·cases h
theorem g260_nx {args : List Value} {s s' : St} {v : Value} (h : g260 args s = some (v, s')) : s.nx ≤ s'.nx := by
 unfold g260 at h
 split at h
 ·split at h
  ·split at h
   ·rename_i d o i b bo n c _ A x el hA hAo L lo ln lc hAo
    cases hb : (Nat.ble i 1048576 && Nat.ble (Nat.add (Nat.mul i 512) 512) ln && Nat.ble 512 n && not (Nat.beq b L) && not (Nat.beq d L)) with
    | false => rw [hb] at h; cases h
    | true =>
     rw [hb, cond_true] at h
     split at h
     ·rename_i cs hcs
      cases hu : allU8 cs with
      | false => rw [hu] at h; cases h
      | true =>
       rw [hu, cond_true] at h
       split at h
       ·rename_i s1 hw
        injection h with h; injection h with h1 h2; subst h2
        exact Nat.le_of_eq (writeRow_nx hw).symm
       ·cases h
     ·cases h
   ·cases h
  ·cases h
 ·cases h
theorem smK_mono : MonoE (envS smK) := fun f g args s v s' h h1 => by
 rcases smK_cases h with ⟨rfl, rfl⟩ | ⟨rfl, rfl⟩ | ⟨rfl, rfl⟩ | ⟨rfl, rfl⟩
 ·exact g103_nx h1
 ·exact g104_nx h1
 ·exact g95_nx h1
 ·exact g260_nx h1
theorem smK_ok {E : Env} (hsm : ∀ f, smK f ≠ none → E.sm f ≠ none) {f : FuncId} {g : List Value → St → Option (Value × St)} {args : List Value} {s s' : St} {v : Value} (h : smK f = some g) (h1 : g args s = some (v, s')) : CallOk Tryz.prog E f args s v s' := by
 have hne : E.sm f ≠ none := hsm f (by rw [h]; simp)
 rcases smK_cases h with ⟨rfl, rfl⟩ | ⟨rfl, rfl⟩ | ⟨rfl, rfl⟩ | ⟨rfl, rfl⟩
 ·exact g103_ok hne h1
 ·exact g104_ok hne h1
 ·exact g95_ok hne h1
 ·exact g260_ok hne h1
theorem sndK : ∀ n, Sound Tryz.prog (envS smK) (ev (envS smK) n) := snd smK smK_mono (fun f g args s v s' h h1 => smK_ok (E := envS smK) (fun f h => h) h h1)
end Go.Proofs
end
section
namespace Go.Proofs
open Go.Eng
def MemoOk (m : Memo) : Prop := m.nx ≤ m.ny ∧ ∀ E : Env, E.sm m.f ≠ none → ∀ args s v s', memoF m args s = some (v, s') → CallOk Tryz.prog E m.f args s v s'
theorem memo_of {sm : Nat → Option (List Value → St → Option (Value × St))} (hs : ∀ n, Sound Tryz.prog (envS sm) (ev (envS sm) n)) {m : Memo} {N : Nat} (hn : Nat.ble m.nx m.ny = true) (hk : keys m.pre m.post = true)
  (h : chkR m (ev (envS sm) N (.call m.f m.args ⟨puts m.pre .lf, m.nx⟩)) = true) : MemoOk m :=
 ⟨Nat.le_of_ble_eq_true hn, fun _ hsm _ _ _ _ hm => memo_ok (hs N) hsm hk h hm⟩
noncomputable def memoL (f : Nat) : List Memo → List Value → St → Option (Value × St)
 | [], _, _ => none
 | m :: r, args, s => bif Nat.beq m.f f then (match memoF m args s with
  | some x => some x
  | none => memoL f r args s) else memoL f r args s
noncomputable def smM (ms : List Memo) (f : Nat) : Option (List Value → St → Option (Value × St)) :=
 bif ms.any (fun m => Nat.beq m.f f) then some (memoL f ms) else smK f
theorem memoL_in {f : Nat} {args : List Value} {s : St} {x : Value × St} : ∀ {ms : List Memo}, memoL f ms args s = some x → ∃ m ∈ ms, m.f = f ∧ memoF m args s = some x
 | [], h => by cases h
 | m :: r, h => by
  unfold memoL at h
  cases hb : Nat.beq m.f f with
  | false =>
   rw [hb, cond_false] at h
   obtain ⟨k, h1, h2⟩ := memoL_in h
   exact ⟨k, List.mem_cons_of_mem _ h1, h2⟩
  | true =>
   rw [hb, cond_true] at h
   split at h
   ·rename_i y hy
    injection h with h
    subst h
    exact ⟨m, List.mem_cons_self .., Nat.eq_of_beq_eq_true hb, hy⟩
   ·obtain ⟨k, h1, h2⟩ := memoL_in h
    exact ⟨k, List.mem_cons_of_mem _ h1, h2⟩
theorem smM_sub (ms : List Memo) (f : Nat) (h : smK f ≠ none) : smM ms f ≠ none := by
 unfold smM
 cases ms.any (fun m => Nat.beq m.f f) with
 | false => exact h
 | true => simp
theorem smM_case {ms : List Memo} {f : Nat} {g : List Value → St → Option (Value × St)} (h : smM ms f = some g) : (g = memoL f ms) ∨ smK f = some g := by
 unfold smM at h
 cases hb : ms.any (fun m => Nat.beq m.f f) with
 | false => rw [hb] at h; exact .inr h
 | true => rw [hb] at h; injection h with h; exact .inl h.symm
theorem smM_mono {ms : List Memo} (hm : ∀ m ∈ ms, MemoOk m) : MonoE (envS (smM ms)) := fun f g args s v s' h h1 => by
 rcases smM_case h with rfl | h2
 ·obtain ⟨m, k1, k2, k3⟩ := memoL_in h1
  exact memo_nx (hm m k1).1 k3
 ·exact smK_mono f g args s v s' h2 h1
theorem sndM {ms : List Memo} (hm : ∀ m ∈ ms, MemoOk m) : ∀ n, Sound Tryz.prog (envS (smM ms)) (ev (envS (smM ms)) n) := snd (smM ms) (smM_mono hm) (fun f g args s v s' h h1 => by
 have hne : (envS (smM ms)).sm f ≠ none := by
  have h : (envS (smM ms)).sm f = some g := h
  rw [h]; simp
 rcases smM_case h with rfl | h2
 ·obtain ⟨m, k1, k2, k3⟩ := memoL_in h1
  subst k2
  exact (hm m k1).2 _ hne args s v s' k3
 ·exact smK_ok (E := envS (smM ms)) (fun f h => smM_sub ms f h) h2 h1)
noncomputable def rp (v : Value) (n : Nat) : List Value := Nat.rec (motive := fun _ => List Value) [] (fun _ ih => v :: ih) n
end Go.Proofs
end
