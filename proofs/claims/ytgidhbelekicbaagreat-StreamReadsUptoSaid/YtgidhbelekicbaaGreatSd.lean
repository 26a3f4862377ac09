/-
  Part of the proof of StreamReadsUptoSaid: The reference reads a stream.
-/
import Derived.Test.YtgidhbelekicbaaGreatSc
import Derived.Test.YtgidhbelekicbaaGreatEj
set_option linter.unusedVariables false
namespace Go.Proofs
open Go.Eng
variable {sm : Nat → Option (List Value → St → Option (Value × St))}
theorem newE_blk {H : Hp} {z : List Value} {sz k n : Nat} {cs : List Value} {e : TypeId} {el : Nat} (hb : H n = some (.cells cs e el)) (hl : cs.length = k * sz) (hk : k ≠ 0) : newE H z sz false (.slice (some ⟨n, 0, none⟩) k k) k cs :=
 ⟨rfl, by simp only [srcE, if_neg hk, Eng.rdR, hb]; rw [if_pos (by omega), List.drop_zero, ← hl, List.take_length], fun a p q h => by injection h with h; injection h with h; subst h; rfl⟩
theorem SlB.fr {A B : Hp} {lo : Nat} {v : Value} {l : List UInt8} (h : SlB A lo v l) (hs : ∀ i o, lo ≤ i → A i = some o → B i = some o) : SlB B lo v l := by
 obtain ⟨a, c, h1, h2, h3⟩ := h
 exact ⟨a, c, h1, ⟨h2.sp, fun hl => by
  obtain ⟨b, o, cs, e, el, h4, h5, h6⟩ := h2.row hl
  exact ⟨b, o, cs, e, el, h4, hs _ _ (h3 b o h4) h5, h6⟩⟩, h3⟩
theorem RR.fr {A B : Hp} {r b e : Nat} {rest : List UInt8} (h : RR A r b rest e) (hs : ∀ i o, A i = some o → i = r ∨ i = b → B i = some o) : RR B r b rest e := by
 obtain ⟨bs, p, h1, h2, h3⟩ := h
 exact ⟨bs, p, hs _ _ h1 (.inl rfl), hs _ _ h2 (.inr rfl), h3⟩
def ChV (H : Hp) (lo : Nat) : List Chg → List Value → Prop
 | [], l => l = []
 | c :: cl, l => ∃ v1 v2 v3 r, l = chL c v1 v2 v3 ++ r ∧ SlB H lo v1 c.key ∧ SlB H lo v2 c.old ∧ SlB H lo v3 c.new ∧ ChV H lo cl r
theorem ChV.snoc {H : Hp} {lo : Nat} {c : Chg} {v1 v2 v3 : Value} (h1 : SlB H lo v1 c.key) (h2 : SlB H lo v2 c.old) (h3 : SlB H lo v3 c.new) : ∀ {cl : List Chg} {l : List Value}, ChV H lo cl l → ChV H lo (cl ++ [c]) (l ++ chL c v1 v2 v3)
 | [], l, h => by
  have h : l = [] := h
  subst h
  exact ⟨v1, v2, v3, [], by simp, h1, h2, h3, rfl⟩
 | d :: cl, l, h => by
  obtain ⟨w1, w2, w3, r, rfl, h4, h5, h6, h7⟩ := h
  exact ⟨w1, w2, w3, r ++ chL c v1 v2 v3, by simp, h4, h5, h6, ChV.snoc h1 h2 h3 h7⟩
theorem ChV.fr {A B : Hp} {lo : Nat} (hs : ∀ i o, lo ≤ i → A i = some o → B i = some o) : ∀ {cl : List Chg} {l : List Value}, ChV A lo cl l → ChV B lo cl l
 | [], _, h => h
 | _ :: _, _, h => by
  obtain ⟨w1, w2, w3, r, h3, h4, h5, h6, h7⟩ := h
  exact ⟨w1, w2, w3, r, h3, h4.fr hs, h5.fr hs, h6.fr hs, ChV.fr hs h7⟩
theorem ChV.mono {A B : Hp} {lo : Nat} {cl : List Chg} {l : List Value} (h : ChV A lo cl l) (hs : HSub A B) : ChV B lo cl l := h.fr fun i o _ => hs i o
theorem ChV.len {H : Hp} {lo : Nat} : ∀ {cl : List Chg} {l : List Value}, ChV H lo cl l → l.length = cl.length * 4
 | [], _, h => by rw [show _ = [] from h]; rfl
 | _ :: _, _, h => by
  obtain ⟨w1, w2, w3, r, rfl, h4, h5, h6, h7⟩ := h
  have := ChV.len h7
  simp only [List.length_append, List.length_cons, chL, List.length_nil, this]; omega
def LsC (H : Hp) (lo hi : Nat) (v : Value) (cl : List Chg) : Prop := ∃ cells, GS H v cl.length cells 68 4 lo hi ∧ ChV H lo cl cells
def isW (s : RS) : Prop := ((gV (gS s 4) 1 : Nat) : Int) = 1
instance (s : RS) : Decidable (isW s) := inferInstanceAs (Decidable (_ = _))
def hdS (s : RS) : RS := gS (gS s 4) 1
def mkOk (s : RS) : Prop := gV s 4 ≤ 2147483647 ∧ gV (gS s 4) 4 ≤ 2147483647
instance (s : RS) : Decidable (mkOk s) := inferInstanceAs (Decidable (_ ∧ _))
def okH (s : RS) : Prop := gV s 4 = 827609923 ∧ gV (gS s 4) 1 ≤ 1 ∧ mkOk (hdS s) ∧ mkOk (mkS (hdS s)) ∧ (isW s → gV (hdS s) 4 = 0 ∧ gV (gS (hdS s) 4) 4 = 0 ∧ gV (gS (gS (hdS s) 4) 4) 4 = 0)
instance (s : RS) : Decidable (okH s) := inferInstanceAs (Decidable (_ ∧ _))
def mnS (s : RS) : RS := mkS (mkS (hdS s))
def mnV (s : RS) : Nat := gV (mnS s) 4
def boS (s : RS) : RS := gS (mnS s) 4
def chs (w : Prop) [Decidable w] : Nat → RS → List UInt8 → Option (List Chg × RS)
 | 0, s, _ => some ([], s)
 | n + 1, s, last => if (neS false s).2 = 0 ∧ chIs (chC false s) last w then (chs w n (neS false s) (keV s)).map (fun q => (chC false s :: q.1, q.2)) else none
def rest (s : RS) : Option (List Chg × RS) := if okH s then chs (isW s) (mnV s) (boS s) [] else none
def hdC (s : RS) (n : Nat) : List Value := .bool (decide (isW s)) :: (mkC (hdS s) ++ (mkC (mkS (hdS s)) ++ [.int .i64 (n : Int)]))
def parse (l : List UInt8) : Except Nat (List Value × List Chg) :=
 if 16777216 < l.length then .error 4 else if l.length < 37 then .error 2
 else if ¬ l.drop (l.length - 4) = leN (crcN (l.take (l.length - 4))) 4 then .error 6
 else match rest (l.take (l.length - 4), 0) with
  | none => .error 5
  | some (cl, t) => if t.1 = [] ∧ t.2 = 0 then .ok (hdC (l.take (l.length - 4), 0) cl.length, cl) else .error 5
def hd0 : List Value := [.bool false, .int .i64 0, .int .i64 0, .int .u32 0, .int .i64 0, .int .i64 0, .int .u32 0, .int .i64 0]
def Rd (H : Hp) (lo hi : Nat) (l : List UInt8) (hd : List Value) (lv : Value) (e : Nat) : Prop := match parse l with
 | .error f => hd = hd0 ∧ lv = .slice none 0 0 ∧ e = f
 | .ok (hc, cl) => hd = hc ∧ LsC H lo hi lv cl ∧ e = 0
theorem rawR_le (l : List UInt8) (e n : Nat) : (rawR l e n).length ≤ l.length := by
 unfold rawR
 repeat' split
 ·rw [List.length_drop]; omega
 ·omega
 ·omega
theorem shR_le (l : List UInt8) (e n : Nat) : (shR l e n).length ≤ l.length := by
 unfold shR
 repeat' split
 all_goals first | omega | (simp only [List.length_drop, List.length_cons]; omega)
theorem rawE_zero {l : List UInt8} {e n : Nat} (h : rawE l e n = 0) : e = 0 ∧ n ≤ l.length := by
 unfold rawE at h
 repeat' split at h
 ·rename_i h1 h2; exact ⟨h1, h2⟩
 ·cases h
 ·rename_i h1; exact absurd h h1
theorem shE_zero {l : List UInt8} {e n : Nat} (h : shE l e n = 0) : e = 0 := by
 unfold shE at h
 split at h
 ·assumption
 ·exact h
theorem vlS_le (p : Bool) (s : RS) : (vlS p s).1.length ≤ s.1.length := Nat.le_trans (rawR_le _ _ _) (rawR_le _ _ _)
theorem vlS_zero {p : Bool} {s : RS} (h : (vlS p s).2 = 0) : s.2 = 0 := (rawE_zero (rawE_zero h).1).1
theorem olS_le (p : Bool) (s : RS) : (olS p s).1.length ≤ (keS s).1.length := by
 unfold olS
 split
 ·omega
 ·exact vlS_le _ _
theorem neS_le (p : Bool) (s : RS) : (neS p s).1.length ≤ (keS s).1.length := by
 unfold neS
 split
 ·exact olS_le _ _
 ·exact Nat.le_trans (vlS_le _ _) (olS_le _ _)
theorem olS_zero {p : Bool} {s : RS} (h : (olS p s).2 = 0) : (keS s).2 = 0 := by
 unfold olS at h
 split at h
 ·exact h
 ·exact vlS_zero h
theorem neS_zero {p : Bool} {s : RS} (h : (neS p s).2 = 0) : (keS s).2 = 0 := by
 unfold neS at h
 split at h
 ·exact olS_zero h
 ·exact olS_zero (vlS_zero h)
theorem neS_lt {p : Bool} {s : RS} (h : (neS p s).2 = 0) : (neS p s).1.length + 1 ≤ s.1.length := by
 have h1 := shE_zero (neS_zero h)
 obtain ⟨h2, h3⟩ := rawE_zero h1
 have h4 : (gS s 1).1.length + 1 ≤ s.1.length := by
  show (rawR s.1 s.2 1).length + 1 ≤ _
  unfold rawR
  rw [if_pos h2, if_pos h3, List.length_drop]; omega
 have h5 : (keS s).1.length ≤ (gS s 1).1.length := shR_le _ _ _
 have := neS_le p s
 omega
theorem chs_step {w : Prop} [Decidable w] {n : Nat} {s : RS} {last : List UInt8} (h1 : (neS false s).2 = 0) (h2 : chIs (chC false s) last w) : chs w (n + 1) s last = (chs w n (neS false s) (keV s)).map (fun q => (chC false s :: q.1, q.2)) := by
 show (if _ then _ else _) = _
 rw [if_pos ⟨h1, h2⟩]
theorem chs_bad {w : Prop} [Decidable w] {n : Nat} {s : RS} {last : List UInt8} (h : ¬ ((neS false s).2 = 0 ∧ chIs (chC false s) last w)) : chs w (n + 1) s last = none := by
 show (if _ then _ else _) = _
 rw [if_neg h]
theorem map_app {α β : Type} {o : Option (List α × β)} {l : List α} {c : α} : ((o.map (fun q => (c :: q.1, q.2))).map (fun q => (l ++ q.1, q.2))) = o.map (fun q => ((l ++ [c]) ++ q.1, q.2)) := by
 cases o <;> simp
theorem parse_ok {l : List UInt8} {cl : List Chg} {t : RS} (h1 : ¬ 16777216 < l.length) (h2 : ¬ l.length < 37) (h3 : l.drop (l.length - 4) = leN (crcN (l.take (l.length - 4))) 4) (h4 : rest (l.take (l.length - 4), 0) = some (cl, t)) (h5 : t.1 = []) (h6 : t.2 = 0) : parse l = .ok (hdC (l.take (l.length - 4), 0) cl.length, cl) := by
 unfold parse
 rw [if_neg h1, if_neg h2, if_neg (not_not_intro h3), h4]
 exact if_pos ⟨h5, h6⟩
theorem parse_no {l : List UInt8} (h1 : ¬ 16777216 < l.length) (h2 : ¬ l.length < 37) (h3 : l.drop (l.length - 4) = leN (crcN (l.take (l.length - 4))) 4) (h4 : rest (l.take (l.length - 4), 0) = none) : parse l = .error 5 := by
 unfold parse
 rw [if_neg h1, if_neg h2, if_neg (not_not_intro h3), h4]
theorem parse_end {l : List UInt8} {cl : List Chg} {t : RS} (h1 : ¬ 16777216 < l.length) (h2 : ¬ l.length < 37) (h3 : l.drop (l.length - 4) = leN (crcN (l.take (l.length - 4))) 4) (h4 : rest (l.take (l.length - 4), 0) = some (cl, t)) (h5 : ¬ (t.1 = [] ∧ t.2 = 0)) : parse l = .error 5 := by
 unfold parse
 rw [if_neg h1, if_neg h2, if_neg (not_not_intro h3), h4]
 exact if_neg h5
theorem parse_4 {l : List UInt8} (h1 : 16777216 < l.length) : parse l = .error 4 := by unfold parse; rw [if_pos h1]
theorem parse_2 {l : List UInt8} (h1 : ¬ 16777216 < l.length) (h2 : l.length < 37) : parse l = .error 2 := by unfold parse; rw [if_neg h1, if_pos h2]
theorem parse_6 {l : List UInt8} (h1 : ¬ 16777216 < l.length) (h2 : ¬ l.length < 37) (h3 : ¬ l.drop (l.length - 4) = leN (crcN (l.take (l.length - 4))) 4) : parse l = .error 6 := by unfold parse; rw [if_neg h1, if_neg h2, if_pos h3]
theorem Rd.err {H : Hp} {lo hi : Nat} {l : List UInt8} {f : Nat} (h : parse l = .error f) : Rd H lo hi l hd0 (.slice none 0 0) f := by unfold Rd; rw [h]; exact ⟨rfl, rfl, rfl⟩
theorem Rd.ok {H : Hp} {lo hi : Nat} {l : List UInt8} {hc : List Value} {cl : List Chg} {lv : Value} (h : parse l = .ok (hc, cl)) (hl : LsC H lo hi lv cl) : Rd H lo hi l hc lv 0 := by unfold Rd; rw [h]; exact ⟨rfl, hl, rfl⟩
theorem shO_len (l : List UInt8) (e n : Nat) : (shO l e n).length ≤ n := by
 unfold shO
 repeat' split
 all_goals first | (simp only [List.length_take]; omega) | exact Nat.zero_le _
theorem keV_len (s : RS) : (keV s).length ≤ 24 := shO_len _ _ _
theorem vlV_len (s : RS) : (vlV false s).length < 65536 := Nat.lt_of_le_of_lt (rawO_len _ _ _) (gV2 s)
theorem olV_len (s : RS) : (olV false s).length < 65536 := by
 unfold olV
 split
 ·exact Nat.succ_pos _
 ·exact vlV_len _
theorem boS_le (s : RS) : (boS s).1.length ≤ s.1.length :=
 Nat.le_trans (rawR_le _ _ _) (Nat.le_trans (rawR_le _ _ _) (Nat.le_trans (rawR_le _ _ _) (Nat.le_trans (rawR_le _ _ _) (Nat.le_trans (rawR_le _ _ _) (Nat.le_trans (rawR_le _ _ _) (Nat.le_trans (rawR_le _ _ _) (Nat.le_trans (rawR_le _ _ _) (rawR_le _ _ _))))))))
theorem map_nil {β : Type} {o : Option (List Chg × β)} : o = o.map (fun q => ([] ++ q.1, q.2)) := by cases o <;> simp
theorem nbeq {a b : Nat} (h : a ≠ b) : Nat.beq a b = false := by
 cases hb : Nat.beq a b with
 | false => rfl
 | true => exact absurd (Nat.eq_of_beq_eq_true hb) h
theorem rest_ok {s : RS} (h : okH s) : rest s = (chs (isW s) (mnV s - 0) (boS s) []).map (fun q => ([] ++ q.1, q.2)) := by
 rw [Nat.sub_zero, ← map_nil]
 exact if_pos h
theorem rest_no {s : RS} (h : ¬ okH s) : rest s = none := if_neg h
theorem isW_dec (s : RS) : decide (isW s) = decide (((gV (gS s 4) 1 : Nat) : Int) = 1) := rfl
theorem bin_mark0 {con : Bool} {a b c : Nat} : rBinV .eql (.flat markK) con (.agg ⟨[.int .i64 (a : Int), .int .i64 (b : Int), .int .u32 (c : Int)]⟩) (.agg ⟨[.int .i64 0, .int .i64 0, .int .u32 0]⟩) = some (.bool (decide (a = 0 ∧ b = 0 ∧ c = 0))) := by
 show some (Value.bool (and (eqF a 0) (and (eqF b 0) (and (eqF c 0) true)))) = _
 simp only [eqF_eq, Bool.and_true, Bool.decide_and]
 congr 2
 all_goals first | (congr 1; exact decide_eq_decide.2 (by omega)) | skip
 all_goals simp
theorem spec51s (hsm : sm 51 = none) (hsm105 : sm 105 = none) (hsm104 : sm 104 = none) (hsm107 : sm 107 = none) (hsm171 : sm 171 = none) (H : Hp) (nx r b w : Nat) (s : RS) (hR : RR H r b s.1 s.2) (hH : HB H nx) (hw : w ≤ 8) : FnOk (envS sm) 51 [.pointer (some ⟨r, 0, none⟩), .int .i64 (w : Int)] H nx (fun v H' nx' => v = .int .u64 (gV s w : Nat) ∧ RR H' r b (gS s w).1 (gS s w).2 ∧ HSub (del H r) H' ∧ HB H' nx' ∧ nx ≤ nx') (fun _ _ _ => False) := spec51 hsm hsm105 hsm104 hsm107 hsm171 H nx r b s.2 w s.1 hR hH hw
theorem spec20 (hsm : sm 20 = none) (hsm49 : sm 49 = none) (hsm103 : sm 103 = none) (hsm170 : sm 170 = none) (hsm241 : sm 241 = none) (hsm48 : sm 48 = none) (hsm22 : sm 22 = none) (hsm57 : sm 57 = none) (hsm50 : sm 50 = none) (hsm52 : sm 52 = none) (hsm53 : sm 53 = none) (hsm54 : sm 54 = none) (hsm55 : sm 55 = none) (hsm56 : sm 56 = none) (hsm106 : sm 106 = none) (hsm51 : sm 51 = none) (hsm105 : sm 105 = none) (hsm104 : sm 104 = none) (hsm107 : sm 107 = none) (hsm171 : sm 171 = none) (H : Hp) (nx : Nat) (hH : HB H nx) (a : Option Addr) (l : List UInt8) (c : Nat) (ha : BS H a l) (hl : l.length ≤ 536870912) (hcl0 : l.length ≤ c) (hc0 : c ≤ 1073741824) : FnOk (envS sm) 20 [.slice a l.length c] H nx (fun v H' nx' => ∃ hd lv e, v = .tuple ⟨[.agg ⟨hd⟩, lv, .int .i64 ((e : Nat) : Int)]⟩ ∧ Rd H' (nx + 1) nx' l hd lv e ∧ HSub H H' ∧ HB H' nx' ∧ nx ≤ nx') (fun _ _ _ => False) := by
 refine FnOk.of (fn := Tryz.f20) hsm rfl rfl rfl ?_
 refine WC.seqR (xs := [oq 2 (.m (.alc [(.bool false), (.int .i64 0), (.int .i64 0), (.int .u32 0), (.int .i64 0), (.int .i64 0), (.int .u32 0), (.int .i64 0)] 30)),
   om 3 (.v (.slice none 0 0)),
   om 4 (.v (.int .i64 0))]) (by kernel_rfl) ?_
 refine WS.c (One.alc rfl ?_)
 have hB1 := hH.new (o := .cells hd0 30 0)
 have hS1 : HSub H (upd H nx (.cells hd0 30 0)) := HSub.new hH (Nat.le_refl _) (HSub.refl H)
 have hA1 := ha.mono hS1
 refine WS.mv rfl rfl ?_
 refine WS.mv rfl rfl ?_
 refine WS.nil ?_
 refine WC.seq ?_
 refine WC.seqR (xs := [om 15 (.t 0),
   oq 16 (.p (.len (.t 15))),
   oq 17 (.p (.bin .gtr .other true (.t 16) (.v (.int .i64 16777216))))]) (by kernel_rfl) ?_
 refine WS.mv rfl rfl ?_
 refine WS.c (One.len rfl rfl ?_)
 refine WS.c (One.bin rfl rfl bin_gtr rfl ?_)
 refine WS.nil ?_
 refine WC.cond rfl (fun hc1 => ?_) (fun hc1 => ?_)
 ·refine WC.seqR (xs := [oq 18 (.p (.bld [] [(.bool false), (.int .i64 0), (.int .i64 0), (.int .u32 0), (.int .i64 0), (.int .i64 0), (.int .u32 0), (.int .i64 0)])),
    ⟨none, none, .w (.sto 8 (.t 2) (.t 18))⟩,
    om 3 (.v (.slice none 0 0)),
    om 4 (.v (.int .i64 4))]) (by kernel_rfl) ?_
  refine WS.c (One.bld rfl rfl ?_)
  refine WS.z (One.sto (cs' := hd0) rfl rfl upd_eq rfl rfl rfl rfl ?_)
  refine WS.mv rfl rfl ?_
  refine WS.mv rfl rfl ?_
  refine WS.nil ?_
  refine WC.ret ?_
  exact EndOk.now rfl (resE_cell rfl (by kernel_rfl) (ld_sameA (m := 8) (Nat.le_refl 8) rfl) rfl) ⟨_, _, 4, rfl, Rd.err (parse_4 (by omega)), HSub.new hH (Nat.le_refl _) hS1, hB1.upd (by omega), by omega⟩
 ·refine WC.skip ?_
  refine WC.seq ?_
  refine WC.seqR (xs := [om 19 (.t 0),
    oq 20 (.p (.len (.t 19))),
    oq 21 (.p (.bin .lss .other true (.t 20) (.v (.int .i64 37))))]) (by kernel_rfl) ?_
  refine WS.mv rfl rfl ?_
  refine WS.c (One.len rfl rfl ?_)
  refine WS.c (One.bin rfl rfl bin_lss rfl ?_)
  refine WS.nil ?_
  refine WC.cond rfl (fun hc2 => ?_) (fun hc2 => ?_)
  ·refine WC.seqR (xs := [oq 22 (.p (.bld [] [(.bool false), (.int .i64 0), (.int .i64 0), (.int .u32 0), (.int .i64 0), (.int .i64 0), (.int .u32 0), (.int .i64 0)])),
     ⟨none, none, .w (.sto 8 (.t 2) (.t 22))⟩,
     om 3 (.v (.slice none 0 0)),
     om 4 (.v (.int .i64 2))]) (by kernel_rfl) ?_
   refine WS.c (One.bld rfl rfl ?_)
   refine WS.z (One.sto (cs' := hd0) rfl rfl upd_eq rfl rfl rfl rfl ?_)
   refine WS.mv rfl rfl ?_
   refine WS.mv rfl rfl ?_
   refine WS.nil ?_
   refine WC.ret ?_
   exact EndOk.now rfl (resE_cell rfl (by kernel_rfl) (ld_sameA (m := 8) (Nat.le_refl 8) rfl) rfl) ⟨_, _, 2, rfl, Rd.err (parse_2 (by omega) (by omega)), HSub.new hH (Nat.le_refl _) hS1, hB1.upd (by omega), by omega⟩
  ·refine WC.skip ?_
   refine WC.seqR (xs := [om 23 (.t 0),
     om 24 (.t 0),
     oq 25 (.p (.len (.t 24))),
     oq 26 (.p (.bin .sub .other true (.t 25) (.v (.int .i64 4)))),
     oq 27 (.p (.slS 1 (.t 23) none (some (.t 26)) none)),
     om 5 (.t 27)]) (by kernel_rfl) ?_
   refine WS.mv rfl rfl ?_
   refine WS.mv rfl rfl ?_
   refine WS.c (One.len rfl rfl ?_)
   refine WS.c (One.bin rfl rfl (bin_sub64 (by omega) (by omega)) rfl ?_)
   obtain ⟨b1, o1, rfl⟩ : ∃ b o, a = some ⟨b, o, none⟩ := by
    obtain ⟨b, o, _, _, _, h, _⟩ := ha.row (by intro h; rw [h] at hc2; exact hc2 (by decide))
    exact ⟨b, o, h⟩
   refine WS.c (One.slBS (l := 0) (h := l.length - 4) rfl hA1 hc0 hcl0 (bnd_int rfl (by omega) (by omega)) (by omega) rfl (Nat.zero_le _) rfl ?_)
   intro o' hBo
   rw [List.drop_zero, Nat.sub_zero] at hBo ⊢
   obtain ⟨al, hal⟩ : ∃ al, al = l.take (l.length - 4) := ⟨_, rfl⟩
   rw [← hal] at hBo ⊢
   have hall : al.length ≤ l.length := by rw [hal, List.length_take]; omega
   refine WS.mv rfl rfl ?_
   refine WS.nil ?_
   refine WC.seq ?_
   refine WC.seqT (l := [om 28 (.t 0),
     om 29 (.t 0),
     oq 30 (.p (.len (.t 29))),
     oq 31 (.p (.bin .sub .other true (.t 30) (.v (.int .i64 4)))),
     oq 32 (.p (.slS 1 (.t 28) (some (.t 31)) none none)),
     om 33 (.t 5),
     oq 34 (.call (.v (.func (.func 49) #[] #[])) [(.t 33)]),
     oq 35 (.p (.cvI .u64 (.t 34))),
     oq 36 (.call (.v (.func (.func 48) #[] #[])) [(.t 35), (.v (.int .i64 4))]),
     oq 37 (.call (.v (.func (.func 22) #[] #[])) [(.t 32), (.t 36)]),
     oq 38 (.p (.not (.t 37)))]) (ws := [(0, 2), (0, 2), (0, 2), (0, 2), (0, 2), (0, 0), (0, 1), (1, 1), (1, 2), (2, 3), (3, 3)]) (xs := [(om 28 (.t 0), [0]),
     (om 29 (.t 0), [0]),
     (oq 30 (.p (.len (.t 29))), [29]),
     (oq 31 (.p (.bin .sub .other true (.t 30) (.v (.int .i64 4)))), [30]),
     (oq 32 (.p (.slS 1 (.t 28) (some (.t 31)) none none)), [28, 31]),
     (om 33 (.t 5), [5]),
     (oq 34 (.call (.v (.func (.func 49) #[] #[])) [(.t 33)]), [33]),
     (oq 35 (.p (.cvI .u64 (.t 34))), [34]),
     (oq 36 (.call (.v (.func (.func 48) #[] #[])) [(.t 35), (.v (.int .i64 4))]), [35]),
     (oq 37 (.call (.v (.func (.func 22) #[] #[])) [(.t 32), (.t 36)]), [32, 36]),
     (oq 38 (.p (.not (.t 37))), [37])]) (by kernel_rfl) (by kernel_rfl) ?_
   refine WD.q rfl (One.mv rfl rfl ⟨rfl, ?_⟩)
   refine WD.q rfl (One.mv rfl rfl ⟨rfl, ?_⟩)
   refine WD.q rfl (One.len rfl rfl ⟨rfl, ?_⟩)
   refine WD.q rfl (One.bin rfl rfl (bin_sub64 (by omega) (by omega)) rfl ⟨rfl, ?_⟩)
   refine WD.q rfl (One.slBS (bs := l) (l := l.length - 4) (h := l.length) rfl hA1 hc0 hcl0 rfl (Nat.le_refl _) (bnd_int rfl (by omega) (by omega)) (by omega) rfl ?_)
   intro o2 hBt
   rw [List.take_of_length_le (by rw [List.length_drop]; omega)] at hBt ⊢
   refine ⟨rfl, ?_⟩
   refine WD.q rfl (One.mv rfl rfl ⟨rfl, ?_⟩)
   refine WD.l rfl (One.call rfl rfl (spec49 hsm49 hsm103 hsm170 hsm241 _ _ _ al _ hBo (by omega)) rfl ?_ (fun _ _ _ h => h.elim))
   rintro _ _ _ ⟨rfl, rfl, rfl⟩
   refine ⟨rfl, ?_⟩
   refine WD.q rfl (One.cvI rfl (wrap_u rfl (Nat.lt_trans (crcN_lt al) (by decide))) rfl ⟨rfl, ?_⟩)
   refine WD.l rfl (One.call rfl rfl (spec48 hsm48 _ _ (crcN al) 4 hB1 (Nat.lt_trans (crcN_lt al) (by decide)) (by omega)) rfl ?_ (fun _ _ _ h => h.elim))
   rintro v2 H2 n2 ⟨hg2, hS2, hB2, hn2⟩
   refine ⟨rfl, ?_⟩
   have hg2' : GS H2 v2 (leN (crcN al) 4).length (strCells (leN (crcN al) 4)) 5 1 (nx + 1) n2 := by rw [leN_len]; exact hg2
   obtain ⟨a2, c2, rfl, hB4⟩ := hg2'.bs
   have hres2 := hS2 _ _ upd_eq
   refine WD.l rfl (One.call rfl rfl (spec22 hsm22 hsm57 _ _ _ _ (l.drop (l.length - 4)) (leN (crcN al) 4) _ _ (hBt.mono hS2) hB4 (by rw [List.length_drop]; omega)) rfl ?_ (fun _ _ _ h => h.elim))
   rintro _ _ _ ⟨rfl, rfl, rfl⟩
   refine ⟨rfl, ?_⟩
   refine WD.q rfl (One.not rfl rfl ⟨rfl, ?_⟩)
   refine WD.nil (trivial) ?_
   refine WC.cond rfl (fun hc3 => ?_) (fun hc3 => ?_)
   ·refine WC.seqR (xs := [oq 39 (.p (.bld [] [(.bool false), (.int .i64 0), (.int .i64 0), (.int .u32 0), (.int .i64 0), (.int .i64 0), (.int .u32 0), (.int .i64 0)])),
      ⟨none, none, .w (.sto 8 (.t 2) (.t 39))⟩,
      om 3 (.v (.slice none 0 0)),
      om 4 (.v (.int .i64 6))]) (by kernel_rfl) ?_
    refine WS.c (One.bld rfl rfl ?_)
    refine WS.z (One.sto (cs' := hd0) rfl rfl hres2 rfl rfl rfl rfl ?_)
    refine WS.mv rfl rfl ?_
    refine WS.mv rfl rfl ?_
    refine WS.nil ?_
    refine WC.ret ?_
    exact EndOk.now rfl (resE_cell rfl (by kernel_rfl) (ld_sameA (m := 8) (Nat.le_refl 8) rfl) rfl) ⟨_, _, 6, rfl, Rd.err (parse_6 (by omega) (by omega) (by rw [← hal]; exact hc3)), HSub.new hH (Nat.le_refl _) (hS1.trans hS2), hB2.upd (by omega), by omega⟩
   ·refine WC.skip ?_
    refine WC.seqR (xs := [om 40 (.t 5),
      oq 41 (.call (.v (.func (.func 50) #[] #[])) [(.t 40)]),
      om 6 (.t 41)]) (by kernel_rfl) ?_
    refine WS.mv rfl rfl ?_
    refine WS.c (One.call rfl rfl (spec50 hsm50 hsm104 _ _ hB2 _ al _ (hBo.mono hS2) (by omega)) rfl ?_ (fun _ _ _ h => h.elim))
    rintro _ H3 n3 ⟨r, b, rfl, hr3, hR3, hb3, hS3, hB3, hn3⟩
    have hrn := hR3.lt hB3
    have hbn := hR3.ltb hB3
    have hT3 := hS2.trans hS3
    refine WS.mv rfl rfl ?_
    refine WS.nil ?_
    refine WC.seqR (xs := [om 42 (.t 6),
      oq 43 (.call (.v (.func (.func 51) #[] #[])) [(.t 42), (.v (.int .i64 4))]),
      om 44 (.t 6),
      oq 45 (.call (.v (.func (.func 51) #[] #[])) [(.t 44), (.v (.int .i64 1))]),
      om 7 (.t 43),
      om 8 (.t 45)]) (by kernel_rfl) ?_
    refine WS.mv rfl rfl ?_
    refine WS.c (One.call rfl rfl (spec51s hsm51 hsm105 hsm104 hsm107 hsm171 _ _ r b 4 ((al, 0)) hR3 hB3 (by omega)) rfl ?_ (fun _ _ _ h => h.elim))
    rintro _ H4 n4 ⟨rfl, hR4, hS4, hB4, hn4⟩
    have hT4 := hT3.thr (hB1.no (by omega)) hS4
    refine WS.mv rfl rfl ?_
    refine WS.c (One.call rfl rfl (spec51s hsm51 hsm105 hsm104 hsm107 hsm171 _ _ r b 1 (gS (al, 0) 4) hR4 hB4 (by omega)) rfl ?_ (fun _ _ _ h => h.elim))
    rintro _ H5 n5 ⟨rfl, hR5, hS5, hB5, hn5⟩
    have hT5 := hT4.thr (hB1.no (by omega)) hS5
    refine WS.mv rfl rfl ?_
    refine WS.mv rfl rfl ?_
    refine WS.nil ?_
    refine WC.seqR (xs := [om 46 (.t 8),
      oq 47 (.p (.bin .eql .other true (.t 46) (.v (.int .u64 1)))),
      oq 48 (.p (.bld [(0, 1, (.t 47))] [(.bool false), (.int .i64 0), (.int .i64 0), (.int .u32 0), (.int .i64 0), (.int .i64 0), (.int .u32 0), (.int .i64 0)])),
      oq 9 (.m (.alc [(.bool false), (.int .i64 0), (.int .i64 0), (.int .u32 0), (.int .i64 0), (.int .i64 0), (.int .u32 0), (.int .i64 0)] 30)),
      ⟨none, none, .w (.sto 8 (.t 9) (.t 48))⟩]) (by kernel_rfl) ?_
    refine WS.mv rfl rfl ?_
    refine WS.c (One.bin rfl rfl bin_eql rfl ?_)
    refine WS.c (One.bld rfl rfl ?_)
    refine WS.c (One.alc rfl ?_)
    refine WS.z (One.sto (cs' := [.bool (decide (isW (al, 0))), .int .i64 0, .int .i64 0, .int .u32 0, .int .i64 0, .int .i64 0, .int .u32 0, .int .i64 0]) rfl rfl upd_eq rfl rfl rfl rfl ?_)
    refine WS.nil ?_
    refine WC.seqR (xs := [om 49 (.t 6),
      oq 50 (.call (.v (.func (.func 52) #[] #[])) [(.t 49)]),
      oq 51 (.p (.fad (.t 9) 1)),
      ⟨none, none, .w (.sto 3 (.t 51) (.t 50))⟩]) (by kernel_rfl) ?_
    have hRa := (hR5.upd (c := n5) (o := .cells [.bool false, .int .i64 0, .int .i64 0, .int .u32 0, .int .i64 0, .int .i64 0, .int .u32 0, .int .i64 0] 30 0) (by omega) (by omega)).upd (c := n5) (o := .cells [.bool (decide (isW (al, 0))), .int .i64 0, .int .i64 0, .int .u32 0, .int .i64 0, .int .i64 0, .int .u32 0, .int .i64 0] 30 0) (by omega) (by omega)
    have hBa := (hB5.new (o := .cells [.bool false, .int .i64 0, .int .i64 0, .int .u32 0, .int .i64 0, .int .i64 0, .int .u32 0, .int .i64 0] 30 0)).upd (b := n5) (o := .cells [.bool (decide (isW (al, 0))), .int .i64 0, .int .i64 0, .int .u32 0, .int .i64 0, .int .i64 0, .int .u32 0, .int .i64 0] 30 0) (by omega)
    have hTa := HSub.new (b := n5) (o := .cells [.bool (decide (isW (al, 0))), .int .i64 0, .int .i64 0, .int .u32 0, .int .i64 0, .int .i64 0, .int .u32 0, .int .i64 0] 30 0) hB1 (by omega) (HSub.new (b := n5) (o := .cells [.bool false, .int .i64 0, .int .i64 0, .int .u32 0, .int .i64 0, .int .i64 0, .int .u32 0, .int .i64 0] 30 0) hB1 (by omega) hT5)
    refine WS.mv rfl rfl ?_
    refine WS.c (One.call rfl rfl (spec52 hsm52 hsm51 hsm105 hsm104 hsm107 hsm171 _ _ r b (hdS (al, 0)) hRa hBa) rfl ?_ (fun _ _ _ h => h.elim))
    rintro _ H6 n6 ⟨rfl, hR6, hS6, hB6, hn6⟩
    have hT6 := hTa.thr (hB1.no (by omega)) hS6
    have hh6 := del_at hS6 upd_eq (by omega)
    refine WS.c (One.fad rfl rfl ?_)
    refine WS.z (One.sto (cs' := (.bool (decide (isW (al, 0))) :: (mkC (hdS (al, 0)) ++ [.int .i64 0, .int .i64 0, .int .u32 0, .int .i64 0]))) rfl rfl hh6 rfl rfl rfl rfl ?_)
    refine WS.nil ?_
    refine WC.seqR (xs := [om 52 (.t 6),
      oq 53 (.call (.v (.func (.func 52) #[] #[])) [(.t 52)]),
      oq 54 (.p (.fad (.t 9) 4)),
      ⟨none, none, .w (.sto 3 (.t 54) (.t 53))⟩]) (by kernel_rfl) ?_
    have hRb := hR6.upd (c := n5) (o := .cells (.bool (decide (isW (al, 0))) :: (mkC (hdS (al, 0)) ++ [.int .i64 0, .int .i64 0, .int .u32 0, .int .i64 0])) 30 0) (by omega) (by omega)
    have hBb := hB6.upd (b := n5) (o := .cells (.bool (decide (isW (al, 0))) :: (mkC (hdS (al, 0)) ++ [.int .i64 0, .int .i64 0, .int .u32 0, .int .i64 0])) 30 0) (by omega)
    have hTb := HSub.new (b := n5) (o := .cells (.bool (decide (isW (al, 0))) :: (mkC (hdS (al, 0)) ++ [.int .i64 0, .int .i64 0, .int .u32 0, .int .i64 0])) 30 0) hB1 (by omega) hT6
    refine WS.mv rfl rfl ?_
    refine WS.c (One.call rfl rfl (spec52 hsm52 hsm51 hsm105 hsm104 hsm107 hsm171 _ _ r b (mkS (hdS (al, 0))) hRb hBb) rfl ?_ (fun _ _ _ h => h.elim))
    rintro _ H7 n7 ⟨rfl, hR7, hS7, hB7, hn7⟩
    have hT7 := hTb.thr (hB1.no (by omega)) hS7
    have hh7 := del_at hS7 upd_eq (by omega)
    refine WS.c (One.fad rfl rfl ?_)
    refine WS.z (One.sto (cs' := (hdC (al, 0) 0)) rfl rfl hh7 rfl rfl rfl rfl ?_)
    refine WS.nil ?_
    refine WC.seqR (xs := [om 55 (.t 6),
      oq 56 (.call (.v (.func (.func 51) #[] #[])) [(.t 55), (.v (.int .i64 4))]),
      om 10 (.t 56)]) (by kernel_rfl) ?_
    have hRc := hR7.upd (c := n5) (o := .cells (hdC (al, 0) 0) 30 0) (by omega) (by omega)
    have hBc := hB7.upd (b := n5) (o := .cells (hdC (al, 0) 0) 30 0) (by omega)
    have hTc := HSub.new (b := n5) (o := .cells (hdC (al, 0) 0) 30 0) hB1 (by omega) hT7
    refine WS.mv rfl rfl ?_
    refine WS.c (One.call rfl rfl (spec51s hsm51 hsm105 hsm104 hsm107 hsm171 _ _ r b 4 (mnS (al, 0)) hRc hBc (by omega)) rfl ?_ (fun _ _ _ h => h.elim))
    rintro _ H9 n9 ⟨rfl, hR9, hS9, hB9, hn9⟩
    have hS9b := hS9
    have hS9 := hTc.thr (hB1.no (by omega)) hS9b
    have hhd := del_at hS9b upd_eq (by omega)
    refine WS.mv rfl rfl ?_
    refine WS.nil ?_
    refine WC.midR (xs := [om 57 (.t 7),
      oq 58 (.p (.bin .eql .other true (.t 57) (.v (.int .u64 827609923)))),
      om 59 (.t 58),
      ⟨(some (59, true)), (some (60, 60)), .p (.mv (.t 8))⟩,
      ⟨(some (59, true)), (some (61, 61)), .p (.bin .leq .other true (.t 60) (.v (.int .u64 1)))⟩,
      oq 62 (.p (.pick (.t 59) (.t 61) (.v (.bool false)))),
      om 63 (.t 62),
      ⟨(some (63, true)), (some (64, 64)), .p (.fad (.t 9) 1)⟩,
      ⟨(some (63, true)), (some (65, 65)), .l (.ld (some 3) (.t 64))⟩,
      ⟨(some (63, true)), (some (66, 66)), .call (.v (.func (.func 53) #[] #[])) [(.t 65)]⟩,
      oq 67 (.p (.pick (.t 63) (.t 66) (.v (.bool false)))),
      om 68 (.t 67),
      ⟨(some (68, true)), (some (69, 69)), .p (.fad (.t 9) 4)⟩,
      ⟨(some (68, true)), (some (70, 70)), .l (.ld (some 3) (.t 69))⟩,
      ⟨(some (68, true)), (some (71, 71)), .call (.v (.func (.func 53) #[] #[])) [(.t 70)]⟩,
      oq 72 (.p (.pick (.t 68) (.t 71) (.v (.bool false)))),
      om 73 (.t 72),
      ⟨(some (73, true)), (some (74, 74)), .p (.fad (.t 9) 0)⟩,
      ⟨(some (73, true)), (some (75, 75)), .l (.ld none (.t 74))⟩,
      ⟨(some (73, true)), (some (76, 76)), .p (.not (.t 75))⟩,
      ⟨(some (73, true)), (some (77, 77)), .p (.mv (.t 76))⟩,
      ⟨(some (77, false)), (some (78, 78)), .p (.fad (.t 9) 1)⟩,
      ⟨(some (77, false)), (some (79, 79)), .l (.ld (some 3) (.t 78))⟩,
      ⟨(some (77, false)), (some (80, 80)), .p (.bld [] [(.int .i64 0), (.int .i64 0), (.int .u32 0)])⟩,
      ⟨(some (77, false)), (some (81, 81)), .p (.bin .eql (.flat markK) false (.t 79) (.t 80))⟩,
      ⟨(some (73, true)), (some (82, 82)), .p (.pick (.t 77) (.v (.bool true)) (.t 81))⟩,
      oq 83 (.p (.pick (.t 73) (.t 82) (.v (.bool false)))),
      om 11 (.t 83)]) (by kernel_rfl) (fun env ds H' nx' => ∃ (ok : Prop) (dk : Decidable ok), SubE [(2, .pointer (some ⟨nx, 0, none⟩)), (6, .pointer (some ⟨r, 0, none⟩)), (9, .pointer (some ⟨n5, 0, none⟩)), (10, .int .u64 (mnV (al, 0) : Nat)), (11, .bool (decide ok))] env ∧ ds = [] ∧ ((ok ↔ okH (al, 0)) ∧ RR H' r b (boS (al, 0)).1 (boS (al, 0)).2 ∧ HB H' nx' ∧ n9 ≤ nx' ∧ H' n5 = some (.cells (hdC (al, 0) 0) 30 0) ∧ HSub (upd H nx (.cells hd0 30 0)) H')) ?_ (fun env ds H' nx' hI => ?_)
    ·refine WS.mv rfl rfl ?_
     refine WS.c (One.bin rfl rfl bin_eql rfl ?_)
     refine WS.mv rfl rfl ?_
     refine WS.split (t := 59) rfl (fun hg4 => ?_) (fun hg4 => ?_)
     ·refine WS.c (One.gPT rfl hg4 (One.mv rfl rfl ?_))
      refine WS.c (One.gPT rfl hg4 (One.bin rfl rfl bin_leq rfl ?_))
      refine WS.c (One.pickT rfl hg4 rfl rfl ?_)
      refine WS.mv rfl rfl ?_
      refine WS.split (t := 63) rfl (fun hg5 => ?_) (fun hg5 => ?_)
      ·refine WS.c (One.gPT rfl hg5 (One.fad rfl rfl ?_))
       refine WS.c (One.gPT rfl hg5 (One.ld rfl (ld_ofA (l := mkC (hdS (al, 0))) hhd (by simp [hdC, mkC]) rfl) rfl ?_))
       refine WS.c (One.gPT rfl hg5 (One.call rfl rfl (spec53 hsm53 _ _ (gV (hdS (al, 0)) 4) (gV (gS (hdS (al, 0)) 4) 4) (gV (gS (gS (hdS (al, 0)) 4) 4) 4) (hB9.mono (by omega))) rfl ?_ (fun _ _ _ h => h.elim)))
       rintro _ _ _ ⟨rfl, rfl, rfl⟩
       refine WS.c (One.pickT rfl hg5 rfl rfl ?_)
       refine WS.mv rfl rfl ?_
       refine WS.split (t := 68) rfl (fun hg6 => ?_) (fun hg6 => ?_)
       ·refine WS.c (One.gPT rfl hg6 (One.fad rfl rfl ?_))
        refine WS.c (One.gPT rfl hg6 (One.ld rfl (ld_ofA (l := mkC (mkS (hdS (al, 0)))) hhd (by simp [hdC, mkC]) rfl) rfl ?_))
        refine WS.c (One.gPT rfl hg6 (One.call rfl rfl (spec53 hsm53 _ _ (gV (mkS (hdS (al, 0))) 4) (gV (gS (mkS (hdS (al, 0))) 4) 4) (gV (gS (gS (mkS (hdS (al, 0))) 4) 4) 4) (hB9.mono (by omega))) rfl ?_ (fun _ _ _ h => h.elim)))
        rintro _ _ _ ⟨rfl, rfl, rfl⟩
        refine WS.c (One.pickT rfl hg6 rfl rfl ?_)
        refine WS.mv rfl rfl ?_
        refine WS.split (t := 73) rfl (fun hg7 => ?_) (fun hg7 => ?_)
        ·refine WS.c (One.gPT rfl hg7 (One.fad rfl rfl ?_))
         refine WS.c (One.gPT rfl hg7 (One.ld rfl (ld_of hhd rfl) rfl ?_))
         refine WS.c (One.gPT rfl hg7 (One.not rfl rfl ?_))
         refine WS.c (One.gPT rfl hg7 (One.mv rfl rfl ?_))
         refine WS.split (t := 77) rfl (fun hg8 => ?_) (fun hg8 => ?_)
         ·refine WS.c (One.gNF rfl hg8 rfl ?_)
          refine WS.c (One.gNF rfl hg8 rfl ?_)
          refine WS.c (One.gNF rfl hg8 rfl ?_)
          refine WS.c (One.gNF rfl hg8 rfl ?_)
          refine WS.c (One.gPT rfl hg7 (One.pickT rfl hg8 rfl rfl ?_))
          refine WS.c (One.pickT rfl hg7 rfl rfl ?_)
          refine WS.mv rfl rfl ?_
          refine WS.nil ?_
          refine ⟨True, instDecidableTrue, (by repeat (first | exact SubE.nil _ | refine SubE.cons rfl ?_)), rfl, ?_, hR9, hB9.mono (by omega), by omega, hhd, hS9⟩
          first
          | exact ⟨False.elim, fun h => by obtain ⟨h1, h2, ⟨h3, h4⟩, ⟨h5, h6⟩, h7⟩ := h; omega⟩
          | exact ⟨fun _ => ⟨by omega, by omega, ⟨by omega, by omega⟩, ⟨by omega, by omega⟩, fun hw => absurd hw (by assumption)⟩, fun _ => trivial⟩
          | exact ⟨fun h => ⟨by omega, by omega, ⟨by omega, by omega⟩, ⟨by omega, by omega⟩, fun _ => h⟩, fun h => h.2.2.2.2 (Decidable.of_not_not ‹_›)⟩
         ·refine WS.c (One.gNT rfl hg8 (One.fad rfl rfl ?_))
          refine WS.c (One.gNT rfl hg8 (One.ld rfl (ld_ofA (l := mkC (hdS (al, 0))) hhd (by simp [hdC, mkC]) rfl) rfl ?_))
          refine WS.c (One.gNT rfl hg8 (One.bld rfl rfl ?_))
          refine WS.c (One.gNT rfl hg8 (One.bin rfl rfl (bin_mark0 (a := gV (hdS (al, 0)) 4) (b := gV (gS (hdS (al, 0)) 4) 4) (c := gV (gS (gS (hdS (al, 0)) 4) 4) 4)) rfl ?_))
          refine WS.c (One.gPT rfl hg7 (One.pickF rfl hg8 rfl rfl ?_))
          refine WS.c (One.pickT rfl hg7 rfl rfl ?_)
          refine WS.mv rfl rfl ?_
          refine WS.nil ?_
          refine ⟨_, _, (by repeat (first | exact SubE.nil _ | refine SubE.cons rfl ?_)), rfl, ?_, hR9, hB9.mono (by omega), by omega, hhd, hS9⟩
          first
          | exact ⟨False.elim, fun h => by obtain ⟨h1, h2, ⟨h3, h4⟩, ⟨h5, h6⟩, h7⟩ := h; omega⟩
          | exact ⟨fun _ => ⟨by omega, by omega, ⟨by omega, by omega⟩, ⟨by omega, by omega⟩, fun hw => absurd hw (by assumption)⟩, fun _ => trivial⟩
          | exact ⟨fun h => ⟨by omega, by omega, ⟨by omega, by omega⟩, ⟨by omega, by omega⟩, fun _ => h⟩, fun h => h.2.2.2.2 (Decidable.of_not_not ‹_›)⟩
        ·refine WS.c (One.gPF rfl hg7 rfl ?_)
         refine WS.c (One.gPF rfl hg7 rfl ?_)
         refine WS.c (One.gPF rfl hg7 rfl ?_)
         refine WS.c (One.gPF rfl hg7 rfl ?_)
         refine WS.c (One.gU rfl rfl ?_)
         refine WS.c (One.gU rfl rfl ?_)
         refine WS.c (One.gU rfl rfl ?_)
         refine WS.c (One.gU rfl rfl ?_)
         refine WS.c (One.gPF rfl hg7 rfl ?_)
         refine WS.c (One.pickF rfl hg7 rfl rfl ?_)
         refine WS.mv rfl rfl ?_
         refine WS.nil ?_
         refine ⟨False, instDecidableFalse, (by repeat (first | exact SubE.nil _ | refine SubE.cons rfl ?_)), rfl, ?_, hR9, hB9.mono (by omega), by omega, hhd, hS9⟩
         first
         | exact ⟨False.elim, fun h => by obtain ⟨h1, h2, ⟨h3, h4⟩, ⟨h5, h6⟩, h7⟩ := h; omega⟩
         | exact ⟨fun _ => ⟨by omega, by omega, ⟨by omega, by omega⟩, ⟨by omega, by omega⟩, fun hw => absurd hw (by assumption)⟩, fun _ => trivial⟩
         | exact ⟨fun h => ⟨by omega, by omega, ⟨by omega, by omega⟩, ⟨by omega, by omega⟩, fun _ => h⟩, fun h => h.2.2.2.2 (Decidable.of_not_not ‹_›)⟩
       ·refine WS.c (One.gPF rfl hg6 rfl ?_)
        refine WS.c (One.gPF rfl hg6 rfl ?_)
        refine WS.c (One.gPF rfl hg6 rfl ?_)
        refine WS.c (One.pickF rfl hg6 rfl rfl ?_)
        refine WS.mv rfl rfl ?_
        refine WS.c (One.gF rfl rfl rfl ?_)
        refine WS.c (One.gF rfl rfl rfl ?_)
        refine WS.c (One.gF rfl rfl rfl ?_)
        refine WS.c (One.gF rfl rfl rfl ?_)
        refine WS.c (One.gU rfl rfl ?_)
        refine WS.c (One.gU rfl rfl ?_)
        refine WS.c (One.gU rfl rfl ?_)
        refine WS.c (One.gU rfl rfl ?_)
        refine WS.c (One.gF rfl rfl rfl ?_)
        refine WS.c (One.pick rfl rfl rfl ?_)
        refine WS.mv rfl rfl ?_
        refine WS.nil ?_
        refine ⟨False, instDecidableFalse, (by repeat (first | exact SubE.nil _ | refine SubE.cons rfl ?_)), rfl, ?_, hR9, hB9.mono (by omega), by omega, hhd, hS9⟩
        first
        | exact ⟨False.elim, fun h => by obtain ⟨h1, h2, ⟨h3, h4⟩, ⟨h5, h6⟩, h7⟩ := h; omega⟩
        | exact ⟨fun _ => ⟨by omega, by omega, ⟨by omega, by omega⟩, ⟨by omega, by omega⟩, fun hw => absurd hw (by assumption)⟩, fun _ => trivial⟩
        | exact ⟨fun h => ⟨by omega, by omega, ⟨by omega, by omega⟩, ⟨by omega, by omega⟩, fun _ => h⟩, fun h => h.2.2.2.2 (Decidable.of_not_not ‹_›)⟩
      ·refine WS.c (One.gPF rfl hg5 rfl ?_)
       refine WS.c (One.gPF rfl hg5 rfl ?_)
       refine WS.c (One.gPF rfl hg5 rfl ?_)
       refine WS.c (One.pickF rfl hg5 rfl rfl ?_)
       refine WS.mv rfl rfl ?_
       refine WS.c (One.gF rfl rfl rfl ?_)
       refine WS.c (One.gF rfl rfl rfl ?_)
       refine WS.c (One.gF rfl rfl rfl ?_)
       refine WS.c (One.pick rfl rfl rfl ?_)
       refine WS.mv rfl rfl ?_
       refine WS.c (One.gF rfl rfl rfl ?_)
       refine WS.c (One.gF rfl rfl rfl ?_)
       refine WS.c (One.gF rfl rfl rfl ?_)
       refine WS.c (One.gF rfl rfl rfl ?_)
       refine WS.c (One.gU rfl rfl ?_)
       refine WS.c (One.gU rfl rfl ?_)
       refine WS.c (One.gU rfl rfl ?_)
       refine WS.c (One.gU rfl rfl ?_)
       refine WS.c (One.gF rfl rfl rfl ?_)
       refine WS.c (One.pick rfl rfl rfl ?_)
       refine WS.mv rfl rfl ?_
       refine WS.nil ?_
       refine ⟨False, instDecidableFalse, (by repeat (first | exact SubE.nil _ | refine SubE.cons rfl ?_)), rfl, ?_, hR9, hB9.mono (by omega), by omega, hhd, hS9⟩
       first
       | exact ⟨False.elim, fun h => by obtain ⟨h1, h2, ⟨h3, h4⟩, ⟨h5, h6⟩, h7⟩ := h; omega⟩
       | exact ⟨fun _ => ⟨by omega, by omega, ⟨by omega, by omega⟩, ⟨by omega, by omega⟩, fun hw => absurd hw (by assumption)⟩, fun _ => trivial⟩
       | exact ⟨fun h => ⟨by omega, by omega, ⟨by omega, by omega⟩, ⟨by omega, by omega⟩, fun _ => h⟩, fun h => h.2.2.2.2 (Decidable.of_not_not ‹_›)⟩
     ·refine WS.c (One.gPF rfl hg4 rfl ?_)
      refine WS.c (One.gPF rfl hg4 rfl ?_)
      refine WS.c (One.pickF rfl hg4 rfl rfl ?_)
      refine WS.mv rfl rfl ?_
      refine WS.c (One.gF rfl rfl rfl ?_)
      refine WS.c (One.gF rfl rfl rfl ?_)
      refine WS.c (One.gF rfl rfl rfl ?_)
      refine WS.c (One.pick rfl rfl rfl ?_)
      refine WS.mv rfl rfl ?_
      refine WS.c (One.gF rfl rfl rfl ?_)
      refine WS.c (One.gF rfl rfl rfl ?_)
      refine WS.c (One.gF rfl rfl rfl ?_)
      refine WS.c (One.pick rfl rfl rfl ?_)
      refine WS.mv rfl rfl ?_
      refine WS.c (One.gF rfl rfl rfl ?_)
      refine WS.c (One.gF rfl rfl rfl ?_)
      refine WS.c (One.gF rfl rfl rfl ?_)
      refine WS.c (One.gF rfl rfl rfl ?_)
      refine WS.c (One.gU rfl rfl ?_)
      refine WS.c (One.gU rfl rfl ?_)
      refine WS.c (One.gU rfl rfl ?_)
      refine WS.c (One.gU rfl rfl ?_)
      refine WS.c (One.gF rfl rfl rfl ?_)
      refine WS.c (One.pick rfl rfl rfl ?_)
      refine WS.mv rfl rfl ?_
      refine WS.nil ?_
      refine ⟨False, instDecidableFalse, (by repeat (first | exact SubE.nil _ | refine SubE.cons rfl ?_)), rfl, ?_, hR9, hB9.mono (by omega), by omega, hhd, hS9⟩
      first
      | exact ⟨False.elim, fun h => by obtain ⟨h1, h2, ⟨h3, h4⟩, ⟨h5, h6⟩, h7⟩ := h; omega⟩
      | exact ⟨fun _ => ⟨by omega, by omega, ⟨by omega, by omega⟩, ⟨by omega, by omega⟩, fun hw => absurd hw (by assumption)⟩, fun _ => trivial⟩
      | exact ⟨fun h => ⟨by omega, by omega, ⟨by omega, by omega⟩, ⟨by omega, by omega⟩, fun _ => h⟩, fun h => h.2.2.2.2 (Decidable.of_not_not ‹_›)⟩
    ·obtain ⟨ok, dk, hsub, rfl, hok, hR, hB, hn, hhd, hS⟩ := hI
     refine WC.weak (env' := [(2, .pointer (some ⟨nx, 0, none⟩)), (6, .pointer (some ⟨r, 0, none⟩)), (9, .pointer (some ⟨n5, 0, none⟩)), (10, .int .u64 (mnV (al, 0) : Nat)), (11, .bool (decide ok))]) ?_ hsub (fun _ _ h => h)
     refine WC.seqR (xs := [om 12 (.v (.slice none 0 0))]) (by kernel_rfl) ?_
     refine WS.mv rfl rfl ?_
     refine WS.nil ?_
     refine WC.seqR (xs := [om 13 (.v (.slice none 0 0))]) (by kernel_rfl) ?_
     refine WS.mv rfl rfl ?_
     refine WS.nil ?_
     refine WC.seq ?_
     refine WC.block ?_
     refine WC.loop (fun m env ds H' nx' => ∃ (i : Nat) (cl : List Chg) (s : RS) (last : List UInt8) (sv lv : Value) (cells : List Value) (ok : Prop) (dk : Decidable ok) (F : Hp), m = mnV (al, 0) - i ∧ SubE [(2, .pointer (some ⟨nx, 0, none⟩)), (6, .pointer (some ⟨r, 0, none⟩)), (9, .pointer (some ⟨n5, 0, none⟩)), (10, .int .u64 (mnV (al, 0) : Nat)), (11, .bool (decide ok)), (12, sv), (13, lv)] env ∧ ds = [] ∧ (cl.length = i ∧ i ≤ 1073741823 ∧ GS H' sv i cells 68 4 n9 nx' ∧ ChV F (nx + 1) cl cells ∧ SlB F (nx + 1) lv last ∧ HSub F H' ∧ HSub (upd H nx (.cells hd0 30 0)) F ∧ F r = none ∧ F n5 = none ∧ (∀ j, isBl sv j = true → F j = none) ∧ RR H' r b s.1 s.2 ∧ H' n5 = some (.cells (hdC (al, 0) 0) 30 0) ∧ HB H' nx' ∧ n9 ≤ nx' ∧ (ok → i + s.1.length ≤ l.length ∧ rest (al, 0) = (chs (isW (al, 0)) (mnV (al, 0) - i) s last).map (fun q => (cl ++ q.1, q.2))) ∧ (¬ ok → rest (al, 0) = none))) (fun m env ds H' nx' hI => ?_) (m := mnV (al, 0)) (⟨0, [], boS (al, 0), [], .slice none 0 0, .slice none 0 0, [], ok, dk, outM H' (fun j => Nat.beq j r || Nat.beq j n5), by omega, (by repeat (first | exact SubE.nil _ | refine SubE.cons rfl ?_)), rfl, rfl, by omega, GS.nil _ _ _ _ _, rfl, SlB.nil _ _, outM_sub _ _, hS.out (fun j hj => by rw [Bool.or_eq_true] at hj; rcases hj with hj | hj <;> rw [Nat.eq_of_beq_eq_true hj] <;> exact hB1.no (by omega)), outM_no (by rw [Nat.beq_refl]; rfl), outM_no (by rw [Nat.beq_refl, Bool.or_true]), (fun j hj => by cases hj), hR, hhd, hB, hn, fun h => ⟨by have := boS_le (al, 0); simp only at this; omega, rest_ok (hok.1 h)⟩, fun h => rest_no (fun h2 => h (hok.2 h2))⟩)
     obtain ⟨i, cl, s, last, sv, lv, cells, ok, dk, F, rfl, hsub, rfl, hcl, hi, hG, hV, hLv, hF, hHF, hFr, hFh, hFG, hR, hhd, hB, hn, hok, hnok⟩ := hI
     refine WC.weak (env' := [(2, .pointer (some ⟨nx, 0, none⟩)), (6, .pointer (some ⟨r, 0, none⟩)), (9, .pointer (some ⟨n5, 0, none⟩)), (10, .int .u64 (mnV (al, 0) : Nat)), (11, .bool (decide ok)), (12, sv), (13, lv)]) ?_ hsub (fun _ _ h => h)
     obtain ⟨ga, gc, rfl⟩ := hG.shape
     refine WC.seq ?_
     refine WC.seqR (xs := [om 84 (.t 12),
       oq 85 (.p (.len (.t 84))),
       oq 86 (.p (.cvI .u64 (.t 85))),
       om 87 (.t 10),
       oq 88 (.p (.bin .lss .other false (.t 86) (.t 87))),
       om 89 (.t 88),
       ⟨(some (89, true)), (some (90, 90)), .p (.mv (.t 11))⟩,
       oq 91 (.p (.pick (.t 89) (.t 90) (.v (.bool false))))]) (by kernel_rfl) ?_
     refine WS.mv rfl rfl ?_
     refine WS.c (One.len rfl rfl ?_)
     refine WS.c (One.cvI rfl (wrap_u rfl (by show _ < 18446744073709551616; omega)) rfl ?_)
     refine WS.mv rfl rfl ?_
     refine WS.c (One.bin rfl rfl bin_lss rfl ?_)
     refine WS.mv rfl rfl ?_
     refine WS.split (t := 89) rfl (fun hg9 => ?_) (fun hg9 => ?_)
     ·refine WS.c (One.gPT rfl hg9 (One.mv rfl rfl ?_))
      refine WS.c (One.pickT rfl hg9 rfl rfl ?_)
      refine WS.nil ?_
      refine WC.cond rfl (fun hc10 => ?_) (fun hc10 => ?_)
      ·refine WC.skip ?_
       refine WC.block ?_
       refine WC.seqR (xs := [om 92 (.t 6),
         oq 93 (.call (.v (.func (.func 54) #[] #[])) [(.t 92)]),
         oq 14 (.m (.alc [(.int .i64 0), (.slice none 0 0), (.slice none 0 0), (.slice none 0 0)] 68)),
         ⟨none, none, .w (.sto 4 (.t 14) (.t 93))⟩]) (by kernel_rfl) ?_
       refine WS.mv rfl rfl ?_
       refine WS.c (One.call rfl rfl (spec54 hsm54 hsm106 hsm51 hsm105 hsm104 hsm107 hsm171 _ _ r b s hR hB) rfl ?_ (fun _ _ _ h => h.elim))
       rintro _ H2 n2 ⟨⟨v1, v2, v3, rfl, q1, q2, q3⟩, hR2, hS2, hB2, hn2⟩
       have hF2 := hF.thr hFr hS2
       have hG2 := hG.low hS2 (by omega) hn2
       have hhd2 := del_at hS2 hhd (by omega)
       obtain ⟨a1, c1, hv1, _, _⟩ := id q1
       obtain ⟨a2, c2, hv2, _, _⟩ := id q2
       obtain ⟨a3, c3, hv3, _, _⟩ := id q3
       subst hv1 hv2 hv3
       refine WS.c (One.alc rfl ?_)
       refine WS.z (One.sto (cs' := chL (chC false s) (.slice a1 (keV s).length c1) (.slice a2 (olV false s).length c2) (.slice a3 (neV false s).length c3)) rfl rfl upd_eq rfl rfl rfl rfl ?_)
       refine WS.nil ?_
       refine WC.seqR (xs := [om 94 (.t 6),
         oq 95 (.p (.nilc (.t 94))),
         oq 96 (.p (.fad (.t 95) 2)),
         oq 97 (.l (.ld none (.t 96))),
         oq 98 (.p (.bin .eql .other true (.t 97) (.v (.int .i64 0)))),
         om 99 (.t 98),
         ⟨(some (99, true)), (some (100, 100)), .l (.ld (some 4) (.t 14))⟩,
         ⟨(some (99, true)), (some (101, 101)), .p (.mv (.t 13))⟩,
         ⟨(some (99, true)), (some (102, 102)), .p (.fad (.t 9) 0)⟩,
         ⟨(some (99, true)), (some (103, 103)), .l (.ld none (.t 102))⟩,
         ⟨(some (99, true)), (some (104, 104)), .call (.v (.func (.func 55) #[] #[])) [(.t 100), (.t 101), (.t 103)]⟩,
         oq 105 (.p (.pick (.t 99) (.t 104) (.v (.bool false)))),
         om 11 (.t 105)]) (by kernel_rfl) ?_
       have hSA := HSub.new (b := n2) (o := .cells (chL (chC false s) (.slice a1 (keV s).length c1) (.slice a2 (olV false s).length c2) (.slice a3 (neV false s).length c3)) 68 0) hB2 (Nat.le_refl _) (HSub.new (b := n2) (o := .cells [.int .i64 0, .slice none 0 0, .slice none 0 0, .slice none 0 0] 68 0) hB2 (Nat.le_refl _) (HSub.refl H2))
       have hRA := hR2.mono hSA
       have hBA := (hB2.new (o := .cells [.int .i64 0, .slice none 0 0, .slice none 0 0, .slice none 0 0] 68 0)).upd (b := n2) (o := .cells (chL (chC false s) (.slice a1 (keV s).length c1) (.slice a2 (olV false s).length c2) (.slice a3 (neV false s).length c3)) 68 0) (by omega)
       obtain ⟨x0, y0, hro⟩ := hRA.obj
       refine WS.mv rfl rfl ?_
       refine WS.c (One.nilc rfl rfl ?_)
       refine WS.c (One.fad rfl rfl ?_)
       refine WS.c (One.ld rfl (ld_of hro rfl) rfl ?_)
       refine WS.c (One.bin rfl rfl bin_eql rfl ?_)
       refine WS.mv rfl rfl ?_
       refine WS.split (t := 99) rfl (fun hg11 => ?_) (fun hg11 => ?_)
       ·refine WS.c (One.gPT rfl hg11 (One.ld rfl (ld_sameA (m := 4) (Nat.le_refl 4) rfl) rfl ?_))
        refine WS.c (One.gPT rfl hg11 (One.mv rfl rfl ?_))
        refine WS.c (One.gPT rfl hg11 (One.fad rfl rfl ?_))
        refine WS.c (One.gPT rfl hg11 (One.ld rfl (ld_of (hSA _ _ hhd2) rfl) rfl ?_))
        refine WS.c (One.gPT rfl hg11 (One.call rfl rfl (spec55 hsm55 hsm57 hsm22 _ _ 0 (chC false s) last (isW (al, 0)) _ _ _ _ ((q1.mono hSA).le (Nat.zero_le _)) ((q2.mono hSA).le (Nat.zero_le _)) ((q3.mono hSA).le (Nat.zero_le _)) (((hLv.mono hF2).mono hSA).le (Nat.zero_le _)) (Nat.lt_of_le_of_lt (keV_len s) (by decide)) (olV_len s) hBA) rfl ?_ (fun _ _ _ h => h.elim)))
        rintro _ _ _ ⟨rfl, rfl, rfl⟩
        refine WS.c (One.pickT rfl hg11 rfl rfl ?_)
        refine WS.mv rfl rfl ?_
        refine WS.nil ?_
        refine WC.seqR (xs := [oq 106 (.p (.fad (.t 14) 1)),
          oq 107 (.l (.ld none (.t 106))),
          om 13 (.t 107)]) (by kernel_rfl) ?_
        refine WS.c (One.fad rfl rfl ?_)
        refine WS.c (One.ld rfl (ld_same rfl) rfl ?_)
        refine WS.mv rfl rfl ?_
        refine WS.nil ?_
        refine WC.region (xs := [om 108 (.t 12),
          oq 109 (.l (.ld (some 4) (.t 14))),
          oq 110 (.m (.sl [(.int .i64 0), (.slice none 0 0), (.slice none 0 0), (.slice none 0 0)] 68 1 [(0, 4, (.t 109))])),
          oq 111 (.w (.app 68 [(.int .i64 0), (.slice none 0 0), (.slice none 0 0), (.slice none 0 0)] false (.t 108) (.t 110))),
          om 12 (.t 111)]) (by kernel_rfl) ?_
        refine WS.mv rfl rfl ?_
        refine WS.c (One.ld rfl (ld_sameA (m := 4) (Nat.le_refl 4) rfl) rfl ?_)
        refine WS.c (One.sl (cs := chL (chC false s) (.slice a1 (keV s).length c1) (.slice a2 (olV false s).length c2) (.slice a3 (neV false s).length c3)) rfl rfl ?_)
        refine WS.c (One.appGB (m := i) (k := 1) (lo := n9) (z := [.int .i64 0, .slice none 0 0, .slice none 0 0, .slice none 0 0]) (cells := cells) (new := chL (chC false s) (.slice a1 (keV s).length c1) (.slice a2 (olV false s).length c2) (.slice a3 (neV false s).length c3)) rfl rfl (hG2.mono (HSub.new hB2 (by omega) hSA) (by omega)) (by omega) (newE_blk upd_eq rfl (by decide)) rfl (by omega) rfl (by omega) rfl ?_)
        intro H3 hg' hlow hoth hb3
        refine WS.mv rfl rfl ?_
        refine WS.nil ?_
        obtain ⟨F2, hF2e⟩ : ∃ F2, F2 = outM H2 (fun j => Nat.beq j r || Nat.beq j n5 || isBl (.slice ga i gc) j) := ⟨_, rfl⟩
        have hOut : ∀ j, nx' ≤ j → (Nat.beq j r || Nat.beq j n5 || isBl (.slice ga i gc) j) = false := by
         intro j hj
         rw [show Nat.beq j r = false from nbeq (by omega), show Nat.beq j n5 = false from nbeq (by omega), Bool.false_or, Bool.false_or]
         cases hbl : isBl (.slice ga i gc) j with
         | false => rfl
         | true => have := (hG.blk hbl).2; omega
        have hFF2 : HSub F F2 := by
         rw [hF2e]
         refine hF2.out fun j hj => ?_
         rw [Bool.or_eq_true, Bool.or_eq_true] at hj
         rcases hj with (hj | hj) | hj
         ·rw [Nat.eq_of_beq_eq_true hj]; exact hFr
         ·rw [Nat.eq_of_beq_eq_true hj]; exact hFh
         ·exact hFG j hj
        have hF2H : HSub F2 H2 := by rw [hF2e]; exact outM_sub _ _
        have hF2a : ∀ j o, nx' ≤ j → H2 j = some o → F2 j = some o := fun j o hj ho => by rw [hF2e, outM_at (hOut j hj)]; exact ho
        have hF2b : ∀ j, isBl (.slice ga i gc) j = true → F2 j = none := fun j hj => by rw [hF2e]; exact outM_no (by rw [hj, Bool.or_true])
        have hHB2 : HB F2 n2 := HB.sub hF2H hB2
        refine ⟨_, ?_, i + 1, cl ++ [chC false s], neS false s, keV s, _, _, cells ++ chL (chC false s) (.slice a1 (keV s).length c1) (.slice a2 (olV false s).length c2) (.slice a3 (neV false s).length c3), _, _, F2, rfl, (by repeat (first | exact SubE.nil _ | refine SubE.cons rfl ?_)), rfl, by rw [List.length_append, hcl]; rfl, by have := (hok hc10).1; omega, hg', (hV.mono hFF2).snoc ((q1.fr hF2a).le (by omega)) ((q2.fr hF2a).le (by omega)) ((q3.fr hF2a).le (by omega)), (q1.fr hF2a).le (by omega), ?_, hHF.trans hFF2, by rw [hF2e]; exact outM_no (by rw [Nat.beq_refl]; rfl), by rw [hF2e]; exact outM_no (by rw [Nat.beq_refl, Bool.or_true]; rfl), ?_, ?_, ?_, hb3 (hBA.mono (by omega)).new, by omega, ?_, ?_⟩
        ·omega
        ·intro j o ho
         refine hoth j o ((HSub.new hB2 (by omega) hSA) j o (hF2H j o ho)) (by have := hHB2 j o ho; omega) ?_
         cases hbl : isBl (.slice ga i gc) j with
         | false => rfl
         | true => rw [hF2b j hbl] at ho; cases ho
        ·intro j hj
         obtain ⟨o', m', c', hj'⟩ := isBl_iff hj
         injection hj' with hj'
         injection hj' with hj'
         injection hj' with hj'
         rw [← hj']
         exact hHB2.no (by omega)
        ·exact RR.fr (hR2.mono (HSub.new hB2 (by omega) hSA)) fun j o ho hj => hlow j o ho (by omega)
        ·exact hlow _ _ ((HSub.new hB2 (by omega) hSA) _ _ hhd2) (by omega)
        ·intro hci
         obtain ⟨hle, hrest⟩ := hok hc10
         have hz : (neS false s).2 = 0 := by omega
         refine ⟨by have := neS_lt hz; omega, ?_⟩
         rw [hrest, show mnV (al, 0) - i = (mnV (al, 0) - (i + 1)) + 1 by omega, chs_step hz hci, map_app]
        ·intro hci
         obtain ⟨_, hrest⟩ := hok hc10
         rw [hrest, show mnV (al, 0) - i = (mnV (al, 0) - (i + 1)) + 1 by omega, chs_bad (fun h => hci h.2)]; rfl
       ·refine WS.c (One.gPF rfl hg11 rfl ?_)
        refine WS.c (One.gPF rfl hg11 rfl ?_)
        refine WS.c (One.gPF rfl hg11 rfl ?_)
        refine WS.c (One.gPF rfl hg11 rfl ?_)
        refine WS.c (One.gPF rfl hg11 rfl ?_)
        refine WS.c (One.pickF rfl hg11 rfl rfl ?_)
        refine WS.mv rfl rfl ?_
        refine WS.nil ?_
        refine WC.seqR (xs := [oq 106 (.p (.fad (.t 14) 1)),
          oq 107 (.l (.ld none (.t 106))),
          om 13 (.t 107)]) (by kernel_rfl) ?_
        refine WS.c (One.fad rfl rfl ?_)
        refine WS.c (One.ld rfl (ld_same rfl) rfl ?_)
        refine WS.mv rfl rfl ?_
        refine WS.nil ?_
        refine WC.region (xs := [om 108 (.t 12),
          oq 109 (.l (.ld (some 4) (.t 14))),
          oq 110 (.m (.sl [(.int .i64 0), (.slice none 0 0), (.slice none 0 0), (.slice none 0 0)] 68 1 [(0, 4, (.t 109))])),
          oq 111 (.w (.app 68 [(.int .i64 0), (.slice none 0 0), (.slice none 0 0), (.slice none 0 0)] false (.t 108) (.t 110))),
          om 12 (.t 111)]) (by kernel_rfl) ?_
        refine WS.mv rfl rfl ?_
        refine WS.c (One.ld rfl (ld_sameA (m := 4) (Nat.le_refl 4) rfl) rfl ?_)
        refine WS.c (One.sl (cs := chL (chC false s) (.slice a1 (keV s).length c1) (.slice a2 (olV false s).length c2) (.slice a3 (neV false s).length c3)) rfl rfl ?_)
        refine WS.c (One.appGB (m := i) (k := 1) (lo := n9) (z := [.int .i64 0, .slice none 0 0, .slice none 0 0, .slice none 0 0]) (cells := cells) (new := chL (chC false s) (.slice a1 (keV s).length c1) (.slice a2 (olV false s).length c2) (.slice a3 (neV false s).length c3)) rfl rfl (hG2.mono (HSub.new hB2 (by omega) hSA) (by omega)) (by omega) (newE_blk upd_eq rfl (by decide)) rfl (by omega) rfl (by omega) rfl ?_)
        intro H3 hg' hlow hoth hb3
        refine WS.mv rfl rfl ?_
        refine WS.nil ?_
        obtain ⟨F2, hF2e⟩ : ∃ F2, F2 = outM H2 (fun j => Nat.beq j r || Nat.beq j n5 || isBl (.slice ga i gc) j) := ⟨_, rfl⟩
        have hOut : ∀ j, nx' ≤ j → (Nat.beq j r || Nat.beq j n5 || isBl (.slice ga i gc) j) = false := by
         intro j hj
         rw [show Nat.beq j r = false from nbeq (by omega), show Nat.beq j n5 = false from nbeq (by omega), Bool.false_or, Bool.false_or]
         cases hbl : isBl (.slice ga i gc) j with
         | false => rfl
         | true => have := (hG.blk hbl).2; omega
        have hFF2 : HSub F F2 := by
         rw [hF2e]
         refine hF2.out fun j hj => ?_
         rw [Bool.or_eq_true, Bool.or_eq_true] at hj
         rcases hj with (hj | hj) | hj
         ·rw [Nat.eq_of_beq_eq_true hj]; exact hFr
         ·rw [Nat.eq_of_beq_eq_true hj]; exact hFh
         ·exact hFG j hj
        have hF2H : HSub F2 H2 := by rw [hF2e]; exact outM_sub _ _
        have hF2a : ∀ j o, nx' ≤ j → H2 j = some o → F2 j = some o := fun j o hj ho => by rw [hF2e, outM_at (hOut j hj)]; exact ho
        have hF2b : ∀ j, isBl (.slice ga i gc) j = true → F2 j = none := fun j hj => by rw [hF2e]; exact outM_no (by rw [hj, Bool.or_true])
        have hHB2 : HB F2 n2 := HB.sub hF2H hB2
        refine ⟨_, ?_, i + 1, cl ++ [chC false s], neS false s, keV s, _, _, cells ++ chL (chC false s) (.slice a1 (keV s).length c1) (.slice a2 (olV false s).length c2) (.slice a3 (neV false s).length c3), False, instDecidableFalse, F2, rfl, (by repeat (first | exact SubE.nil _ | refine SubE.cons rfl ?_)), rfl, by rw [List.length_append, hcl]; rfl, by have := (hok hc10).1; omega, hg', (hV.mono hFF2).snoc ((q1.fr hF2a).le (by omega)) ((q2.fr hF2a).le (by omega)) ((q3.fr hF2a).le (by omega)), (q1.fr hF2a).le (by omega), ?_, hHF.trans hFF2, by rw [hF2e]; exact outM_no (by rw [Nat.beq_refl]; rfl), by rw [hF2e]; exact outM_no (by rw [Nat.beq_refl, Bool.or_true]; rfl), ?_, ?_, ?_, hb3 (hBA.mono (by omega)).new, by omega, ?_, ?_⟩
        ·omega
        ·intro j o ho
         refine hoth j o ((HSub.new hB2 (by omega) hSA) j o (hF2H j o ho)) (by have := hHB2 j o ho; omega) ?_
         cases hbl : isBl (.slice ga i gc) j with
         | false => rfl
         | true => rw [hF2b j hbl] at ho; cases ho
        ·intro j hj
         obtain ⟨o', m', c', hj'⟩ := isBl_iff hj
         injection hj' with hj'
         injection hj' with hj'
         injection hj' with hj'
         rw [← hj']
         exact hHB2.no (by omega)
        ·exact RR.fr (hR2.mono (HSub.new hB2 (by omega) hSA)) fun j o ho hj => hlow j o ho (by omega)
        ·exact hlow _ _ ((HSub.new hB2 (by omega) hSA) _ _ hhd2) (by omega)
        ·exact False.elim
        ·intro _
         obtain ⟨_, hrest⟩ := hok hc10
         rw [hrest, show mnV (al, 0) - i = (mnV (al, 0) - (i + 1)) + 1 by omega, chs_bad (fun h => hg11 (by have := h.1; omega))]; rfl
      ·refine WC.exit ?_
       refine WC.seq ?_
       refine WC.seqR (xs := [om 112 (.t 11),
         oq 113 (.p (.not (.t 112))),
         om 114 (.t 113),
         ⟨(some (114, false)), (some (115, 115)), .p (.mv (.t 6))⟩,
         ⟨(some (114, false)), (some (116, 116)), .call (.v (.func (.func 56) #[] #[])) [(.t 115)]⟩,
         ⟨(some (114, false)), (some (117, 117)), .p (.bin .neq .other true (.t 116) (.v (.int .i64 0)))⟩,
         oq 118 (.p (.pick (.t 114) (.v (.bool true)) (.t 117)))]) (by kernel_rfl) ?_
       refine WS.mv rfl rfl ?_
       refine WS.c (One.not rfl rfl ?_)
       refine WS.mv rfl rfl ?_
       refine WS.split (t := 114) rfl (fun hg12 => ?_) (fun hg12 => ?_)
       ·refine WS.c (One.gNF rfl hg12 rfl ?_)
        refine WS.c (One.gNF rfl hg12 rfl ?_)
        refine WS.c (One.gNF rfl hg12 rfl ?_)
        refine WS.c (One.pickT rfl hg12 rfl rfl ?_)
        refine WS.nil ?_
        refine WC.condB rfl (fun _ => ?_) (fun h => nomatch h)
        refine WC.seqR (xs := [oq 119 (.p (.bld [] [(.bool false), (.int .i64 0), (.int .i64 0), (.int .u32 0), (.int .i64 0), (.int .i64 0), (.int .u32 0), (.int .i64 0)])),
          ⟨none, none, .w (.sto 8 (.t 2) (.t 119))⟩,
          om 3 (.v (.slice none 0 0)),
          om 4 (.v (.int .i64 5))]) (by kernel_rfl) ?_
        refine WS.c (One.bld rfl rfl ?_)
        refine WS.z (One.sto (cs' := hd0) rfl rfl (hF _ _ (hHF _ _ upd_eq)) rfl rfl rfl rfl ?_)
        refine WS.mv rfl rfl ?_
        refine WS.mv rfl rfl ?_
        refine WS.nil ?_
        refine WC.ret ?_
        have hSf := (hS1.trans hHF).trans hF
        refine EndOk.now rfl (resE_cell rfl (by kernel_rfl) (ld_sameA (m := 8) (Nat.le_refl 8) rfl) rfl) ⟨_, _, 5, rfl, Rd.err ?_, HSub.new hH (Nat.le_refl _) hSf, hB.upd (by omega), by omega⟩
        exact parse_no (by omega) (by omega) (by rw [← hal]; exact Decidable.of_not_not hc3) (by rw [← hal]; exact hnok hc10)
       ·refine WS.c (One.gNT rfl hg12 (One.mv rfl rfl ?_))
        refine WS.c (One.gNT rfl hg12 (One.call rfl rfl (spec56 hsm56 hsm107 _ _ r b s.2 s.1 hR) rfl ?_ (fun _ _ _ h => h.elim)))
        rintro _ _ _ ⟨rfl, rfl, rfl⟩
        refine WS.c (One.gNT rfl hg12 (One.bin rfl rfl bin_neq rfl ?_))
        refine WS.c (One.pickF rfl hg12 rfl rfl ?_)
        refine WS.nil ?_
        refine WC.cond rfl (fun hc14 => ?_) (fun hc14 => ?_)
        ·refine WC.seqR (xs := [oq 119 (.p (.bld [] [(.bool false), (.int .i64 0), (.int .i64 0), (.int .u32 0), (.int .i64 0), (.int .i64 0), (.int .u32 0), (.int .i64 0)])),
           ⟨none, none, .w (.sto 8 (.t 2) (.t 119))⟩,
           om 3 (.v (.slice none 0 0)),
           om 4 (.v (.int .i64 5))]) (by kernel_rfl) ?_
         refine WS.c (One.bld rfl rfl ?_)
         refine WS.z (One.sto (cs' := hd0) rfl rfl (hF _ _ (hHF _ _ upd_eq)) rfl rfl rfl rfl ?_)
         refine WS.mv rfl rfl ?_
         refine WS.mv rfl rfl ?_
         refine WS.nil ?_
         refine WC.ret ?_
         exact absurd hc10 hg12
        ·refine WC.skip ?_
         refine WC.seqR (xs := [om 120 (.t 12),
           oq 121 (.p (.len (.t 120))),
           oq 122 (.p (.fad (.t 9) 7)),
           ⟨none, none, .w (.sto 1 (.t 122) (.t 121))⟩]) (by kernel_rfl) ?_
         refine WS.mv rfl rfl ?_
         refine WS.c (One.len rfl rfl ?_)
         refine WS.c (One.fad rfl rfl ?_)
         refine WS.z (One.sto (cs' := hdC (al, 0) i) rfl rfl hhd rfl rfl rfl rfl ?_)
         refine WS.nil ?_
         refine WC.seqR (xs := [oq 123 (.l (.ld (some 8) (.t 9))),
           om 124 (.t 12),
           ⟨none, none, .w (.sto 8 (.t 2) (.t 123))⟩,
           om 3 (.t 124),
           om 4 (.v (.int .i64 0))]) (by kernel_rfl) ?_
         refine WS.c (One.ld rfl (ld_sameA (m := 8) (l := hdC (al, 0) i) (by simp [hdC, mkC]) rfl) rfl ?_)
         refine WS.mv rfl rfl ?_
         refine WS.z (One.sto (cs' := hdC (al, 0) i) rfl rfl ((upd_ne (by omega)).trans (hF _ _ (hHF _ _ upd_eq))) rfl rfl rfl rfl ?_)
         refine WS.mv rfl rfl ?_
         refine WS.mv rfl rfl ?_
         refine WS.nil ?_
         refine WC.ret ?_
         exact absurd hc10 hg12
     ·refine WS.c (One.gPF rfl hg9 rfl ?_)
      refine WS.c (One.pickF rfl hg9 rfl rfl ?_)
      refine WS.nil ?_
      refine WC.condB rfl (fun h => nomatch h) (fun _ => ?_)
      refine WC.exit ?_
      refine WC.seq ?_
      refine WC.seqR (xs := [om 112 (.t 11),
        oq 113 (.p (.not (.t 112))),
        om 114 (.t 113),
        ⟨(some (114, false)), (some (115, 115)), .p (.mv (.t 6))⟩,
        ⟨(some (114, false)), (some (116, 116)), .call (.v (.func (.func 56) #[] #[])) [(.t 115)]⟩,
        ⟨(some (114, false)), (some (117, 117)), .p (.bin .neq .other true (.t 116) (.v (.int .i64 0)))⟩,
        oq 118 (.p (.pick (.t 114) (.v (.bool true)) (.t 117)))]) (by kernel_rfl) ?_
      refine WS.mv rfl rfl ?_
      refine WS.c (One.not rfl rfl ?_)
      refine WS.mv rfl rfl ?_
      refine WS.split (t := 114) rfl (fun hg16 => ?_) (fun hg16 => ?_)
      ·refine WS.c (One.gNF rfl hg16 rfl ?_)
       refine WS.c (One.gNF rfl hg16 rfl ?_)
       refine WS.c (One.gNF rfl hg16 rfl ?_)
       refine WS.c (One.pickT rfl hg16 rfl rfl ?_)
       refine WS.nil ?_
       refine WC.condB rfl (fun _ => ?_) (fun h => nomatch h)
       refine WC.seqR (xs := [oq 119 (.p (.bld [] [(.bool false), (.int .i64 0), (.int .i64 0), (.int .u32 0), (.int .i64 0), (.int .i64 0), (.int .u32 0), (.int .i64 0)])),
         ⟨none, none, .w (.sto 8 (.t 2) (.t 119))⟩,
         om 3 (.v (.slice none 0 0)),
         om 4 (.v (.int .i64 5))]) (by kernel_rfl) ?_
       refine WS.c (One.bld rfl rfl ?_)
       refine WS.z (One.sto (cs' := hd0) rfl rfl (hF _ _ (hHF _ _ upd_eq)) rfl rfl rfl rfl ?_)
       refine WS.mv rfl rfl ?_
       refine WS.mv rfl rfl ?_
       refine WS.nil ?_
       refine WC.ret ?_
       have hSf := (hS1.trans hHF).trans hF
       refine EndOk.now rfl (resE_cell rfl (by kernel_rfl) (ld_sameA (m := 8) (Nat.le_refl 8) rfl) rfl) ⟨_, _, 5, rfl, Rd.err ?_, HSub.new hH (Nat.le_refl _) hSf, hB.upd (by omega), by omega⟩
       exact parse_no (by omega) (by omega) (by rw [← hal]; exact Decidable.of_not_not hc3) (by rw [← hal]; exact hnok hg16)
      ·refine WS.c (One.gNT rfl hg16 (One.mv rfl rfl ?_))
       refine WS.c (One.gNT rfl hg16 (One.call rfl rfl (spec56 hsm56 hsm107 _ _ r b s.2 s.1 hR) rfl ?_ (fun _ _ _ h => h.elim)))
       rintro _ _ _ ⟨rfl, rfl, rfl⟩
       refine WS.c (One.gNT rfl hg16 (One.bin rfl rfl bin_neq rfl ?_))
       refine WS.c (One.pickF rfl hg16 rfl rfl ?_)
       refine WS.nil ?_
       refine WC.cond rfl (fun hc18 => ?_) (fun hc18 => ?_)
       ·refine WC.seqR (xs := [oq 119 (.p (.bld [] [(.bool false), (.int .i64 0), (.int .i64 0), (.int .u32 0), (.int .i64 0), (.int .i64 0), (.int .u32 0), (.int .i64 0)])),
          ⟨none, none, .w (.sto 8 (.t 2) (.t 119))⟩,
          om 3 (.v (.slice none 0 0)),
          om 4 (.v (.int .i64 5))]) (by kernel_rfl) ?_
        refine WS.c (One.bld rfl rfl ?_)
        refine WS.z (One.sto (cs' := hd0) rfl rfl (hF _ _ (hHF _ _ upd_eq)) rfl rfl rfl rfl ?_)
        refine WS.mv rfl rfl ?_
        refine WS.mv rfl rfl ?_
        refine WS.nil ?_
        refine WC.ret ?_
        have hokk := Decidable.of_not_not hg16
        have hr0 := (hok hokk).2
        rw [show mnV (al, 0) - i = 0 by omega] at hr0
        have hr1 : rest (al, 0) = some (cl, s) := hr0.trans (by show some (cl ++ [], s) = _; rw [List.append_nil])
        have hSf := (hS1.trans hHF).trans hF
        refine EndOk.now rfl (resE_cell rfl (by kernel_rfl) (ld_sameA (m := 8) (Nat.le_refl 8) rfl) rfl) ⟨_, _, 5, rfl, Rd.err ?_, HSub.new hH (Nat.le_refl _) hSf, hB.upd (by omega), by omega⟩
        exact parse_end (by omega) (by omega) (by rw [← hal]; exact Decidable.of_not_not hc3) (by rw [← hal]; exact hr1) (by rintro ⟨h1, h2⟩; apply hc18; rw [if_pos h2, if_pos h1]; rfl)
       ·refine WC.skip ?_
        refine WC.seqR (xs := [om 120 (.t 12),
          oq 121 (.p (.len (.t 120))),
          oq 122 (.p (.fad (.t 9) 7)),
          ⟨none, none, .w (.sto 1 (.t 122) (.t 121))⟩]) (by kernel_rfl) ?_
        refine WS.mv rfl rfl ?_
        refine WS.c (One.len rfl rfl ?_)
        refine WS.c (One.fad rfl rfl ?_)
        refine WS.z (One.sto (cs' := hdC (al, 0) i) rfl rfl hhd rfl rfl rfl rfl ?_)
        refine WS.nil ?_
        refine WC.seqR (xs := [oq 123 (.l (.ld (some 8) (.t 9))),
          om 124 (.t 12),
          ⟨none, none, .w (.sto 8 (.t 2) (.t 123))⟩,
          om 3 (.t 124),
          om 4 (.v (.int .i64 0))]) (by kernel_rfl) ?_
        refine WS.c (One.ld rfl (ld_sameA (m := 8) (l := hdC (al, 0) i) (by simp [hdC, mkC]) rfl) rfl ?_)
        refine WS.mv rfl rfl ?_
        refine WS.z (One.sto (cs' := hdC (al, 0) i) rfl rfl ((upd_ne (by omega)).trans (hF _ _ (hHF _ _ upd_eq))) rfl rfl rfl rfl ?_)
        refine WS.mv rfl rfl ?_
        refine WS.mv rfl rfl ?_
        refine WS.nil ?_
        refine WC.ret ?_
        have hSf := (hS1.trans hHF).trans hF
        have hokk := Decidable.of_not_not hg16
        have hr0 := (hok hokk).2
        rw [show mnV (al, 0) - i = 0 by omega] at hr0
        have hr1 : rest (al, 0) = some (cl, s) := hr0.trans (by show some (cl ++ [], s) = _; rw [List.append_nil])
        have he : s.1 = [] ∧ s.2 = 0 := by
         by_cases h2 : s.2 = 0
         ·by_cases h1 : s.1 = []
          ·exact ⟨h1, h2⟩
          ·rw [if_pos h2, if_neg h1] at hc18; exact absurd (by decide) hc18
         ·rw [if_neg h2] at hc18; exact absurd (by omega) hc18
        have hpar : parse l = .ok (hdC (al, 0) i, cl) := by
         rw [← hcl, hal]
         exact parse_ok (by omega) (by omega) (by rw [← hal]; exact Decidable.of_not_not hc3) (by rw [← hal]; exact hr1) he.1 he.2
        exact EndOk.now rfl (resE_cell rfl (by kernel_rfl) (ld_sameA (m := 8) (l := hdC (al, 0) i) (by simp [hdC, mkC]) rfl) rfl) ⟨_, _, 0, rfl, Rd.ok hpar ⟨cells, by rw [hcl]; exact ((hG.updLo (.inl (by omega)) (Nat.le_refl _)).updLo (.inl (by omega)) (Nat.le_refl _)).le (by omega), hV.fr (fun j o hj ho => by rw [upd_ne (by omega), upd_ne (by intro h; rw [h, hFh] at ho; cases ho)]; exact hF _ _ ho)⟩, HSub.new hH (Nat.le_refl _) (HSub.new hH (by omega) hSf), (hB.upd (by omega)).upd (by omega), by omega⟩
end Go.Proofs
