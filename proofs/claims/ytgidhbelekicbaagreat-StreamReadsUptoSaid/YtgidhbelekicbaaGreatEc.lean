/-
  Part of the proof of StreamReadsUptoSaid: Operations that read and make.
-/
import Derived.Test.YtgidhbelekicbaaGreatEb
import Derived.Lib.Bytealg
set_option linter.unusedVariables false
section
namespace Go.Eng
theorem lowCap_big {c : Nat} (h : big ≤ c) : lowCap c = (c - big) % qq := by
 unfold lowCap
 rw [natBle, decide_eq_true h, cond_true]
theorem lowCap_small {c : Nat} (h : c < big) : lowCap c = c := by
 unfold lowCap
 rw [natBle, decide_eq_false (by omega), cond_false]
theorem mod_sub (a l q : Nat) (hq : 0 < q) (hl : l ≤ a % q) : (a - l) % q = a % q - l ∧ (a - l) / q = a / q := by
 have e := Nat.div_add_mod a q
 have hlt := Nat.mod_lt a hq
 have h3 : a % q - l < q := Nat.lt_of_le_of_lt (Nat.sub_le _ _) hlt
 have e2 : a - l = q * (a / q) + (a % q - l) := by omega
 generalize a % q - l = r at h3 e2
 rw [e2]
 exact ⟨by rw [Nat.mul_add_mod, Nat.mod_eq_of_lt h3], by rw [Nat.mul_add_div hq, Nat.div_eq_of_lt h3, Nat.add_zero]⟩
theorem qq_pos : 0 < qq := by decide
theorem cap_sub {c l : Nat} (h : big ≤ c) (hl : l ≤ lowCap c) : big ≤ c - l ∧ lowCap (c - l) = lowCap c - l ∧ esCap (c - l) = esCap c := by
 rw [lowCap_big h] at hl
 have hle := Nat.mod_le (c - big) qq
 have h1 : big ≤ c - l := by omega
 obtain ⟨a, b⟩ := mod_sub (c - big) l qq qq_pos hl
 have e : c - l - big = c - big - l := by omega
 refine ⟨h1, ?_, ?_⟩
 ·rw [lowCap_big h1, lowCap_big h, e]; exact a
 ·unfold esCap; rw [e]; exact b
theorem natBelow_spec {i : Int} {y m : Nat} (h : natBelow i y = some m) : i = .ofNat m ∧ m ≤ y := by
 unfold natBelow at h
 split at h
 ·rename_i k
  rw [natBle] at h
  by_cases hk : k ≤ y
  ·rw [decide_eq_true hk, cond_true] at h; injection h with h; subst h; exact ⟨rfl, hk⟩
  ·rw [decide_eq_false hk] at h; cases h
 ·cases h
section
variable {P : Program} {E : Env} {μ : Mu} {tm : Tr Value} {n : Nat} {tmps : Array Value}
theorem sliceBound_ok {x : Value} {k : IntKind} {m y y' : Nat} (hx : x = .int k (.ofNat m)) (hm : m ≤ y) (hy : y ≤ y') (code : BoundsCode) (w : World) :
  (Instr.sliceBound x y' code).run P w = .ok m w := by
 subst hx
 have : (0 : Int) ≤ Int.ofNat m ∧ (Int.ofNat m) ≤ (y' : Int) := by simp; omega
 simp only [Instr.sliceBound, asIntOf, Sem.run_bind, Sem.run_pure, Result.andThen_ok, Sem.run_ite]
 rw [if_pos this]
 rfl
theorem bounds_ok (ht : TR μ tm n tmps) {len c c' : Nat} {lo hi mx : Option Operand} {m h l : Nat} (isSlice : Bool) (hc : (c < big ∧ c' = c) ∨ (big ≤ c ∧ lowCap c ≤ c'))
  (hm : capM tm c (rpO mx) = some m) (hh : boundV tm (lowCap m) (rpO hi) len = some h) (hl : boundV tm h (rpO lo) 0 = some l) (h3 : (mx.isSome && hi.isNone) = false) (w : World) :
  ∃ m', (Instr.sliceBounds isSlice len c' (lo.map (rho tmps)) (hi.map (rho tmps)) (mx.map (rho tmps))).run P w = .ok (l, h, m') w ∧ ((m < big ∧ m' = m) ∨ (big ≤ m ∧ m = c ∧ m' = c')) ∧ (lo.isSome = true → l ≤ h) ∧ (hi.isSome = true → h ≤ lowCap m) ∧ (lo.isSome = false → l = 0) ∧ (hi.isSome = false → h = len) := by
 have hmx : ∃ m', (match mx.map (rho tmps) with
   | some v => Instr.sliceBound v c' (if isSlice then .slice3Acap else .slice3Alen)
   | none => pure c').run P w = .ok m' w ∧ ((m < big ∧ m' = m) ∨ (big ≤ m ∧ m = c ∧ m' = c')) := by
  cases mx with
  | none =>
   injection hm with hm; subst hm
   exact ⟨c', rfl, by rcases hc with ⟨a, b⟩ | ⟨a, b⟩ <;> omega⟩
  | some x =>
   simp only [rpO, capM] at hm
   split at hm
   case h_2 => cases hm
   rename_i k i hx
   split at hm
   case h_2 => cases hm
   rename_i mm hb
   obtain ⟨rfl, hle⟩ := natBelow_spec hb
   rw [natBle] at hm
   by_cases hbig : big ≤ mm
   ·rw [decide_eq_true hbig] at hm; cases hm
   rw [decide_eq_false hbig, cond_false] at hm
   injection hm with hm; subst hm
   have hv := rp_rel ht hx
   generalize hrc : rho tmps x = rc at hv
   cases hv
   refine ⟨mm, ?_, .inl ⟨by omega, rfl⟩⟩
   simp only [Option.map_some, hrc]
   refine sliceBound_ok rfl hle ?_ _ w
   rcases hc with ⟨a, b⟩ | ⟨a, b⟩
   ·rw [lowCap_small a]; omega
   ·exact b
 obtain ⟨m', hm1, hm2⟩ := hmx
 have hlm : lowCap m ≤ m' := by
  rcases hm2 with ⟨a, b⟩ | ⟨a, b, d⟩
  ·rw [lowCap_small a]; omega
  ·subst b; rcases hc with ⟨e, f⟩ | ⟨e, f⟩ <;> omega
 have hhi : (match hi.map (rho tmps), mx.map (rho tmps) with
   | some v, some _ => Instr.sliceBound v m' .slice3B
   | some v, none => Instr.sliceBound v m' (if isSlice then .sliceAcap else .sliceAlen)
   | none, none => pure len
   | none, some _ => stuck "Slice: max without high").run P w = .ok h w ∧ (hi.isSome = true → h ≤ lowCap m) ∧ (hi.isSome = false → h = len) := by
  cases hi with
  | none =>
   injection hh with hh; subst hh
   cases mx with
   | none => exact ⟨rfl, (fun h => by cases h), fun _ => rfl⟩
   | some x => cases h3
  | some x =>
   simp only [rpO, boundV] at hh
   split at hh
   case h_2 => cases hh
   rename_i k i hx
   obtain ⟨rfl, hle⟩ := natBelow_spec hh
   have hv := rp_rel ht hx
   generalize hrc : rho tmps x = rc at hv
   cases hv
   refine ⟨?_, fun _ => hle, fun h => by cases h⟩
   simp only [Option.map_some, hrc]
   cases mx with
   | none => exact sliceBound_ok rfl hle hlm _ w
   | some y => exact sliceBound_ok rfl hle hlm _ w
 obtain ⟨hh1, hh2, hh3⟩ := hhi
 have hlo : (match lo.map (rho tmps) with
   | some v => Instr.sliceBound v h (if (mx.map (rho tmps)).isSome then .slice3C else .sliceB)
   | none => pure 0).run P w = .ok l w ∧ (lo.isSome = true → l ≤ h) ∧ (lo.isSome = false → l = 0) := by
  cases lo with
  | none =>
   injection hl with hl; subst hl
   exact ⟨rfl, (fun h => by cases h), fun _ => rfl⟩
  | some x =>
   simp only [rpO, boundV] at hl
   split at hl
   case h_2 => cases hl
   rename_i k i hx
   obtain ⟨rfl, hle⟩ := natBelow_spec hl
   have hv := rp_rel ht hx
   generalize hrc : rho tmps x = rc at hv
   cases hv
   refine ⟨?_, fun _ => hle, fun h => by cases h⟩
   simp only [Option.map_some, hrc]
   exact sliceBound_ok rfl hle (Nat.le_refl _) _ w
 obtain ⟨hl1, hl2, hl3⟩ := hlo
 refine ⟨m', ?_, hm2, hl2, hh2, hl3, hh3⟩
 unfold Instr.sliceBounds
 cases mx <;> cases hi <;> cases lo <;> simp only [Option.map_none, Option.map_some, Option.isSome_none, Option.isSome_some, Sem.run_pure] at hm1 hh1 hl1 ⊢ <;>
  first
   | (cases h3; done)
   | (simp only [Sem.run_bind, Sem.run_pure, Result.andThen_ok, hm1, hh1, hl1]; done)
   | (simp [hm1, hh1]; done)
   | (simp_all; done)
end
end Go.Eng
end
section
namespace Go.Eng
section
variable {P : Program} {E : Env} {μ : Mu} {tm : Tr Value} {n : Nat} {tmps : Array Value}
theorem add_at (b o k : Nat) : (⟨b, o, none⟩ : Addr).add k = ⟨b, o + k, none⟩ := by
 unfold Addr.add
 split
 ·rename_i h; simp [h]
 ·rfl
theorem cut_val {id i c c' sz : Nat} {g : Img} (hg : μ id = some g) (hc : CapOk g i c c') {m m' h l : Nat} {v : Value}
  (hm2 : (m < big ∧ m' = m) ∨ (big ≤ m ∧ m = c ∧ m' = c')) (hlh : l ≤ h) (hhm : h ≤ lowCap m) (hes : big ≤ m → esCap m = sz)
  (hv : (bif Nat.beq m l then some (Value.slice (some ⟨id, i, none⟩) (h - l) (m - l)) else some (.slice (some (addA ⟨id, i, none⟩ (Nat.mul l sz))) (h - l) (m - l))) = some v) :
  VR μ v (.slice (some (if m' = l then (⟨g.blk, g.off + i, none⟩ : Addr) else (⟨g.blk, g.off + i, none⟩ : Addr).add (l * sz))) (h - l) (m' - l)) := by
 rw [natBeq] at hv
 have hadd : addA ⟨id, i, none⟩ (Nat.mul l sz) = ⟨id, i + l * sz, none⟩ := rfl
 rw [hadd] at hv
 rcases hm2 with ⟨h1, h2⟩ | ⟨h1, h2, h3⟩
 ·subst h2
  by_cases e : m' = l
  ·rw [decide_eq_true e, cond_true] at hv
   injection hv with hv; subst hv
   rw [if_pos e]
   exact .sl id i _ _ _ g hg (.inl ⟨by omega, rfl⟩)
  ·rw [decide_eq_false e, cond_false] at hv
   injection hv with hv; subst hv
   rw [if_neg e, add_at, Nat.add_assoc]
   exact .sl id (i + l * sz) _ _ _ g hg (.inl ⟨by omega, rfl⟩)
 ·subst h2; subst h3
  rcases hc with ⟨h4, _⟩ | ⟨_, h5, h6⟩
  ·omega
  ·have hl : l ≤ lowCap m := by omega
   obtain ⟨a1, a2, a3⟩ := cap_sub h1 hl
   have hne : m ≠ l := fun e => by rw [e] at a1; simp at a1; exact absurd a1 (by decide)
   rw [decide_eq_false hne, cond_false] at hv
   injection hv with hv; subst hv
   by_cases e : m' = l
   ·rw [if_pos e]
    have h8 : h - l = 0 ∨ l = 0 := by omega
    have h9 : m' - l = 0 := by omega
    rw [h9]
    rcases h8 with h8 | h8
    ·rw [h8]; exact .slE _ _ _ (by omega)
    ·subst h8
     have : m' = 0 := by omega
     subst this
     simp only [Nat.zero_mul, Nat.add_zero, Nat.sub_zero]
     exact .sl id i _ _ _ g hg (.inr ⟨h1, h5, h6⟩)
   ·rw [if_neg e, add_at, Nat.add_assoc]
    refine .sl id (i + l * sz) _ _ _ g hg (.inr ⟨a1, by omega, ?_⟩)
    rw [a3, hes h1]
    rw [hes h1] at h6
    have : (m' - l) * sz + l * sz = m' * sz := by rw [← Nat.add_mul]; congr 1; omega
    omega
theorem cut_ok (ht : TR μ tm n tmps) {id i len c c' sz : Nat} {g : Img} (hg : μ id = some g) (hc : CapOk g i c c') {lo hi mx : Option Operand} {v : Value}
  (isSlice : Bool) (h3 : (mx.isSome && hi.isNone) = false)
  (hv : rCut tm ⟨id, i, none⟩ len c sz (rpO lo) (rpO hi) (rpO mx) = some v) (w : World) :
  ∃ l h m', (Instr.sliceBounds isSlice len c' (lo.map (rho tmps)) (hi.map (rho tmps)) (mx.map (rho tmps))).run P w = .ok (l, h, m') w ∧
   VR μ v (.slice (some (if m' = l then (⟨g.blk, g.off + i, none⟩ : Addr) else (⟨g.blk, g.off + i, none⟩ : Addr).add (l * sz))) (h - l) (m' - l)) := by
 unfold rCut at hv
 split at hv
 ·cases hv
 rename_i m hm
 cases hes : (Nat.ble big m && not (Nat.beq (esCap m) sz)) with
 | true => rw [hes] at hv; cases hv
 | false =>
  rw [hes, cond_false] at hv
  split at hv
  ·cases hv
  rename_i h hh
  cases hbl : Nat.ble h (lowCap m) with
  | false => rw [hbl] at hv; cases hv
  | true =>
  rw [hbl, cond_true] at hv
  have hbl := Nat.le_of_ble_eq_true hbl
  split at hv
  ·cases hv
  rename_i l hl
  have hc' : (c < big ∧ c' = c) ∨ (big ≤ c ∧ lowCap c ≤ c') := by
   rcases hc with ⟨a, b⟩ | ⟨a, b, _⟩
   ·exact .inl ⟨a, b⟩
   ·exact .inr ⟨a, b⟩
  obtain ⟨m', b1, b2, b3, b4, b5, b6⟩ := bounds_ok (P := P) ht (c' := c') isSlice hc' hm hh hl h3 w
  refine ⟨l, h, m', b1, cut_val hg hc b2 ?_ hbl ?_ hv⟩
  ·cases lo with
   | none => rw [b5 rfl]; omega
   | some x => exact b3 rfl
  ·intro hb
   rw [natBle, decide_eq_true hb, Bool.true_and, Bool.not_eq_false'] at hes
   exact Nat.eq_of_beq_eq_true hes
theorem slS_ok (hE : EnvOk P E) (ht : TR μ tm n tmps) {ty e : TypeId} {inf : TypeInfo} {sz : Nat} {x : Operand} {lo hi mx : Option Operand} {v : Value} (hu : E.tt ty = some (inf, .slice e)) (hs : Eng.sizeT E e = some sz)
  (h3 : (mx.isSome && hi.isNone) = false) (hv : rSlS tm sz (rp x) (rpO lo) (rpO hi) (rpO mx) = some v) (d t p f g) : Pure P μ tmps ⟨d, .slice ty x lo hi mx, t, p, f, g⟩ v := by
 intro w
 unfold rSlS at hv
 split at hv
 ·rename_i a len c hx
  have hvx := rp_rel ht hx
  generalize hrc : rho tmps x = rc at hvx
  cases hvx with
  | sl id i _ _ c' g hg hc =>
   obtain ⟨l, h, m', h1, h2⟩ := cut_ok (P := P) ht hg hc true h3 hv w
   refine ⟨_, ?_, h2⟩
   simp only [execOp, hrc, Instr.sliceAt, Sem.run_bind, hE.under hu w, Result.andThen_ok, Instr.slice, h1, hE.sizeT hs w, Sem.run_pure]
   split <;> simp
  | slE a a' c h0 =>
   unfold rCut at hv
   split at hv
   ·cases hv
   rename_i m hm
   cases hes : (Nat.ble big m && not (Nat.beq (esCap m) sz)) with
   | true => rw [hes] at hv; cases hv
   | false =>
    rw [hes, cond_false] at hv
    split at hv
    ·cases hv
    rename_i h hh
    cases hbl : Nat.ble h (lowCap m) with
    | false => rw [hbl] at hv; cases hv
    | true =>
     rw [hbl, cond_true] at hv
     have hbl := Nat.le_of_ble_eq_true hbl
     split at hv
     ·cases hv
     rename_i l hl
     have hc' : (c < big ∧ 0 = c) ∨ (big ≤ c ∧ lowCap c ≤ 0) := by
      rcases Nat.lt_or_ge c big with q | q
      ·rw [lowCap_small q] at h0; exact .inl ⟨q, h0.symm⟩
      ·exact .inr ⟨q, by omega⟩
     obtain ⟨m', b1, b2, b3, b4, b5, b6⟩ := bounds_ok (P := P) ht (c' := 0) true hc' hm hh hl h3 w
     have hlh : l ≤ h := by
      cases lo with
      | none => rw [b5 rfl]; omega
      | some x => exact b3 rfl
     have hm0 : lowCap m = 0 ∧ m' = 0 := by
      rcases b2 with ⟨q1, q2⟩ | ⟨q1, q2, q3⟩
      ·subst q2
       rw [lowCap_small q1]
       cases mx with
       | none =>
        injection hm with hm
        subst hm
        rw [lowCap_small q1] at h0
        omega
       | some y =>
        simp only [rpO, capM] at hm
        split at hm
        case h_2 => cases hm
        split at hm
        case h_2 => cases hm
        rename_i mm hb
        obtain ⟨_, hle⟩ := natBelow_spec hb
        rw [natBle] at hm
        by_cases hbig : big ≤ mm
        ·rw [decide_eq_true hbig] at hm; cases hm
        rw [decide_eq_false hbig, cond_false] at hm
        injection hm with hm
        omega
      ·subst q2; exact ⟨h0, q3⟩
     obtain ⟨hm0, rfl⟩ := hm0
     have hz : h = 0 ∧ l = 0 := by omega
     obtain ⟨rfl, rfl⟩ := hz
     refine ⟨.slice (some a') 0 0, ?_, ?_⟩
     ·simp only [execOp, hrc, Instr.sliceAt, Sem.run_bind, hE.under hu w, Result.andThen_ok, Instr.slice, b1, hE.sizeT hs w, Sem.run_pure]
      simp
     ·rw [natBeq] at hv
      by_cases e : m = 0
      ·rw [decide_eq_true e, cond_true] at hv
       injection hv with hv; subst hv
       exact .slE _ _ _ (by simpa using hm0)
      ·rw [decide_eq_false e, cond_false] at hv
       injection hv with hv; subst hv
       exact .slE _ _ _ (by simpa using hm0)
 ·rename_i hx
  have hvx := rp_rel ht hx
  generalize hrc : rho tmps x = rc at hvx
  cases hvx
  split at hv
  case h_2 => cases hv
  rename_i m h l hm hh hl
  injection hv with hv; subst hv
  have bz : ∀ {y : Option Operand} {k : Nat}, boundV tm 0 (rpO y) 0 = some k → k = 0 ∧ ∀ z, y = some z → ∃ kk, rho tmps z = .int kk (.ofNat 0) := by
   intro y k hk
   cases y with
   | none => injection hk with hk; exact ⟨hk.symm, fun z hz => by cases hz⟩
   | some z =>
    simp only [rpO, boundV] at hk
    split at hk
    case h_2 => cases hk
    rename_i kk i hx2
    obtain ⟨rfl, hle⟩ := natBelow_spec hk
    have hv2 := rp_rel ht hx2
    generalize hrd : rho tmps z = rd at hv2
    cases hv2
    have : k = 0 := by omega
    subst this
    exact ⟨rfl, fun z' hz' => by injection hz' with hz'; subst hz'; exact ⟨kk, hrd⟩⟩
  obtain ⟨rfl, hm2⟩ := bz hm
  obtain ⟨rfl, hh2⟩ := bz hh
  obtain ⟨rfl, hl2⟩ := bz hl
  have sb : ∀ {z : Operand} {kk : IntKind} (code : BoundsCode) (y : Nat), rho tmps z = .int kk (.ofNat 0) → (Instr.sliceBound (rho tmps z) y code).run P w = .ok 0 w :=
   fun code y hz => sliceBound_ok hz (Nat.le_refl _) (Nat.zero_le _) code w
  have hb : (Instr.sliceBounds true 0 0 (lo.map (rho tmps)) (hi.map (rho tmps)) (mx.map (rho tmps))).run P w = .ok (0, 0, 0) w := by
   unfold Instr.sliceBounds
   cases mx with
   | none => cases hi with
    | none => cases lo with
     | none => rfl
     | some z => obtain ⟨kk, hz⟩ := hl2 z rfl; simp [sb _ _ hz]
    | some y => obtain ⟨kk, hy⟩ := hh2 y rfl; cases lo with
     | none => simp [sb _ _ hy]
     | some z => obtain ⟨kk, hz⟩ := hl2 z rfl; simp [sb _ _ hy, sb _ _ hz]
   | some q => obtain ⟨kk, hq⟩ := hm2 q rfl; cases hi with
    | none => cases h3
    | some y => obtain ⟨kk, hy⟩ := hh2 y rfl; cases lo with
     | none => simp [sb _ _ hy, sb _ _ hq]
     | some z => obtain ⟨kk, hz⟩ := hl2 z rfl; simp [sb _ _ hy, sb _ _ hz, sb _ _ hq]
  refine ⟨.slice none 0 0, ?_, .slN 0 0 (by decide)⟩
  simp only [execOp, hrc, Instr.sliceAt, Sem.run_bind, hE.under hu w, Result.andThen_ok, Instr.slice, hb, hE.sizeT hs w, Sem.run_pure]
  simp
 ·cases hv
theorem slA_ok (hE : EnvOk P E) (ht : TR μ tm n tmps) {ty e : TypeId} {inf : TypeInfo} {m sz : Nat} {x : Operand} {lo hi mx : Option Operand} {v : Value} (hu : E.tt ty = some (inf, .array m e)) (hs : Eng.sizeT E e = some sz) (hm : m < big)
  (h3 : (mx.isSome && hi.isNone) = false) (hv : rSlA tm m sz (rp x) (rpO lo) (rpO hi) (rpO mx) = some v) (d t p f g) : Pure P μ tmps ⟨d, .slice ty x lo hi mx, t, p, f, g⟩ v := by
 intro w
 unfold rSlA at hv
 split at hv
 case h_2 => cases hv
 rename_i a hx
 have hvx := rp_rel ht hx
 generalize hrc : rho tmps x = rc at hvx
 cases hvx with
 | ptr id i g hg =>
  obtain ⟨l, h, m', h1, h2⟩ := cut_ok (P := P) ht hg (.inl ⟨hm, rfl⟩) false h3 hv w
  refine ⟨_, ?_, h2⟩
  simp only [execOp, hrc, Instr.sliceAt, Sem.run_bind, hE.under hu w, Result.andThen_ok, Instr.sureAddr, h1, hE.sizeT hs w, Sem.run_pure]
theorem atA_ok {id i m sz : Nat} {g : Img} (hg : μ id = some g) {k : IntKind} {j : Int} {v : Value} (hv : atA ⟨id, i, none⟩ m sz (.int k j) = some v) :
  ∃ q : Nat, j = .ofNat q ∧ q < m ∧ VR μ v (.pointer (some ((⟨g.blk, g.off + i, none⟩ : Addr).add (q * sz)))) := by
 unfold atA at hv
 split at hv
 case h_2 => cases hv
 rename_i k' q he
 injection he with _ he
 rw [natBle] at hv
 by_cases hq : q.succ ≤ m
 ·rw [decide_eq_true hq, cond_true] at hv
  injection hv with hv; subst hv
  refine ⟨q, he, hq, ?_⟩
  rw [add_at, Nat.add_assoc]
  exact .ptr id (i + q * sz) g hg
 ·rw [decide_eq_false hq] at hv; cases hv
theorem iaS_ok (hE : EnvOk P E) (ht : TR μ tm n tmps) {ty e : TypeId} {inf : TypeInfo} {sz : Nat} {x y : Operand} {v : Value} (hu : E.tt ty = some (inf, .slice e)) (hs : Eng.sizeT E e = some sz)
  (hv : rIaS tm sz (rp x) (rp y) = some v) (d t p f g) : Pure P μ tmps ⟨d, .indexAddr ty x y, t, p, f, g⟩ v := by
 intro w
 unfold rIaS at hv
 split at hv
 case h_2 => cases hv
 rename_i a m c i hx hy
 have hvx := rp_rel ht hx
 have hvy := rp_rel ht hy
 generalize hrc : rho tmps x = rc at hvx
 generalize hrd : rho tmps y = rd at hvy
 cases hvx with
 | sl id i0 _ _ c' g hg hc =>
  cases hvy with
  | int k j =>
   obtain ⟨q, rfl, hq, h2⟩ := atA_ok hg hv
   refine ⟨_, ?_, h2⟩
   have : (0 : Int) ≤ Int.ofNat q ∧ Int.ofNat q < (m : Int) := by simp; omega
   simp only [execOp, hrc, hrd, Instr.indexAt, asIntOf, Sem.run_bind, hE.under hu w, Result.andThen_ok, Sem.run_pure]
   rw [if_pos this]
   simp [hE.sizeT hs w]
  | _ => simp [atA] at hv
 | slE a a' c h0 =>
  unfold atA at hv
  split at hv
  ·cases hv
  ·cases hv
theorem iaA_ok (hE : EnvOk P E) (ht : TR μ tm n tmps) {ty e : TypeId} {inf : TypeInfo} {m sz : Nat} {x y : Operand} {v : Value} (hu : E.tt ty = some (inf, .array m e)) (hs : Eng.sizeT E e = some sz)
  (hv : rIaA tm m sz (rp x) (rp y) = some v) (d t p f g) : Pure P μ tmps ⟨d, .indexAddr ty x y, t, p, f, g⟩ v := by
 intro w
 unfold rIaA at hv
 split at hv
 case h_2 => cases hv
 rename_i a i hx hy
 have hvx := rp_rel ht hx
 have hvy := rp_rel ht hy
 generalize hrc : rho tmps x = rc at hvx
 generalize hrd : rho tmps y = rd at hvy
 cases hvx with
 | ptr id i0 g hg =>
  cases hvy with
  | int k j =>
   obtain ⟨q, rfl, hq, h2⟩ := atA_ok hg hv
   refine ⟨_, ?_, h2⟩
   have : (0 : Int) ≤ Int.ofNat q ∧ Int.ofNat q < (m : Int) := by simp; omega
   simp only [execOp, hrc, hrd, Instr.indexAt, asIntOf, Sem.run_bind, hE.under hu w, Result.andThen_ok, Sem.run_pure, Instr.sureAddr]
   rw [if_pos this]
   simp [hE.sizeT hs w]
  | _ => simp [atA] at hv
theorem idx_ok (hE : EnvOk P E) (ht : TR μ tm n tmps) {ty e : TypeId} {inf : TypeInfo} {m sz : Nat} {agg : Bool} {x y : Operand} {v : Value} (hu : E.tt ty = some (inf, .array m e)) (ha : Eng.aggT E e = some (bif agg then some sz else none)) (h1 : agg = false → sz = 1)
  (hv : rIdx tm m sz agg (rp x) (rp y) = some v) (d t p f g) : Pure P μ tmps ⟨d, .index ty x y, t, p, f, g⟩ v := by
 intro w
 unfold rIdx at hv
 split at hv
 case h_2 => cases hv
 rename_i cs k q hx hy
 have hvx := rp_rel ht hx
 have hvy := rp_rel ht hy
 generalize hrc : rho tmps x = rc at hvx
 generalize hrd : rho tmps y = rd at hvy
 cases hvx with
 | agg l l' hl =>
  cases hvy
  rw [natBle] at hv
  by_cases hq : q.succ ≤ m
  ·rw [decide_eq_true hq, cond_true] at hv
   obtain ⟨v', h2, h3⟩ := partL_ok hE ha hl hv w
   obtain ⟨_, m2, h4, h5, h6⟩ := hE.aggT ha
   have hsz : m2 = sz := by
    cases agg with
    | true => exact (h5 sz rfl).symm
    | false => rw [h6 rfl, h1 rfl]
   subst hsz
   refine ⟨v', ?_, h3⟩
   have : (0 : Int) ≤ Int.ofNat q ∧ Int.ofNat q < (m : Int) := by simp; omega
   simp only [execOp, hrc, hrd, Instr.index, asIntOf, Sem.run_bind, hE.under hu w, Result.andThen_ok, Sem.run_pure]
   rw [if_pos this]
   have h2' : (part e ⟨l'⟩ ((Int.ofNat q).toNat * m2)).run P w = .ok v' w := h2
   simp only [Sem.run_bind, hE.sizeT h4 w, Result.andThen_ok, h2']
  ·rw [decide_eq_false hq] at hv; cases hv
end
end Go.Eng
end
section
namespace Go.Eng
section
variable {P : Program} {E : Env} {μ : Mu} {tm : Tr Value} {n : Nat} {tmps : Array Value}
theorem mv_ok (ht : TR μ tm n tmps) {x : Operand} {v : Value} (hv : evalO tm (rp x) = some v) (d t p f g) : Pure P μ tmps ⟨d, .move x, t, p, f, g⟩ v ∧ Pure P μ tmps ⟨d, .assign x, t, p, f, g⟩ v :=
 ⟨fun w => ⟨rho tmps x, by simp [execOp], rp_rel ht hv⟩, fun w => ⟨rho tmps x, by simp [execOp], rp_rel ht hv⟩⟩
theorem rLenC_spec {m : Nat} {x : RP} {v : Value} (h : rLenC tm m x = some v) : v = .int .i64 (.ofNat m) := by
 unfold rLenC at h
 split at h
 ·injection h with h; exact h.symm
 ·cases h
theorem pure_ok (hE : EnvOk P E) (ht : TR μ tm n tmps) {op : Op} {q : PO} {v : Value} (hc : compP E op = some q) (hv : runP tm q = some v) (d t p f g) : Pure P μ tmps ⟨d, op, t, p, f, g⟩ v := by
 cases op with
 | move x => injection hc with hc; subst hc; exact (mv_ok ht hv d t p f g).1
 | assign x => injection hc with hc; subst hc; exact (mv_ok ht hv d t p f g).2
 | pick c a b => injection hc with hc; subst hc; exact pick_ok ht hv d t p f g
 | build ty parts =>
  simp only [compP] at hc
  split at hc
  ·rename_i inf fs z h1 h2
   split at hc
   ·rename_i pl h3
    split at hc
    ·rename_i l h4
     injection hc with hc; subst hc
     exact bldS_ok hE ht h1 h2 h3 h4 hv d t p f g
    ·cases hc
   ·cases hc
  ·rename_i inf m e z h1 h2
   split at hc
   ·rename_i sz h3
    injection hc with hc; subst hc
    exact bldA_ok hE ht h1 h2 h3 hv d t p f g
   ·cases hc
  ·cases hc
 | nilCheck x => injection hc with hc; subst hc; exact nilc_ok ht hv d t p f g
 | binOp o ty x y yt =>
  simp only [compP] at hc
  split at hc
  ·injection hc with hc; subst hc; exact sh_ok ht (left := true) rfl hv d t p f g
  ·injection hc with hc; subst hc; exact sh_ok ht (left := false) rfl hv d t p f g
  ·rename_i h1 h2
   injection hc with hc; subst hc
   exact bin_ok hE ht hv ⟨h1, h2⟩ d t p f g
 | unOp o ty x =>
  simp only [compP] at hc
  split at hc
  ·injection hc with hc; subst hc; exact neg_ok ht hv d t p f g
  ·injection hc with hc; subst hc; exact not_ok ht hv d t p f g
  ·injection hc with hc; subst hc; exact com_ok ht hv d t p f g
  ·cases hc
 | convert src dst x =>
  simp only [compP] at hc
  split at hc
  ·rename_i i1 k1 i2 k2 h1 h2
   injection hc with hc; subst hc
   exact cvI_ok hE ht h1 h2 hv d t p f g
  ·cases hc
 | makeInterface ty x =>
  simp only [compP] at hc
  split at hc
  ·cases hc
  ·rename_i inf de h2 h1
   injection hc with hc; subst hc
   exact mkI_ok hE ht h1 (fun m hm => by subst hm; exact h2 _ rfl) hv d t p f g
  ·cases hc
 | makeFunc fn a b =>
  simp only [compP] at hc
  split at hc
  ·injection hc with hc; subst hc; exact mkF_ok ht hv d t p f g
  ·cases hc
 | slice ty x lo hi mx =>
  simp only [compP] at hc
  split at hc
  ·rename_i inf m e h1
   split at hc
   ·rename_i sz h2
    cases hb : ((mx.isSome && hi.isNone) || Nat.ble big m) with
    | true => rw [hb] at hc; cases hc
    | false =>
     rw [hb, cond_false] at hc
     injection hc with hc; subst hc
     rw [Bool.or_eq_false_iff] at hb
     refine slA_ok hE ht h1 h2 ?_ hb.1 hv d t p f g
     have := hb.2
     rw [natBle, decide_eq_false_iff_not] at this
     omega
   ·cases hc
  ·rename_i inf e h1
   split at hc
   ·rename_i sz h2
    cases hb : (mx.isSome && hi.isNone) with
    | true => rw [hb] at hc; cases hc
    | false =>
     rw [hb, cond_false] at hc
     injection hc with hc; subst hc
     exact slS_ok hE ht h1 h2 hb hv d t p f g
   ·cases hc
  ·cases hc
 | fieldAddr s x fi =>
  simp only [compP] at hc
  split at hc
  ·rename_i fs h1
   split at hc
   ·rename_i fd h2
    split at hc
    ·rename_i m h3
     cases hb : Nat.beq m 0 with
     | true => rw [hb] at hc; cases hc
     | false =>
      rw [hb, cond_false] at hc
      injection hc with hc; subst hc
      exact fad_ok hE ht h1 h2 h3 (fun e => by subst e; cases hb) hv d t p f g
    ·cases hc
   ·cases hc
  ·cases hc
 | field s x fi =>
  simp only [compP] at hc
  split at hc
  ·rename_i fs h1
   split at hc
   ·rename_i fd h2
    split at hc
    ·rename_i a h3
     injection hc with hc; subst hc
     exact fld_ok hE ht h1 h2 h3 hv d t p f g
    ·cases hc
   ·cases hc
  ·cases hc
 | indexAddr ty x i =>
  simp only [compP] at hc
  split at hc
  ·rename_i inf m e h1
   split at hc
   ·rename_i sz h2
    injection hc with hc; subst hc
    exact iaA_ok hE ht h1 h2 hv d t p f g
   ·cases hc
  ·rename_i inf e h1
   split at hc
   ·rename_i sz h2
    injection hc with hc; subst hc
    exact iaS_ok hE ht h1 h2 hv d t p f g
   ·cases hc
  ·cases hc
 | index ty x i =>
  simp only [compP] at hc
  split at hc
  ·rename_i inf m e h1
   split at hc
   ·rename_i h2
    injection hc with hc; subst hc
    exact idx_ok hE ht h1 (agg := false) (sz := 1) h2 (fun _ => rfl) hv d t p f g
   ·rename_i sz h2
    injection hc with hc; subst hc
    exact idx_ok hE ht h1 (agg := true) h2 (fun h => by cases h) hv d t p f g
   ·cases hc
  ·cases hc
 | typeAssert x xt ty ok =>
  simp only [compP] at hc
  cases ok with
  | false => cases hc
  | true =>
   rw [cond_true] at hc
   split at hc
   ·cases hc
   ·rename_i inf de z h2 h1 h3
    injection hc with hc; subst hc
    exact ta_ok hE ht h1 (fun m hm => by subst hm; exact h2 _ rfl) h3 hv d t p f g
   ·cases hc
 | extract x i => injection hc with hc; subst hc; exact ext_ok ht hv d t p f g
 | call c =>
  obtain ⟨callee, ⟨args⟩, ⟨ats⟩⟩ := c
  simp only [compP] at hc
  split at hc
  ·split at hc
   ·split at hc
    ·rename_i h1
     injection hc with hc; subst hc
     exact len_ok hE ht h1 hv d t p f g
    ·rename_i h1
     injection hc with hc; subst hc
     rw [rLenC_spec hv]
     exact lenC_ok hE h1 _ d t p f g
    ·cases hc
   ·split at hc
    ·rename_i h1
     injection hc with hc; subst hc
     exact cap_ok hE ht h1 hv d t p f g
    ·cases hc
   ·injection hc with hc; subst hc
    exact mn_ok ht hv d t p f g
   ·injection hc with hc; subst hc
    exact mx_ok ht hv d t p f g
   ·cases hc
  ·cases hc
 | _ => cases hc
end
end Go.Eng
end
section
namespace Go.Eng
section
variable {P : Program} {E : Env} {μ : Mu} {tm : Tr Value} {n : Nat} {tmps : Array Value} {s : St} {w : World}
theorem ld_run (hE : EnvOk P E) {t : TypeId} {a : Option Nat} (ha : Eng.aggT E t = some a) (h : R μ s w) {id i : Nat} {g : Img} (hg : μ id = some g) {v : Value} (hv : rLd s a ⟨id, i, none⟩ = some v) :
  ∃ v', (loadVar t ⟨g.blk, g.off + i, none⟩).run P w = .ok v' w ∧ VR μ v v' := by
 obtain ⟨h1, m, h2, h3, h4⟩ := hE.aggT ha
 unfold rLd at hv
 cases a with
 | none =>
  obtain ⟨v', h5, h6⟩ := readCell_rel h hg hv
  exact ⟨v', by simp [loadVar, h1 w, h5], h6⟩
 | some k =>
  have := h3 k rfl
  subst this
  simp only at hv
  split at hv
  case h_2 => cases hv
  rename_i l hl
  injection hv with hv; subst hv
  obtain ⟨l', h5, h6⟩ := run_loadRow P h hg hl
  exact ⟨.agg ⟨l'⟩, by simp [loadVar, h1 w, hE.sizeT h2 w, h6], .agg _ _ h5⟩
theorem keyEq_spec {a b : Value} {r : Bool} (h : keyEq a b = some r) : ∃ k x y, a = .int k x ∧ b = .int k y ∧ r = decide (x = y) := by
 unfold keyEq at h
 split at h
 case h_2 => cases h
 rename_i k x j y
 cases hk : Nat.beq (kNum k) (kNum j) with
 | false => rw [hk] at h; cases h
 | true =>
  have := kNum_inj hk
  subst this
  rw [hk, cond_true] at h
  injection h with h
  exact ⟨k, x, y, rfl, rfl, by rw [← h, eqF_eq]⟩
theorem findL_now {kd : IntKind} {k : Value} : ∀ {es : List (Value × Value)} {es' : List MapEntry} {r : Option Value} (i : Nat), PR μ es es' → findL k es = some r →
  (es = [] ∨ ∃ kk x, k = .int kk x) ∧
  match r with
  | none => Instr.findNow (.int kd) k es' i = some none
  | some v => ∃ j v', Instr.findNow (.int kd) k es' i = some (some (j, v')) ∧ VR μ v v'
 | [], _, r, i, .nil, h => by
  injection h with h; subst h
  exact ⟨.inl rfl, rfl⟩
 | (a, u) :: es, _, r, i, .cons _ _ e _ es' hk hv hr, h => by
  simp only [findL] at h
  split at h
  ·cases h
  rename_i t ht
  obtain ⟨kk, x, y, rfl, rfl, rfl⟩ := keyEq_spec ht
  refine ⟨.inr ⟨kk, x, rfl⟩, ?_⟩
  generalize hek : e.key = ek at hk
  cases hk
  by_cases hxy : x = y
  ·rw [decide_eq_true hxy, cond_true] at h
   injection h with h; subst h
   exact ⟨i, e.val, by simp [Instr.findNow, Instr.sameNow, hek, hxy], hv⟩
  ·rw [decide_eq_false hxy, cond_false] at h
   have ih := (findL_now (kd := kd) (i + 1) hr h).2
   have e1 : Instr.findNow (.int kd) (.int kk x) (e :: es') i = Instr.findNow (.int kd) (.int kk x) es' (i + 1) := by
    have h0 : (x == y) = false := by simp [hxy]
    simp [Instr.findNow, Instr.sameNow, hek, h0]
   rw [e1]; exact ih
theorem run_checkKey_int {t : TypeId} {kd : IntKind} (hu : P.underlying t = some (.int kd)) (b : Bool) (d : Nat) (v : Value) (w : World) : (Instr.checkKey b (d + 1) t v).run P w = .ok () w := by
 have : (underlying t).run P w = .ok (.int kd) w := run_underlying hu w
 simp only [Instr.checkKey, Sem.run_bind, this, Result.andThen_ok]
 rfl
theorem mapOf_rel (h : R μ s w) {id : Nat} {g : Img} (hg : μ id = some g) {es : List (Value × Value)} (ho : mapOf s (some id) = some es) : ∃ es' clock, w.heap[g.blk]? = some (.map ⟨es'⟩ clock) ∧ PR μ es es' ∧ s.h.get id = some (.map es) := by
 unfold mapOf at ho
 simp only at ho
 split at ho
 case h_2 => cases ho
 rename_i es0 hs
 injection ho with ho; subst ho
 obtain ⟨o', h1, h2⟩ := h.block hs hg
 cases h2 with
 | map _ es' clock hp => exact ⟨es', clock, h1, hp, hs⟩
theorem run_getObj {w : World} {b : Nat} {o : Obj} (h : w.heap[b]? = some o) (ho : ∀ c e f, o ≠ .cells c e f) : (getObj b).run P w = .ok o w := by
 unfold getObj
 cases o <;> simp_all [Sem.run]
theorem bytesL_ints : ∀ {l l' : List Value} {b : List UInt8}, LR μ l l' → bytesL l = some b → ∃ ns : List Int, l' = ns.map (Value.int .u8) ∧ b = ns.map fun n => UInt8.ofNat n.toNat
 | [], _, b, .nil, h => by injection h with h; subst h; exact ⟨[], rfl, rfl⟩
 | v :: l, _, b, .cons _ v' _ l' hv hl, h => by
  simp only [bytesL] at h
  split at h
  case h_2 => cases h
  rename_i nn r hr
  injection h with h; subst h
  cases hv
  obtain ⟨ns, h1, h2⟩ := bytesL_ints hl hr
  exact ⟨nn :: ns, by rw [h1]; rfl, by rw [h2]; rfl⟩
theorem push_loop {f : Value → ByteArray → Sem (ForInStep ByteArray)} (hf : ∀ (m : Int) (s : ByteArray), f (.int .u8 m) s = pure (ForInStep.yield (s.push (UInt8.ofNat m.toNat)))) (w : World) : ∀ (ns : List Int) (acc : ByteArray),
  (forIn (m := Sem) (ns.map (Value.int .u8)) acc f).run P w = .ok (ns.foldl (fun s n => s.push (UInt8.ofNat n.toNat)) acc) w
 | [], acc => by simp
 | m :: ns, acc => by
  have := push_loop hf w ns (acc.push (UInt8.ofNat m.toNat))
  simp only [List.map_cons, List.forIn_cons, Sem.run_bind, Sem.run_pure, Result.andThen_ok, List.foldl_cons, hf] at this ⊢
  exact this
theorem foldl_push : ∀ (ns : List Int) (acc : ByteArray), (ns.foldl (fun s n => s.push (UInt8.ofNat n.toNat)) acc) = ⟨⟨acc.data.toList ++ ns.map fun n => UInt8.ofNat n.toNat⟩⟩
 | [], acc => by simp
 | m :: ns, acc => by
  rw [List.foldl_cons, foldl_push ns]
  simp [ByteArray.push]
theorem PR.length : ∀ {es : List (Value × Value)} {es' : List MapEntry}, PR μ es es' → es'.length = es.length
 | [], _, .nil => rfl
 | _ :: _, _, .cons _ _ _ _ _ _ _ h => by simp [PR.length h]
theorem run_loadBytes (a : Addr) : ∀ (ns : List Int) (i : Nat) (acc : ByteArray), (∀ j v, (ns.map (Value.int .u8))[j]? = some v → w.cell? (a.add (i + j)) = some v) →
  (Extern.Bytes.loadBytes (a.add i) ns.length acc).run P w = .ok ⟨⟨acc.data.toList ++ ns.map fun n => UInt8.ofNat n.toNat⟩⟩ w
 | [], i, acc, _ => by
  obtain ⟨⟨acc⟩⟩ := acc
  simp [Extern.Bytes.loadBytes]
 | n :: ns, i, acc, h => by
  have h0 := h 0 _ rfl
  rw [Nat.add_zero] at h0
  have hadd : (a.add i).add 1 = a.add (i + 1) := by
   unfold Addr.add
   repeat' split
   all_goals simp_all <;> omega
  have ih := run_loadBytes a ns (i + 1) (acc.push n.toNat.toUInt8) (fun j v hj => by
   have := h (j + 1) v (by simpa using hj)
   rw [show i + (j + 1) = i + 1 + j by omega] at this; exact this)
  rw [List.length_cons]
  simp only [Extern.Bytes.loadBytes, Sem.run_bind, run_load, h0, Result.andThen_ok, hadd, ih]
  simp [ByteArray.push]
theorem bytesV_run (h : R μ s w) {v v' : Value} {bs : List UInt8} (hv : VR μ v v') (hb : bytesV s v = some bs) : (Extern.Bytes.bytesOf v').run P w = .ok ⟨⟨bs⟩⟩ w := by
 cases hv with
 | string b => injection hb with hb; subst hb; rfl
 | slN m c hc =>
  injection hb with hb; subst hb
  simp [Extern.Bytes.bytesOf]
  rfl
 | sl id i m c c' g hg hc =>
  simp only [bytesV] at hb
  cases hm : Nat.beq m 0 with
  | true =>
   rw [hm] at hb; injection hb with hb; subst hb
   have := Nat.eq_of_beq_eq_true hm; subst this
   simp [Extern.Bytes.bytesOf, Extern.Bytes.loadBytes]
   rfl
  | false =>
   rw [hm, cond_false] at hb
   split at hb
   ·rename_i l hl
    obtain ⟨l', h1, h2, h3⟩ := readRow_rel h hg hl
    obtain ⟨ns, h4, h5⟩ := bytesL_ints h2 hb
    subst h4
    have hlen := h2.length
    rw [List.length_map] at hlen
    have := run_loadBytes (P := P) (w := w) ⟨g.blk, g.off + i, none⟩ ns 0 .empty (fun j v hj => by rw [Nat.zero_add]; exact h3 j v hj)
    have h0 : (⟨g.blk, g.off + i, none⟩ : Addr).add 0 = ⟨g.blk, g.off + i, none⟩ := by unfold Addr.add; simp
    rw [h0, hlen, h1] at this
    simp only [Extern.Bytes.bytesOf, this, h5]
    rfl
   ·cases hb
 | slE a a' c h0 =>
  simp only [bytesV] at hb
  rw [show Nat.beq 0 0 = true from rfl] at hb
  injection hb with hb; subst hb
  simp [Extern.Bytes.bytesOf, Extern.Bytes.loadBytes]
  rfl
 | _ => cases hb
theorem cmpU_eq : ∀ (a b : List UInt8), cmpU a b = Go.Lib.compareBytes a b
 | [], [] => rfl
 | [], _ :: _ => rfl
 | _ :: _, [] => rfl
 | x :: a, y :: b => by simp only [cmpU, Go.Lib.compareBytes, cmpU_eq a b]
theorem load_ok (hE : EnvOk P E) (ht : TR μ tm n tmps) {op : Op} {q : LO} {ld : LD} (hc : compL E op = some q) (hd : toLD tm q = some ld) {v : Value} (h : R μ s w) (hv : evalLD s ld = some v) (d t p f g) :
  ∃ v', (execOp (rho tmps) ⟨d, op, t, p, f, g⟩).run P w = .ok (.value v') w ∧ VR μ v v' := by
 cases op with
 | load ty x =>
  simp only [compL] at hc
  split at hc
  case h_2 => cases hc
  rename_i a ha
  injection hc with hc; subst hc
  simp only [toLD] at hd
  split at hd
  case h_2 => cases hd
  rename_i ad hx
  injection hd with hd; subst hd
  have hvx := rp_rel ht hx
  generalize hrc : rho tmps x = rc at hvx
  cases hvx with
  | ptr id i g hg =>
   obtain ⟨v', h1, h2⟩ := ld_run hE ha h hg hv
   exact ⟨v', by simp [execOp, hrc, Instr.loadAt, Instr.sureAddr, h1], h2⟩
 | lookup ty x i ok =>
  simp only [compL] at hc
  split at hc
  case h_2 => cases hc
  rename_i inf k e hu
  split at hc
  case h_2 => cases hc
  rename_i ik kd z hk hz
  cases hpz : plainZ z with
  | false => rw [hpz] at hc; cases hc
  | true =>
   rw [hpz, cond_true] at hc
   injection hc with hc; subst hc
   split at hz
   case h_2 => cases hz
   rename_i ie de he
   have hzz : ∀ w, (zeroValue e).run P w = .ok z w := fun w => by simp [zeroValue, hE.info he w, hz]
   have hkk := (hE.tt _ _ _ hk).2
   simp only [toLD] at hd
   split at hd
   case h_2 => cases hd
   rename_i r kv hx hi
   injection hd with hd; subst hd
   have hvx := rp_rel ht hx
   have hvi := rp_rel ht hi
   generalize hrc : rho tmps x = rc at hvx
   generalize hrd : rho tmps i = rd at hvi
   have hck : ∀ (b : Bool) (v : Value), (Instr.checkKey b 10000 k v).run P w = .ok () w := fun b v => run_checkKey_int hkk b 9999 v w
   have hv : rLook s z ok r kv = some v := hv
   unfold rLook at hv
   split at hv
   ·cases hv
   rename_i es hes
   split at hv
   ·cases hv
   all_goals (rename_i fr hfr)
   all_goals (injection hv with hv; subst hv)
   · -- nothing there
    cases hvx with
    | mapN =>
     have : es = [] := by injection hes with hes; exact hes.symm
     subst this
     refine ⟨bif ok then .tuple ⟨[z, .bool false]⟩ else z, ?_, ?_⟩
     ·simp only [execOp, hrc, hrd, Instr.lookup, Sem.run_bind, hE.under hu w, Result.andThen_ok, Sem.run_pure, hck]
      simp only [Instr.findKey, Sem.run_bind, run_underlying hkk w, Result.andThen_ok, Instr.findNow, Sem.run_pure, hzz w]
      cases ok <;> rfl
     ·cases ok with
      | true => exact .tuple _ _ (.cons _ _ _ _ (plainZ_rel μ hpz) (.cons _ _ _ _ (.bool _) .nil))
      | false => exact plainZ_rel μ hpz
    | map id g hg =>
     obtain ⟨es', clock, h1, h2, _⟩ := mapOf_rel h hg hes
     obtain ⟨h3, h4⟩ := findL_now (kd := kd) 0 h2 hfr
     simp only at h4
     have hkv : es' = [] ∨ rd = kv := by
      rcases h3 with h3 | ⟨kk, xx, h3⟩
      ·subst h3; cases h2; exact .inl rfl
      ·subst h3; cases hvi; exact .inr rfl
     have h4' : Instr.findNow (.int kd) rd es' 0 = some none := by
      rcases hkv with h5 | h5
      ·rw [h5]; rfl
      ·rw [h5]; exact h4
     refine ⟨bif ok then .tuple ⟨[z, .bool false]⟩ else z, ?_, ?_⟩
     ·simp only [execOp, hrc, hrd, Instr.lookup, Sem.run_bind, hE.under hu w, Result.andThen_ok, run_getObj (P := P) h1 (by simp), Sem.run_pure, hck]
      simp only [Instr.findKey, Sem.run_bind, run_underlying hkk w, Result.andThen_ok, h4', Sem.run_pure, hzz w]
      cases ok <;> rfl
     ·cases ok with
      | true => exact .tuple _ _ (.cons _ _ _ _ (plainZ_rel μ hpz) (.cons _ _ _ _ (.bool _) .nil))
      | false => exact plainZ_rel μ hpz
   ·cases hvx with
    | mapN =>
     have : es = [] := by injection hes with hes; exact hes.symm
     subst this
     cases hfr
    | map id g hg =>
     obtain ⟨es', clock, h1, h2, _⟩ := mapOf_rel h hg hes
     obtain ⟨h3, j, v', h4, h5⟩ := findL_now (kd := kd) 0 h2 hfr
     have hkv : rd = kv := by
      rcases h3 with h3 | ⟨kk, xx, h3⟩
      ·subst h3; cases hfr
      ·subst h3; cases hvi; rfl
     subst hkv
     refine ⟨bif ok then .tuple ⟨[v', .bool true]⟩ else v', ?_, ?_⟩
     ·simp only [execOp, hrc, hrd, Instr.lookup, Sem.run_bind, hE.under hu w, Result.andThen_ok, run_getObj (P := P) h1 (by simp), Sem.run_pure, hck]
      simp only [Instr.findKey, Sem.run_bind, run_underlying hkk w, Result.andThen_ok, h4, Sem.run_pure]
      cases ok <;> rfl
     ·cases ok with
      | true => exact .tuple _ _ (.cons _ _ _ _ h5 (.cons _ _ _ _ (.bool _) .nil))
      | false => exact h5
 | convert src dst x =>
  simp only [compL] at hc
  split at hc
  case h_2 => cases hc
  rename_i i1 e i2 hs hdst
  split at hc
  case h_2 => cases hc
  rename_i ie he
  injection hc with hc; subst hc
  simp only [toLD] at hd
  split at hd
  case h_2 => cases hd
  rename_i a m c hx
  injection hd with hd; subst hd
  have hv : rStr s (.slice a m c) = some v := hv
  unfold rStr at hv
  split at hv
  ·cases hv
  rename_i b hb
  injection hv with hv; subst hv
  have hvx := rp_rel ht hx
  generalize hrc : rho tmps x = rc at hvx
  have key : ∀ (a' : Addr) (c' : Nat) (l l' : List Value), bytesL l = some b → LR μ l l' → (loadCells a' m).run P w = .ok ⟨l'⟩ w → rc = .slice (some a') m c' →
    ∃ v', (execOp (rho tmps) ⟨d, .convert src dst x, t, p, f, g⟩).run P w = .ok (.value v') w ∧ VR μ (.string ⟨⟨b⟩⟩) v' := by
   intro a' c' l l' hb hl' hrun hrceq
   obtain ⟨ns, h1, h2⟩ := bytesL_ints hl' hb
   subst h1
   refine ⟨.string ⟨⟨b⟩⟩, ?_, .string _⟩
   simp only [execOp, hrc, hrceq, convert, Sem.run_bind, hE.under hs w, hE.under hdst w, Result.andThen_ok, hE.under he w, Conv.bytesToString, hrun]
   rw [← Array.forIn_toList]
   rw [push_loop (fun _ _ => rfl), foldl_push]
   simp [h2]
  cases hvx with
  | slN m c hc =>
   injection hb with hb; subst hb
   refine ⟨.string ⟨⟨[]⟩⟩, ?_, .string _⟩
   simp only [execOp, hrc, convert, Sem.run_bind, hE.under hs w, hE.under hdst w, Result.andThen_ok, hE.under he w, Conv.bytesToString]
   rfl
  | sl id i _ _ c' g hg hc' =>
   simp only [bytesV] at hb
   cases hm : Nat.beq m 0 with
   | true =>
    rw [hm] at hb; injection hb with hb; subst hb
    have := Nat.eq_of_beq_eq_true hm; subst this
    exact key _ _ [] [] rfl .nil rfl rfl
   | false =>
    rw [hm, cond_false] at hb
    split at hb
    ·rename_i l hl
     obtain ⟨l', h5, h6⟩ := run_loadRow P h hg hl
     exact key _ _ l l' hb h5 h6 rfl
    ·cases hb
  | slE a a' c h0 =>
   simp only [bytesV] at hb
   rw [show Nat.beq 0 0 = true from rfl] at hb
   injection hb with hb; subst hb
   exact key a' 0 [] [] rfl .nil rfl rfl
 | call c =>
  obtain ⟨callee, ⟨args⟩, ⟨ats⟩⟩ := c
  simp only [compL] at hc
  split at hc
  ·split at hc
   ·split at hc
    ·rename_i ik kt et hu
     injection hc with hc; subst hc
     simp only [toLD] at hd
     split at hd
     case h_2 => cases hd
     rename_i r hx
     injection hd with hd; subst hd
     have hv : rMlen s r = some v := hv
     unfold rMlen at hv
     split at hv
     case h_2 => cases hv
     rename_i es hes
     injection hv with hv; subst hv
     have hvx := rp_rel ht hx
     generalize hrc : rho tmps _ = rc at hvx
     cases hvx with
     | mapN =>
      injection hes with hes; subst hes
      exact ⟨.int .i64 0, by simp [execOp, resolve, invoke, builtin, Builtin.len_, hE.under hu w, goInt, hrc], .int _ _⟩
     | map id g hg =>
      obtain ⟨es', clock, h1, h2, _⟩ := mapOf_rel h hg hes
      have hlen := h2.length
      refine ⟨.int .i64 (.ofNat es.length), ?_, .int _ _⟩
      simp [execOp, resolve, invoke, builtin, Builtin.len_, hE.under hu w, goInt, hrc, run_getObj (P := P) h1 (by simp), hlen]
    ·cases hc
   ·cases hc
  ·split at hc
   case h_2 => cases hc
   rename_i g x y
   cases hcm : E.cmp g with
   | false => rw [hcm] at hc; cases hc
   | true =>
    rw [hcm, cond_true] at hc
    injection hc with hc; subst hc
    simp only [toLD] at hd
    split at hd
    case h_2 => cases hd
    rename_i a b ha hb
    injection hd with hd; subst hd
    have hv : rCmp s a b = some v := hv
    unfold rCmp at hv
    split at hv
    case h_2 => cases hv
    rename_i bx by_ hbx hby
    injection hv with hv; subst hv
    have r1 := bytesV_run (P := P) h (rp_rel ht ha) hbx
    have r2 := bytesV_run (P := P) h (rp_rel ht hb) hby
    refine ⟨.int .i64 (cmpU bx by_), ?_, .int _ _⟩
    have hc2 : (Extern.BytealgCompare.compare #[rho tmps x, rho tmps y]).run P w = .ok (.int .i64 (cmpU bx by_)) w := by
     change Sem.run P (do pure (goInt (Extern.BytealgCompare.cmp (← Extern.Bytes.bytesOf (rho tmps x)) (← Extern.Bytes.bytesOf (rho tmps y))))) w = _
     simp only [Sem.run_bind, r1, r2, Result.andThen_ok, Sem.run_pure, goInt, Go.Lib.cmp_eq, cmpU_eq]
    have hcf := hE.cmp g hcm _ _ _ w hc2
    simp only [execOp, resolve, Deferred.ofValue, rho]
    simp only [Sem.run_bind, Sem.run_pure, Result.andThen_ok]
    have e1 : (#[] : Array Value) ++ (#[x, y] : Array Operand).map (rho tmps) = #[rho tmps x, rho tmps y] := by apply Array.toList_inj.1; simp
    simp only [invoke]
    first | exact hcf | (erw [e1]; exact hcf) | (simp only [List.map_toArray, List.map_cons, List.map_nil, Array.empty_append, Array.append_empty]; exact hcf)
  ·cases hc
 | _ => cases hc
end
end Go.Eng
end
section
namespace Go.Eng
theorem repL_length (z : List Value) : ∀ n, (repL z n).length = n * z.length
 | 0 => by simp [repL]
 | n + 1 => by simp [repL, repL_length z n, Nat.add_mul, Nat.add_comm]
theorem repL_get (z : List Value) : ∀ (n j : Nat), j < n * z.length → (repL z n)[j]? = z[j % z.length]?
 | 0, j, h => by simp at h
 | n + 1, j, h => by
  rw [Nat.add_mul, Nat.one_mul] at h
  rw [repL, List.getElem?_append]
  split
  ·rw [Nat.mod_eq_of_lt ‹_›]
  ·rw [repL_get z n (j - z.length) (by omega), Nat.mod_eq_sub_mod (a := j) (by omega)]
theorem rep_eq (z : Array Value) (n : Nat) : ((Array.range (n * z.size)).map (z[· % z.size]!)).toList = repL z.toList n := by
 apply List.ext_getElem?
 intro j
 by_cases hj : j < n * z.size
 ·rw [repL_get z.toList n j (by simpa using hj)]
  have hz : 0 < z.size := by
   rcases Nat.eq_zero_or_pos z.size with h | h
   ·rw [h] at hj; simp at hj
   ·exact h
  have hm := Nat.mod_lt j hz
  simp [hj, hm]
 ·rw [List.getElem?_eq_none (by simp; omega), List.getElem?_eq_none (by rw [repL_length]; simp; omega)]
theorem LR.rep {μ : Mu} {z z' : List Value} (h : LR μ z z') : ∀ n, LR μ (repL z n) (repL z' n)
 | 0 => .nil
 | n + 1 => h.append (h.rep n)
section
variable {P : Program} {E : Env} {μ : Mu} {tm : Tr Value} {n : Nat} {tmps : Array Value} {s : St} {w : World}
abbrev pushO (w : World) (o : Obj) : World := { w with heap := w.heap.push o }
theorem R.newCells (h : R μ s w) (hf : μ s.nx = none) {cs cs' : List Value} (hr : LR μ cs cs') (e : TypeId) :
  R (μ.add s.nx ⟨w.heap.size, 0, 0, cs'.length⟩) (newO s (.cells cs e 0)) (pushO w (.cells ⟨cs'⟩ e)) ∧
  Ext μ s w (μ.add s.nx ⟨w.heap.size, 0, 0, cs'.length⟩) (newO s (.cells cs e 0)) (pushO w (.cells ⟨cs'⟩ e)) := by
 refine h.make hf (o' := .cells ⟨cs'⟩ e) (by simp) (by simp) rfl rfl rfl ?_ ?_ (Nat.le_refl _) ?_
 ·intro b hb _
  rw [Array.getElem?_push_lt hb, Array.getElem?_eq_getElem hb]
 ·intro id p gp hp hg he
  obtain ⟨o', h1, _⟩ := h.block hp hg
  have := lt_of_get h1
  have he : gp.blk = w.heap.size := he
  omega
 ·refine .cells cs e 0 cs' (0, 0) rfl rfl (fun _ => ⟨rfl, hr.length⟩) (by simp [hr.length]) ?_ (fun _ => .inl rfl) (fun _ v' hv' => ((hr.mem v' hv').imp fun _ k => k.mono (Mu.add_le _ hf)))
  have := (hr.mono (Mu.add_le ⟨w.heap.size, 0, 0, cs'.length⟩ hf))
  rw [List.drop_zero, ← hr.length, List.take_length]
  exact this
theorem R.newMap (h : R μ s w) (hf : μ s.nx = none) :
  R (μ.add s.nx ⟨w.heap.size, 0, 0, 0⟩) (newO s (.map [])) (pushO w (.map #[] 0)) ∧
  Ext μ s w (μ.add s.nx ⟨w.heap.size, 0, 0, 0⟩) (newO s (.map [])) (pushO w (.map #[] 0)) := by
 refine h.make hf (o' := .map #[] 0) (by simp) (by simp) rfl rfl rfl ?_ ?_ (Nat.le_refl _) (.map [] [] 0 .nil)
 ·intro b hb _
  rw [Array.getElem?_push_lt hb, Array.getElem?_eq_getElem hb]
 ·intro id p gp hp hg he
  obtain ⟨o', h1, _⟩ := h.block hp hg
  have := lt_of_get h1
  have he : gp.blk = w.heap.size := he
  omega
def Done (P : Program) (μ : Mu) (s : St) (w : World) (x : Sem Next) (v : Value) (s' : St) : Prop :=
 ∃ v' w' μ', x.run P w = .ok (.value v') w' ∧ R μ' s' w' ∧ Ext μ s w μ' s' w' ∧ VR μ' v v'
theorem add_at_nx (g : Img) : (μ.add s.nx g) s.nx = some g := by unfold Mu.add; rw [if_pos rfl]
theorem wrap_small {n : Nat} (h : n ≤ 1073741824) : IntKind.i64.wrap (n : Int) = (n : Int) := by
 simp only [IntKind.wrap, IntKind.signed, IntKind.bits]
 simp
 omega
theorem run_makeSlice {ty e : TypeId} {i : TypeInfo} {z : Value} {sz : Nat} (hu : (underlying ty).run P w = .ok (.slice e) w) (hi : (typeInfo e).run P w = .ok i w) (hs : (sizeOf e).run P w = .ok sz w) (hz : (zeroValue e).run P w = .ok z w)
  (hzc : z.cells.size = sz) (hb : i.bytes ≤ 65536) {ln cn : Nat} (h1 : ln ≤ cn) (h2 : cn ≤ 1073741824) (kl kc : IntKind) :
  (Instr.makeSlice ty (.int kl (.ofNat ln)) (.int kc (.ofNat cn))).run P w = .ok (.slice (some ⟨w.heap.size, 0, none⟩) ln cn) (pushO w (.cells ⟨repL z.cells.toList cn⟩ e)) := by
 have w1 := wrap_small (n := ln) (by omega)
 have w2 := wrap_small (n := cn) (by omega)
 have hmul : i.bytes * cn ≤ 70368744177664 := Nat.le_trans (Nat.mul_le_mul hb h2) (by decide)
 have hmul2 : (i.bytes : Int) * (cn : Int) ≤ 70368744177664 := by
  have := Int.ofNat_le.2 hmul
  rw [Int.natCast_mul] at this
  exact this
 have hrep := rep_eq z.cells cn
 rw [hzc] at hrep
 have hnn : (0 : Int) ≤ (cn : Int) := by omega
 have c1 : ¬ ((cn : Int) < 0) := by omega
 have c2 : ¬ ((2 : Int) ^ 48 < (i.bytes : Int) * (cn : Int)) := by
  have : (2 : Int) ^ 48 = 281474976710656 := rfl
  omega
 have c3 : ¬ ((ln : Int) < 0) := by omega
 have c4 : ¬ ((cn : Int) < (ln : Int)) := by omega
 have e1 : ∀ (x : Array Value), (x = z.cells ∨ cn * sz = 0) → ((Array.range (cn * sz)).map fun (j : Nat) => x[j % x.size]!) = ⟨repL z.cells.toList cn⟩ := by
  intro x hx
  rcases hx with rfl | h0
  ·rw [hzc, ← hrep]
  ·rw [h0] at hrep ⊢
   rw [← hrep]; simp
 simp only [Instr.makeSlice, Sem.run_bind, hu, Result.andThen_ok, asInt, Sem.run_pure, hi, Int.ofNat_eq_natCast, asIntOf]
 simp only [Sem.run_bind, Result.andThen_ok, Sem.run_pure, w1, w2, Sem.run_ite]
 have hfalse : (decide ((cn : Int) < 0) || decide ((i.bytes : Int) * (cn : Int) > 2 ^ 48) || decide ((ln : Int) < 0) || decide ((ln : Int) > (cn : Int))) = false := by
  rw [decide_eq_false c1, decide_eq_false c2, decide_eq_false c3, decide_eq_false c4]; rfl
 rw [if_neg (by rw [hfalse]; exact Bool.noConfusion)]
 simp only [run_askRoom, Result.andThen_ok, hs, hz, Int.toNat_natCast]
 by_cases h0 : cn * sz = 0
 ·rw [if_pos h0, e1 #[] (.inr h0)]; simp [newRow]
 ·rw [if_neg h0, e1 z.cells (.inl rfl)]; simp [newRow]
theorem make_ok (hE : EnvOk P E) (ht : TR μ tm n tmps) {op : Op} {q : MO} {o : AO} {x : TM} (hc : compM E op = some q) (hd : toM tm q = some (o, x)) (h : R μ s w) (hf : μ s.nx = none) (d t p f g) :
  Done P μ s w (execOp (rho tmps) ⟨d, op, t, p, f, g⟩) (tellM s.nx x) (newO s o) := by
 cases op with
 | alloc ty =>
  simp only [compM] at hc
  split at hc
  case h_2 => cases hc
  rename_i z hz
  injection hc with hc; subst hc
  injection hd with hd; injection hd with h1 h2; subst h1; subst h2
  obtain ⟨hz1, hz2, _⟩ := hE.zeroT hz
  have hl := (plainZ_rel μ hz1).cells
  obtain ⟨a, b⟩ := h.newCells hf hl ty
  refine ⟨.pointer (some ⟨w.heap.size, 0, none⟩), _, _, ?_, a, b, ?_⟩
  ·simp [execOp, Instr.alloc, hz2 w, newVar, newRow]
  ·exact .ptr s.nx 0 _ (add_at_nx _)
 | box ty y =>
  injection hc with hc; subst hc
  simp only [toM] at hd
  split at hd
  case h_2 => cases hd
  rename_i v hv
  cases ho : (cellsL v).all oneCellB with
  | false => rw [ho] at hd; cases hd
  | true =>
   rw [ho, cond_true] at hd
   injection hd with hd; injection hd with h1 h2; subst h1; subst h2
   have hl := (rp_rel ht hv).cells
   obtain ⟨a, b⟩ := h.newCells hf hl ty
   refine ⟨.pointer (some ⟨w.heap.size, 0, none⟩), _, _, ?_, a, b, ?_⟩
   ·simp [execOp, Instr.box, newVar, newRow]
   ·exact .ptr s.nx 0 _ (add_at_nx _)
 | buildSlice ty len parts =>
  simp only [compM] at hc
  split at hc
  case h_2 => cases hc
  rename_i inf e hu
  split at hc
  case h_2 => cases hc
  rename_i z hz
  obtain ⟨hz1, hz2, hz3⟩ := hE.zeroT hz
  have hsz := hE.sizeT hz3
  cases hb : (Nat.ble (Nat.mul len (cellsL z).length) 16777216 && Nat.ble 1 (cellsL z).length) with
  | false => rw [hb] at hc; cases hc
  | true =>
   rw [hb, cond_true] at hc
   injection hc with hc; subst hc
   simp only [Bool.and_eq_true] at hb
   have hb1 : len * (cellsL z).length ≤ 16777216 := Nat.le_of_ble_eq_true hb.1
   have hb2 : 1 ≤ (cellsL z).length := Nat.le_of_ble_eq_true hb.2
   simp only [toM] at hd
   split at hd
   case h_2 => cases hd
   rename_i cs hcs
   injection hd with hd; injection hd with h1 h2; subst h1; subst h2
   have hl := (plainZ_rel μ hz1).cells
   obtain ⟨r', h3, h4⟩ := fill_ok ht (fun i => some (i * (cellsL z).length, (cellsL z).length)) (parts := parts.toList) (fun i hi => by
    obtain ⟨j, x, c1, c2⟩ := plcA_get (cellsL z).length parts.toList i hi
    exact ⟨j, _, _, x, c1, c2, rfl⟩) (plcA_length _ _) (hl.rep len) hcs
   obtain ⟨a, b⟩ := h.newCells hf h4 e
   have hzc : z.cells.size = (cellsL z).length := by rw [← hl.length, Array.length_toList]
   have hpar : (parts.map fun (i, x) => (i, rho tmps x)).toList = parts.toList.map fun (i, x) => (i, rho tmps x) := by simp
   refine ⟨.slice (some ⟨w.heap.size, 0, none⟩) len len, _, _, ?_, a, b, ?_⟩
   ·have hrep := rep_eq z.cells len
    rw [hzc] at hrep
    simp only [execOp, Instr.buildSlice, Sem.run_bind, hE.under hu w, Result.andThen_ok, hsz w]
    rw [if_neg (by omega)]
    simp only [Sem.run_pure]
    by_cases h0 : len * (cellsL z).length = 0
    ·have hl0 : len = 0 := by
      rcases Nat.mul_eq_zero.1 h0 with h | h
      ·exact h
      ·omega
     subst hl0
     rw [if_pos h0]
     simp only [Sem.run_bind, Sem.run_pure, Result.andThen_ok, Array.toList_map]
     have e1 : ((Array.range (0 * (cellsL z).length)).map fun (x : Nat) => (#[] : Array Value)[x % (#[] : Array Value).size]!) = ⟨repL z.cells.toList 0⟩ := by simp [repL]
     simp only [e1, h3]
     simp [newRow]
    ·rw [if_neg h0]
     simp only [Sem.run_bind, hz2 w, Sem.run_pure, Result.andThen_ok, Array.toList_map]
     have e1 : ((Array.range (len * (cellsL z).length)).map fun (x : Nat) => z.cells[x % z.cells.size]!) = ⟨repL z.cells.toList len⟩ := by
      rw [hzc, ← hrep]
     simp only [e1, h3]
     simp [newRow]
   ·refine .sl s.nx 0 len len len _ (add_at_nx _) ?_
    have : len ≤ len * (cellsL z).length := Nat.le_mul_of_pos_right _ hb2
    exact .inl ⟨by unfold big; omega, rfl⟩
 | makeMap ty r =>
  cases r with
  | some r => cases hc
  | none =>
   injection hc with hc; subst hc
   injection hd with hd; injection hd with h1 h2; subst h1; subst h2
   obtain ⟨a, b⟩ := h.newMap hf
   refine ⟨.map (some w.heap.size), _, _, ?_, a, b, .map s.nx _ (add_at_nx _)⟩
   simp [execOp, Instr.makeMap]
 | makeSlice ty l c =>
  simp only [compM] at hc
  split at hc
  case h_2 => cases hc
  rename_i inf e hu
  split at hc
  case h_2 => cases hc
  rename_i i de z he hz
  obtain ⟨hz1, hz2, hz3⟩ := hE.zeroT hz
  have hsz := hE.sizeT hz3
  have hinf := hE.info he
  cases hb : (Nat.ble i.bytes 65536 && Nat.ble 1 i.size) with
  | false => rw [hb] at hc; cases hc
  | true =>
   rw [hb, cond_true] at hc
   injection hc with hc; subst hc
   simp only [Bool.and_eq_true] at hb
   have hb1 : i.bytes ≤ 65536 := Nat.le_of_ble_eq_true hb.1
   simp only [toM] at hd
   split at hd
   case h_2 => cases hd
   rename_i kl ln kc cn hle hce
   cases hbb : (Nat.ble ln cn && Nat.ble cn 1073741824) with
   | false => rw [hbb] at hd; cases hd
   | true =>
    rw [hbb, cond_true] at hd
    simp only [Bool.and_eq_true] at hbb
    have hb3 : ln ≤ cn := Nat.le_of_ble_eq_true hbb.1
    have hb4 : cn ≤ 1073741824 := Nat.le_of_ble_eq_true hbb.2
    injection hd with hd; injection hd with h1 h2; subst h1; subst h2
    have hl := (plainZ_rel μ hz1).cells
    obtain ⟨a, b⟩ := h.newCells hf (hl.rep cn) e
    have hzc : z.cells.size = (cellsL z).length := by rw [← hl.length, Array.length_toList]
    have hx1 := rp_rel ht hle
    have hx2 := rp_rel ht hce
    generalize hrl : rho tmps l = rl at hx1
    generalize hrc : rho tmps c = rc at hx2
    cases hx1
    cases hx2
    refine ⟨.slice (some ⟨w.heap.size, 0, none⟩) ln cn, _, _, ?_, a, b, ?_⟩
    ·simp only [execOp, hrl, hrc]
     rw [Sem.run_bind, run_makeSlice (hE.under hu w) (hinf w) (hsz w) (hz2 w) hzc hb1 hb3 hb4]
     rfl
    ·exact .sl s.nx 0 ln cn cn _ (add_at_nx _) (.inl ⟨by unfold big; omega, rfl⟩)
 | _ => cases hc
end
end Go.Eng
end
