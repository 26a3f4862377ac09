/-
  Part of the proof of StreamReadsUptoSaid: Regions that keep their order; code.
-/
import Derived.Test.YtgidhbelekicbaaGreatEd
import Derived.AtR
import Derived.RangeFuncIn
import Derived.RangeFuncLeaves
set_option linter.unusedVariables false
section
namespace Go.Eng
def Task.st : Task → St
 | .code _ _ s => s
 | .call _ _ s => s
 | .val _ _ s => s
def Res.st : Res → St
 | .code _ _ s => s
 | .val _ s => s
 | .pan _ _ s => s
 | .thr _ s => s
def Mono (rec : Task → Option Res) : Prop := ∀ t r, rec t = some r → t.st.nx ≤ r.st.nx
def MonoE (E : Env) : Prop := ∀ f g args s v s', E.sm f = some g → g args s = some (v, s') → s.nx ≤ s'.nx
theorem writeRow_nx {s s' : St} {a : Addr} {vs : List Value} (h : writeRow s a vs = some s') : s'.nx = s.nx := by
 unfold writeRow at h
 split at h
 ·rename_i cs e el ho
  split at h
  ·cases h0 : Nat.beq el 1 with
   | true => rw [h0] at h; cases h
   | false =>
    rw [h0, cond_false] at h
    cases hb : vs.all oneCellB with
    | false => rw [hb] at h; cases h
    | true =>
     rw [hb, cond_true] at h
     split at h
     ·cases h
     ·injection h with h; subst h; exact setS_nx _ _ _
  ·cases h
 ·cases h
theorem appIn_nx {s s' : St} {b : Option Addr} {n sz need cap : Nat} {new : List Value} {v : Value} (h : appIn s b n sz need cap new = some (v, s')) : s'.nx = s.nx := by
 unfold appIn at h
 split at h
 ·injection h with h; injection h with _ h; subst h; rfl
 ·split at h
  ·injection h with h; injection h with _ h; subst h; rfl
  ·split at h
   ·rename_i hw
    injection h with h; injection h with _ h; subst h
    exact writeRow_nx hw
   ·cases h
theorem dropB_nx {s s' : St} {b : Option Addr} {sz : Nat} (h : dropB s b sz = some s') : s'.nx = s.nx := by
 unfold dropB at h
 split at h
 ·cases h
 ·split at h
  ·rename_i el _
   cases hb : Nat.beq el (Nat.succ sz) with
   | false => rw [hb] at h; cases h
   | true => rw [hb, cond_true] at h; injection h with h; subst h; exact delS_nx _ _
  ·cases h
theorem appOut_nx {s s' : St} {e : TypeId} {sz n need cap : Nat} {sl : Value} {b : Option Addr} {new : List Value} {v : Value} (h : appOut s e sz sl b n need cap new = some (v, s')) : s.nx ≤ s'.nx := by
 unfold appOut at h
 cases h1 : Nat.ble need 1073741824 with
 | false => rw [h1] at h; cases h
 | true =>
  rw [h1, cond_true] at h
  split at h
  ·cases h
  ·split at h
   ·cases h
   ·rename_i s1 hs1
    injection h with h; injection h with _ h; subst h
    rw [newO_nx]
    have : s1.nx = s.nx := by
     cases h2 : Nat.ble big cap with
     | true =>
      rw [h2, cond_true] at hs1
      cases h3 : (Nat.beq (esCap cap) sz && new.all oneCellB) with
      | true => rw [h3, cond_true] at hs1; exact dropB_nx hs1
      | false => rw [h3] at hs1; cases hs1
     | false =>
      rw [h2, cond_false] at hs1
      cases h3 : Nat.ble cap 1073741824 with
      | true => rw [h3, cond_true] at hs1; injection hs1 with hs1; subst hs1; rfl
      | false => rw [h3] at hs1; cases hs1
    omega
theorem cond_or {α : Type} {b : Bool} {x y : Option α} {r : α} (h : (bif b then x else y) = some r) : x = some r ∨ y = some r := by cases b <;> simp_all
theorem cond_some {α : Type} {b : Bool} {x : Option α} {r : α} (h : (bif b then x else none) = some r) : b = true ∧ x = some r := by cases b <;> simp_all
theorem rSto_nx {s s' : St} {sz : Nat} {a x v : Value} (h : rSto s sz a x = some (v, s')) : s'.nx = s.nx := by
 unfold rSto at h
 split at h
 ·have h := (cond_some h).2
  split at h
  ·rename_i hw
   cases h
   exact writeRow_nx hw
  ·cases h
 ·cases h
theorem rApp_nx {s s' : St} {e : TypeId} {z : List Value} {i : Bool} {x y v : Value} (h : rApp s e z i x y = some (v, s')) : s.nx ≤ s'.nx := by
 unfold rApp at h
 split at h
 ·simp only at h
  split at h
  ·cases h
  ·rcases cond_or h with h | h
   ·exact Nat.le_of_eq (appIn_nx h).symm
   ·exact appOut_nx h
 ·cases h
theorem runW_nx {tm : Tr Value} {s s' : St} {q : WO} {v : Value} (h : runW tm s q = some (v, s')) : s.nx ≤ s'.nx := by
 cases q with
 | sto sz a x =>
  simp only [runW] at h
  split at h
  ·exact Nat.le_of_eq (rSto_nx h).symm
  ·cases h
 | put m k x =>
  simp only [runW] at h
  split at h
  ·unfold rPut at h
   repeat' split at h
   all_goals first
    | (cases h; exact Nat.le_of_eq (setS_nx _ _ _).symm)
    | cases h
  ·cases h
 | app e z i x y =>
  simp only [runW] at h
  split at h
  ·exact rApp_nx h
  ·cases h
 | cpy sz x y =>
  simp only [runW] at h
  split at h
  ·unfold rCpy at h
   split at h
   ·simp only at h
    split at h
    ·cases h
    ·split at h
     ·cases h; exact Nat.le_refl _
     ·cases h; exact Nat.le_refl _
     ·split at h
      ·rename_i hw
       cases h
       exact Nat.le_of_eq (writeRow_nx hw).symm
      ·cases h
   ·cases h
  ·cases h
 | cvS x =>
  simp only [runW] at h
  split at h
  ·unfold rCvS at h
   split at h
   ·split at h
    ·have h := (cond_some h).2
     cases h; exact Nat.le_refl _
    ·cases h
   ·cases h
  ·cases h
 | clr m =>
  simp only [runW] at h
  split at h
  ·unfold rClr at h
   repeat' split at h
   all_goals first
    | (cases h; exact Nat.le_of_eq (setS_nx _ _ _).symm)
    | cases h
  ·cases h
 | del m k =>
  simp only [runW] at h
  split at h
  ·unfold rDel at h
   repeat' split at h
   all_goals first
    | (cases h; exact Nat.le_of_eq (setS_nx _ _ _).symm)
    | cases h
  ·cases h
theorem putF_ok {fr fr' : Fr} {d : Option (Nat × Nat)} {v : Value} {s s' : St} {r r' : Option LD} (h : putF fr d v s r = .ok fr' s' r') : setT fr d v = some fr' ∧ s' = s ∧ r' = r := by
 unfold putF at h
 split at h
 ·cases h
 ·rename_i f hf
  injection h with h1 h2 h3
  subst h1; subst h2; subst h3
  exact ⟨hf, rfl, rfl⟩
section
variable {E : Env} {rec : Task → Option Res}
theorem oneOp_nx (hm : Mono rec) {mt : Nat → String → Option FuncId} {fr fr' : Fr} {s s' : St} {d : Option (Nat × Nat)} {o : RO} {r : Option LD} (h : oneOp rec mt fr s d o = .ok fr' s' r) : s.nx ≤ s'.nx := by
 cases o with
 | p q =>
  simp only [oneOp, opP] at h
  split at h
  ·cases h
  ·rw [(putF_ok h).2.1]; exact Nat.le_refl _
 | l q =>
  simp only [oneOp, opL] at h
  split at h
  ·cases h
  ·split at h
   ·cases h
   ·rw [(putF_ok h).2.1]; exact Nat.le_refl _
 | m q =>
  simp only [oneOp, opM] at h
  split at h
  ·cases h
  ·rw [(putF_ok h).2.1, newO_nx]; omega
 | w q =>
  simp only [oneOp, opW] at h
  split at h
  ·cases h
  ·rename_i hw
   rw [(putF_ok h).2.1]; exact runW_nx hw
 | call f args =>
  simp only [oneOp, opC] at h
  split at h
  ·split at h
   ·rename_i hr
    rw [(putF_ok h).2.1]; exact hm _ _ hr
   ·cases h
   ·cases h
  ·cases h
 | inv name r args =>
  simp only [oneOp, opI] at h
  split at h
  ·split at h
   ·split at h
    ·rename_i hr
     rw [(putF_ok h).2.1]; exact hm _ _ hr
    ·cases h
    ·cases h
   ·cases h
  ·cases h
 | dfr f args =>
  simp only [oneOp, opD] at h
  split at h
  ·cases h
  ·split at h
   ·rw [(putF_ok h).2.1]; exact Nat.le_refl _
   ·cases h
 | rcv =>
  simp only [oneOp, opR] at h
  split at h
  ·cases h
  ·rw [(putF_ok h).2.1]; exact Nat.le_refl _
 | pnc x =>
  simp only [oneOp, opN] at h
  split at h <;> cases h
theorem putF_pan {fr : Fr} {d : Option (Nat × Nat)} {u v : Value} {s s' : St} {r : Option LD} (h : putF fr d u s r = .pan v s') : False := by
 unfold putF at h
 split at h <;> cases h
theorem oneX_pan {mt : Nat → String → Option FuncId} {fr : Fr} {s s' : St} {x : RX} {v : Value} (h : oneX rec mt fr s x = .pan v s') : wantB fr.tm x.g = some true ∧
  ((∃ y t u, x.o = .pnc y ∧ evalO fr.tm y = some (.iface t u) ∧ v = .iface t u ∧ s' = s) ∨
   (∃ f args g l, x.o = .call f args ∧ evalO fr.tm f = some g ∧ evalL fr.tm args = some l ∧ rec (.val g l s) = some (.thr v s')) ∨
   (∃ name y args t u l f, x.o = .inv name y args ∧ evalO fr.tm y = some (.iface t u) ∧ evalL fr.tm args = some l ∧ mt t name = some f ∧ rec (.call f (u :: l) s) = some (.thr v s'))) := by
 unfold oneX at h
 split at h
 ·cases h
 ·rename_i hw
  refine ⟨hw, ?_⟩
  cases hx : x.o with
  | p q => rw [hx] at h; simp only [oneOp, opP] at h; split at h; cases h; exact (putF_pan h).elim
  | l q =>
   rw [hx] at h; simp only [oneOp, opL] at h; split at h
   ·cases h
   ·split at h
    ·cases h
    ·exact (putF_pan h).elim
  | m q => rw [hx] at h; simp only [oneOp, opM] at h; split at h; cases h; exact (putF_pan h).elim
  | w q => rw [hx] at h; simp only [oneOp, opW] at h; split at h; cases h; exact (putF_pan h).elim
  | call f args =>
   rw [hx] at h; simp only [oneOp, opC] at h
   split at h
   case h_2 => cases h
   rename_i g l hf hl
   split at h
   ·exact (putF_pan h).elim
   ·rename_i hr
    injection h with h1 h2; subst h1; subst h2
    exact .inr (.inl ⟨_, _, g, l, rfl, hf, hl, hr⟩)
   ·cases h
  | inv name y args =>
   rw [hx] at h; simp only [oneOp, opI] at h
   split at h
   case h_2 => cases h
   rename_i t u l hy hl
   split at h
   case h_2 => cases h
   rename_i f hmt
   split at h
   ·exact (putF_pan h).elim
   ·rename_i hr
    injection h with h1 h2; subst h1; subst h2
    exact .inr (.inr ⟨_, _, _, t, u, l, f, rfl, hy, hl, hmt, hr⟩)
   ·cases h
  | dfr f args =>
   rw [hx] at h; simp only [oneOp, opD] at h
   split at h
   ·cases h
   ·split at h
    ·exact (putF_pan h).elim
    ·cases h
  | rcv =>
   rw [hx] at h; simp only [oneOp, opR] at h
   split at h
   ·cases h
   ·exact (putF_pan h).elim
  | pnc y =>
   rw [hx] at h; simp only [oneOp, opN] at h
   split at h
   ·rename_i t u hy
    injection h with h1 h2; subst h1; subst h2
    exact .inl ⟨y, t, u, rfl, hy, rfl, rfl⟩
   ·cases h
 ·exact (putF_pan h).elim
theorem oneX_pan_nx (hm : Mono rec) {mt : Nat → String → Option FuncId} {fr : Fr} {s s' : St} {x : RX} {v : Value} (h : oneX rec mt fr s x = .pan v s') : s.nx ≤ s'.nx := by
 obtain ⟨_, h⟩ := oneX_pan h
 rcases h with ⟨_, _, _, _, _, _, rfl⟩ | ⟨_, _, _, _, _, _, _, h⟩ | ⟨_, _, _, _, _, _, _, _, _, _, _, h⟩
 ·exact Nat.le_refl _
 ·exact hm _ _ h
 ·exact hm _ _ h
theorem oneX_nx (hm : Mono rec) {mt : Nat → String → Option FuncId} {fr fr' : Fr} {s s' : St} {x : RX} {r : Option LD} (h : oneX rec mt fr s x = .ok fr' s' r) : s.nx ≤ s'.nx := by
 unfold oneX at h
 split at h
 ·cases h
 ·exact oneOp_nx hm h
 ·rw [(putF_ok h).2.1]; exact Nat.le_refl _
theorem seqOps_nx (hm : Mono rec) {mt : Nat → String → Option FuncId} : ∀ {l : List RX} {fr : Fr} {s : St} {r : Res}, seqOps rec mt l fr s = some r → s.nx ≤ r.st.nx
 | [], fr, s, r, h => by cases h; exact Nat.le_refl _
 | x :: l, fr, s, r, h => by
  simp only [seqOps] at h
  split at h
  ·cases h
  ·rename_i hx
   exact Nat.le_trans (oneX_nx hm hx) (seqOps_nx hm h)
  ·rename_i hx
   cases h
   exact oneX_pan_nx hm hx
theorem oneD_nx (hm : Mono rec) {mt : Nat → String → Option FuncId} {ts : List Nat} {fr fr' : Fr} {s s' : St} {x : RX} {r : Option LD} (h : oneD rec mt ts fr s x = .ok fr' s' r) : s.nx ≤ s'.nx := by
 obtain ⟨fn, tm, n, defs, rd⟩ := fr
 simp only [oneD] at h
 split at h
 ·cases h
 ·cases h
 ·rename_i hx
  have h1 := oneX_nx hm hx
  split at h
  ·injection h with _ h; subst h; exact h1
  ·split at h
   ·rw [(putF_ok h).2.1]; exact h1
   ·cases h
theorem drawOps_nx (hm : Mono rec) {mt : Nat → String → Option FuncId} : ∀ {l : List (RX × List Nat)} {i : Nat} {fr fr' : Fr} {s s' : St} {ls ls' : List (Nat × LD × Value)} {gs gs' : List St}, drawOps rec mt l i fr s ls gs = .ok fr' s' ls' gs' → s.nx ≤ s'.nx
 | [], i, fr, fr', s, s', ls, ls', gs, gs', h => by simp only [drawOps] at h; injection h with _ h; subst h; exact Nat.le_refl _
 | (x, ts) :: l, i, fr, fr', s, s', ls, ls', gs, gs', h => by
  simp only [drawOps] at h
  split at h
  ·cases h
  ·cases h
  ·rename_i hx
   exact Nat.le_trans (oneD_nx hm hx) (drawOps_nx hm h)
  ·rename_i hx
   split at h
   ·cases h
   ·exact Nat.le_trans (oneD_nx hm hx) (drawOps_nx hm h)
theorem oneD_pan {mt : Nat → String → Option FuncId} {ts : List Nat} {fr : Fr} {s s' : St} {x : RX} {v : Value} (h : oneD rec mt ts fr s x = .pan v s') : oneX rec mt ⟨fr.fn, restr fr.tm ts .lf, fr.n, fr.defs, fr.rd⟩ s x = .pan v s' := by
 obtain ⟨fn, tm, n, defs, rd⟩ := fr
 simp only [oneD] at h
 split at h
 ·cases h
 ·rename_i hx
  injection h with h1 h2; subst h1; subst h2; exact hx
 ·split at h
  ·cases h
  ·split at h
   ·exact (putF_pan h).elim
   ·cases h
theorem drawOps_pan_nx (hm : Mono rec) {mt : Nat → String → Option FuncId} : ∀ {l : List (RX × List Nat)} {i j : Nat} {fr : Fr} {s s' : St} {v : Value} {ls ls' : List (Nat × LD × Value)} {gs gs' : List St}, drawOps rec mt l i fr s ls gs = .pan v s' ls' gs' j → s.nx ≤ s'.nx
 | [], i, j, fr, s, s', v, ls, ls', gs, gs', h => by simp only [drawOps] at h; cases h
 | (x, ts) :: l, i, j, fr, s, s', v, ls, ls', gs, gs', h => by
  simp only [drawOps] at h
  split at h
  ·cases h
  ·rename_i hx
   injection h with h1 h2 h3 h4 h5
   subst h1; subst h2
   exact oneX_pan_nx hm (oneD_pan hx)
  ·rename_i hx
   exact Nat.le_trans (oneD_nx hm hx) (drawOps_pan_nx hm h)
  ·rename_i hx
   split at h
   ·cases h
   ·exact Nat.le_trans (oneD_nx hm hx) (drawOps_pan_nx hm h)
theorem runDefers_nx (hm : Mono rec) : ∀ {ds : List Deferred} {s s' : St}, runDefers E rec ds s = some s' → s.nx ≤ s'.nx
 | [], s, s', h => by cases h; exact Nat.le_refl _
 | d :: ds, s, s', h => by
  simp only [runDefers] at h
  split at h
  ·split at h
   ·have := runDefers_nx hm h
    rw [setS_nx] at this; exact this
   ·cases h
  ·split at h
   ·cases h
   ·split at h
    ·rename_i hr
     exact Nat.le_trans (hm _ _ hr) (runDefers_nx hm h)
    ·cases h
  ·cases h
theorem endR_nx {l : Nat} {e : Ex} {s : St} {r : Res} (h : endR l e s = some r) : s.nx ≤ r.st.nx := by
 unfold endR at h
 split at h
 ·split at h <;> (cases h; exact Nat.le_of_eq (setS_nx _ _ _).symm)
 ·cases h
theorem midR_nx (hm : Mono rec) {l : Nat} {bo : Code} {fr : Fr} {s : St} {r : Res} (h : midR rec l bo fr s = some r) : s.nx ≤ r.st.nx := by
 unfold midR at h
 split at h
 ·split at h
  ·rename_i hr
   have h1 := hm _ _ hr
   have h2 := endR_nx h
   simp only [Task.st, setS_nx, Res.st] at h1
   exact Nat.le_trans h1 h2
  ·cases h
 ·cases h
theorem roundV_nx (hm : Mono rec) {l : Nat} {args : List Value} {s : St} {r : Res} (h : roundV rec l args s = some r) : s.nx ≤ r.st.nx := by
 unfold roundV at h
 split at h
 ·split at h
  ·cases h
  ·split at h
   ·rename_i hr
    exact Nat.le_trans (hm _ _ hr) (midR_nx hm h)
   ·cases h
 ·cases h
theorem jumpC_nx {p : Option Code} {fr : Fr} {s : St} {r : Res} (h : jumpC p fr s = some r) : s.nx ≤ r.st.nx := by
 unfold jumpC at h
 split at h
 ·cases h; exact Nat.le_refl _
 ·split at h
  ·cases h; exact Nat.le_refl _
  ·cases h; exact Nat.le_refl _
  ·cases h
theorem endRange_nx {a l : Nat} {fr : Fr} {s : St} {r : Res} (h : endRange a l fr s = some r) : s.nx ≤ r.st.nx := by
 unfold endRange at h
 split at h
 ·split at h
  ·cases h
  ·have := jumpC_nx h
   rw [setS_nx] at this; exact this
 ·cases h
theorem rangeV_nx (hm : Mono rec) {f : RP} {ps : List Tmp} {a b : Code} {fr : Fr} {s : St} {r : Res} (h : rangeV rec f ps a b fr s = some r) : s.nx ≤ r.st.nx := by
 unfold rangeV at h
 split at h
 ·cases h
 ·split at h
  ·cases h
  ·split at h
   ·rename_i hr
    have h1 := hm _ _ hr
    simp only [Task.st, newO_nx, Res.st] at h1
    have h2 := endRange_nx h
    omega
   ·cases h
theorem endCall_nx (hm : Mono rec) {fn : Func} {e : Ex} {fr : Fr} {s : St} {r : Res} (h : endCall E rec fn e fr s = some r) : s.nx ≤ r.st.nx := by
 unfold endCall at h
 split at h
 ·cases h
 ·split at h
  ·cases h
  ·rename_i hd
   split at h
   ·cases h
   ·cases h; exact runDefers_nx hm hd
theorem thenC_nx (hm : Mono rec) {r0 : Option Res} {b : Code} {r : Res} {n : Nat} (h0 : ∀ r', r0 = some r' → n ≤ r'.st.nx) (h : thenC rec r0 b = some r) : n ≤ r.st.nx := by
 unfold thenC at h
 split at h
 ·exact Nat.le_trans (h0 _ rfl) (hm _ _ h)
 ·exact h0 _ h
theorem blockC_nx {r0 : Option Res} {id : Nat} {r : Res} {n : Nat} (h0 : ∀ r', r0 = some r' → n ≤ r'.st.nx) (h : blockC r0 id = some r) : n ≤ r.st.nx := by
 unfold blockC at h
 split at h
 ·have := h0 _ rfl
  rcases cond_or h with h | h <;> (cases h; exact this)
 ·exact h0 _ h
theorem codeF_nx (hm : Mono rec) {fr : Fr} {s : St} {c : Code} {r : Res} (h : codeF E rec fr s c = some r) : s.nx ≤ r.st.nx := by
 cases c with
 | skip => cases h; exact Nat.le_refl _
 | region id ops draw =>
  simp only [codeF] at h
  rcases cond_or h with h | h
  ·unfold regionT at h
   split at h
   ·cases h
   ·split at h
    ·cases h
    ·rename_i hd
     have h := (cond_some h).2
     cases h
     exact drawOps_pan_nx hm hd
    ·rename_i hd
     have h := (cond_some h).2
     cases h
     exact drawOps_nx hm hd
  ·unfold regionF at h
   split at h
   ·cases h
   ·exact seqOps_nx hm h
 | seq a b => exact thenC_nx hm (fun r' hr => hm (.code a fr s) r' hr) h
 | cond c a b =>
  simp only [codeF, condC] at h
  split at h
  ·rcases cond_or h with h | h <;> exact hm _ _ h
  ·cases h
 | block id b => exact blockC_nx (fun r' hr => hm (.code b fr s) r' hr) h
 | loop b => exact thenC_nx hm (fun r' hr => hm (.code b fr s) r' hr) h
 | rangeFunc f ps a b => exact rangeV_nx hm h
 | exit id => cases h; exact Nat.le_refl _
 | scope b => exact hm _ _ h
 | label l => cases h; exact Nat.le_refl _
 | goto l => cases h
 | ret => cases h; exact Nat.le_refl _
 | refuse w => cases h
theorem armedC_nx (hm : Mono rec) {v : Value} {fr : Fr} {s : St} : ∀ {c : Code} {r : Res}, armedC E rec v fr s c = some r → s.nx ≤ r.st.nx
 | .seq a b, r, h => by
  simp only [armedC] at h
  exact thenC_nx hm (fun r' hr => armedC_nx hm hr) h
 | .region id ops draw, r, h => by
  simp only [armedC] at h
  cases draw with
  | true => cases h
  | false =>
   simp only [cond_false] at h
   split at h
   ·cases h
   ·unfold armedSeq at h
    split at h
    ·cases h
    ·split at h
     ·split at h
      ·cases h
      ·split at h
       ·cases h
       ·exact seqOps_nx hm h
     ·cases h
 | .skip, r, h => by simp only [armedC] at h; cases h
 | .cond _ _ _, r, h => by simp only [armedC] at h; cases h
 | .block _ _, r, h => by simp only [armedC] at h; cases h
 | .loop _, r, h => by simp only [armedC] at h; cases h
 | .rangeFunc _ _ _ _, r, h => by simp only [armedC] at h; cases h
 | .exit _, r, h => by simp only [armedC] at h; cases h
 | .scope _, r, h => by simp only [armedC] at h; cases h
 | .label _, r, h => by simp only [armedC] at h; cases h
 | .goto _, r, h => by simp only [armedC] at h; cases h
 | .ret, r, h => by simp only [armedC] at h; cases h
 | .refuse _, r, h => by simp only [armedC] at h; cases h
theorem endArmed_spec {fg : Func} {r : Option Res} {s' : St} (h : endArmed E fg r = some s') : ∃ e fr l, r = some (.code e fr s') ∧ (∀ id, e ≠ .exit id) ∧ fr.defs = [] ∧ resultsV E fr s' fg.results.toList = some l := by
 unfold endArmed at h
 split at h
 case h_2 => cases h
 rename_i e fr s
 have key : ∀ {x : Option St}, x = some s' → (x = match fr.defs with
   | [] => match resultsV E fr s fg.results.toList with
    | some _ => some s
    | none => none
   | _ => none) → s = s' ∧ fr.defs = [] ∧ ∃ l, resultsV E fr s fg.results.toList = some l := by
  intro x hx he
  rw [he] at hx
  split at hx
  ·rename_i hd
   split at hx
   ·rename_i l hl
    cases hx
    exact ⟨rfl, hd, l, hl⟩
   ·cases hx
  ·cases hx
 cases e with
 | exit id => cases h
 | normal =>
  obtain ⟨rfl, h2, l, h3⟩ := key h rfl
  exact ⟨_, _, l, rfl, (fun _ h => nomatch h), h2, h3⟩
 | ret =>
  obtain ⟨rfl, h2, l, h3⟩ := key h rfl
  exact ⟨_, _, l, rfl, (fun _ h => nomatch h), h2, h3⟩
theorem armedF_spec {g : FuncId} {fg : Func} {args : List Value} {v : Value} {s s' : St} (h : armedF E rec g fg args v s = some s') : ∃ c e fr l, fg.body = some c ∧ args.length ≤ fg.ntmps ∧
  armedC E rec v ⟨g, argsT args 0 .lf, fg.ntmps, [], none⟩ s c = some (.code e fr s') ∧ (∀ id, e ≠ .exit id) ∧ fr.defs = [] ∧ resultsV E fr s' fg.results.toList = some l := by
 unfold armedF at h
 split at h
 ·cases h
 ·rename_i c hc
  obtain ⟨h1, h2⟩ := cond_some h
  obtain ⟨e, fr, l, h3, h4, h5, h6⟩ := endArmed_spec h2
  exact ⟨c, e, fr, l, hc, Nat.le_of_ble_eq_true h1, h3, h4, h5, h6⟩
theorem endPan_spec {fn : Func} {fr : Fr} {v : Value} {s : St} {r : Res} (h : endPan E rec fn fr v s = some r) : (fr.defs = [] ∧ r = .thr v s) ∨
  ∃ g captured a fg s' l, fr.defs = [⟨.fn (.func g) captured, a⟩] ∧ E.sm g = none ∧ E.ft g = some fg ∧ armedF E rec g fg (a.toList ++ captured.toList) v s = some s' ∧ resultsV E fr s' fn.results.toList = some l ∧ r = .val (oneV l) s' := by
 unfold endPan at h
 split at h
 ·rename_i hd
  cases h; exact .inl ⟨hd, rfl⟩
 ·rename_i d hd
  obtain ⟨tg, a⟩ := d
  split at h
  ·rename_i g captured htg
   simp only at htg
   subst htg
   split at h
   ·cases h
   ·rename_i hsm
    split at h
    ·cases h
    ·rename_i fg hft
     split at h
     ·cases h
     ·rename_i s' hs'
      split at h
      ·cases h
      ·rename_i l hl
       cases h
       exact .inr ⟨g, captured, a, fg, s', l, hd, hsm, hft, hs', hl, rfl⟩
  ·cases h
 ·cases h
theorem endPan_nx (hm : Mono rec) {fn : Func} {fr : Fr} {v : Value} {s : St} {r : Res} (h : endPan E rec fn fr v s = some r) : s.nx ≤ r.st.nx := by
 rcases endPan_spec h with ⟨_, rfl⟩ | ⟨g, captured, a, fg, s', l, _, _, _, h1, _, rfl⟩
 ·exact Nat.le_refl _
 ·obtain ⟨c, e, fr, l, _, _, h2, _⟩ := armedF_spec h1
  have := armedC_nx hm h2
  exact this
theorem body_nx (hE : MonoE E) (hm : Mono rec) : Mono (body E rec) := by
 intro t r h
 cases t with
 | code c fr s => exact codeF_nx hm h
 | call f args s =>
  simp only [body, callF] at h
  split at h
  ·rename_i g hg
   unfold sumF at h
   split at h
   ·rename_i hr
    cases h
    exact hE _ _ _ _ _ _ hg hr
   ·cases h
  ·split at h
   ·cases h
   ·unfold enterF at h
    split at h
    ·cases h
    ·have h := (cond_some h).2
     split at h
     ·rename_i hr
      have h1 := hm _ _ hr
      exact Nat.le_trans h1 (endCall_nx hm h)
     ·rename_i hr
      have h1 := hm _ _ hr
      exact Nat.le_trans h1 (endPan_nx hm h)
     ·cases h
 | val f args s =>
  simp only [body, valF] at h
  split at h
  ·have h1 := hm _ _ h
   exact h1
  ·exact roundV_nx hm h
  ·cases h
theorem ev_nx (hE : MonoE E) : ∀ n, Mono (ev E n)
 | 0 => fun _ _ h => by cases h
 | n + 1 => body_nx hE (ev_nx hE n)
end
end Go.Eng
end
section
namespace Go.Eng
inductive DfR (μ : Mu) : List Deferred → List Deferred → Prop where
 | nil : DfR μ [] []
 | fn (f : FuncId) (c c' a a' : List Value) (r r' : List Deferred) (hc : LR μ c c') (ha : LR μ a a') (h : DfR μ r r') : DfR μ (⟨.fn (.func f) ⟨c⟩, ⟨a⟩⟩ :: r) (⟨.fn (.func f) ⟨c'⟩, ⟨a'⟩⟩ :: r')
 | coll (b : Nat) (g : Img) (r r' : List Deferred) (hg : μ b = some g) (h : DfR μ r r') : DfR μ (⟨.collected b, #[]⟩ :: r) (⟨.collected g.blk, #[]⟩ :: r')
theorem DfR.mono {μ μ' : Mu} (hm : μ.le μ') {l l' : List Deferred} : DfR μ l l' → DfR μ' l l'
 | .nil => .nil
 | .fn f c c' a a' r r' hc ha h => .fn f c c' a a' r r' (hc.mono hm) (ha.mono hm) (h.mono hm)
 | .coll b g r r' hg h => .coll b g r r' (hm _ _ hg) (h.mono hm)
structure FR (μ : Mu) (fr : Fr) (b : Frame) (a : Act) : Prop where
 fn : b.fn = fr.fn
 tm : TR μ fr.tm fr.n a.tmps
 df : DfR μ fr.defs a.defers
 rd : (fr.rd = none ∧ b.roundOf = none) ∨ ∃ l g, fr.rd = some l ∧ μ l = some g ∧ b.roundOf = some g.blk
theorem FR.mono {μ μ' : Mu} (hm : μ.le μ') {fr : Fr} {b : Frame} {a : Act} (h : FR μ fr b a) : FR μ' fr b a :=
 ⟨h.fn, h.tm.mono hm, h.df.mono hm, by
  rcases h.rd with h1 | ⟨l, g, h1, h2, h3⟩
  ·exact .inl h1
  ·exact .inr ⟨l, g, h1, hm _ _ h2, h3⟩⟩
theorem TR.put {μ : Mu} {tm : Tr Value} {n : Nat} {tmps : Array Value} (h : TR μ tm n tmps) {d : Nat} {v v' : Value} (hd : d < n) (hv : VR μ v v') : TR μ (tm.put (some v) d) n (tmps.setIfInBounds d v') := by
 refine ⟨by rw [Array.size_setIfInBounds]; exact h.1, fun t u hu => ?_⟩
 rcases Tr.get_put _ _ _ _ _ hu with ⟨e, he⟩ | ⟨e, he⟩
 ·subst e; injection he with he; subst he
  have := h.1
  refine ⟨by rw [Array.size_setIfInBounds]; omega, ?_⟩
  rw [Array.getD_eq_getD_getElem?, Array.getElem?_setIfInBounds, if_pos rfl, if_pos (by omega)]
  exact hv
 ·obtain ⟨h1, h2⟩ := h.2 t u he
  refine ⟨by rw [Array.size_setIfInBounds]; exact h1, ?_⟩
  rw [Array.getD_eq_getD_getElem?, Array.getElem?_setIfInBounds, if_neg (Ne.symm e), ← Array.getD_eq_getD_getElem?]
  exact h2
theorem setT_spec {fr fr' : Fr} {d p : Nat} {v : Value} (h : setT fr (some (d, p)) v = some fr') : d < fr.n ∧ fr' = ⟨fr.fn, fr.tm.put (some v) p, fr.n, fr.defs, fr.rd⟩ := by
 obtain ⟨fn, tm, n, defs, rd⟩ := fr
 simp only [setT] at h
 obtain ⟨h1, h2⟩ := cond_some h
 have hlt : d < n := Nat.le_of_ble_eq_true h1
 refine ⟨hlt, ?_⟩
 split at h2
 ·cases h2
 ·rename_i hp
  injection h2 with h2; subst h2
  simp only [hp]
theorem FR.put {μ : Mu} {fr fr' : Fr} {b : Frame} {a : Act} (h : FR μ fr b a) {dst : Option Tmp} {v v' : Value} (hs : setT fr (match dst with | none => none | some d => some (d, d)) v = some fr') (hv : VR μ v v') : FR μ fr' b (a.put dst v') := by
 cases dst with
 | none => simp only [setT] at hs; injection hs with hs; subst hs; exact h
 | some d =>
  obtain ⟨h1, h2⟩ := setT_spec hs
  subst h2
  exact ⟨h.fn, h.tm.put h1 hv, h.df, h.rd⟩
theorem eval_rho (a : Act) : a.eval = rho a.tmps := funext fun x => by cases x <;> rfl
def Quiet (c : Frame) : Prop := c.mode = .returning ∨ ∃ v, c.mode = .panicking [{ v := v, recovered := true }]
def Calm (b : Frame) (cs : List Frame) : Prop := b.kind = .normal ∨ (b.kind = .deferred ∧ ∃ c r, cs = c :: r ∧ Quiet c)
def After (e : Ex) (k todo : List Item) : Prop := match e with
 | .normal => todo = k
 | .exit id => ∃ j, todo = .code (.exit id) :: (j ++ k) ∧ exitTo id j = none
 | .ret => ∃ j, todo = .code .ret :: j
def Begins (c : Code) (b : Frame) (a : Act) (k : List Item) (cs : List Frame) (w : World) (m : Machine) : Prop :=
 m = lone (b.atR a (.code c :: k)) cs w ∨ ∃ body, c = .loop body ∧ m = lone (b.atR a (.inLoop body :: k)) cs w
def CodeOk (P : Program) (c : Code) (fr : Fr) (s : St) (e : Ex) (fr' : Fr) (s' : St) : Prop :=
 ∀ μ w b a k cs m, R μ s w → Fresh μ s.nx s'.nx → FR μ fr b a → Calm b cs → Begins c b a k cs w m →
  ∃ μ' w' a' todo, Steps P m (lone (b.atR a' todo) cs w') ∧ R μ' s' w' ∧ Ext μ s w μ' s' w' ∧ FR μ' fr' b a' ∧ After e k todo
def Enters (P : Program) (f : FuncId) : Prop := ∀ args w, (callFunc f args).run P w = .ok (.enter f args) w
def Ends (P : Program) (f : FuncId) (kind : CallKind) (fr : Frame) (w : World) (v : Value) : Prop :=
 fr.mode = .returning ∧ fr.defers = [] ∧ fr.kind = kind ∧ fr.fn = f ∧ ∃ fn, P.funcs[f]? = some fn ∧ (results fn fr.tmps).run P w = .ok v w
def CallOk (P : Program) (E : Env) (f : FuncId) (args : List Value) (s : St) (v : Value) (s' : St) : Prop :=
 Enters P f ∧ ∀ μ w args' kind cs, R μ s w → Fresh μ s.nx s'.nx → LR μ args args' → (kind = .normal ∨ (kind = .deferred ∧ E.sm f = none ∧ ∃ c r, cs = c :: r ∧ Quiet c)) →
  ∃ μ' w' v' fr, Steps P (lone (Frame.enter P f ⟨args'⟩ kind) cs w) (lone fr cs w') ∧ R μ' s' w' ∧ Ext μ s w μ' s' w' ∧ VR μ' v v' ∧ Ends P f kind fr w' v'
def EntersAs (P : Program) (nx : Next) (fr : Frame) : Prop :=
 (∃ f a, nx = .enter f a ∧ fr = Frame.enter P f a .normal) ∨ ∃ l f tmps assign body, nx = .round l f tmps assign body ∧ fr = Frame.round l f tmps assign body .normal
def applyV (f : Value) (args : Array Value) : Sem Next := do let d ← Deferred.ofValue f args; invoke d.target d.args
def ValOk (P : Program) (f : Value) (args : List Value) (s : St) (v : Value) (s' : St) : Prop :=
 ∀ μ w f' args' c cs, R μ s w → Fresh μ s.nx s'.nx → VR μ f f' → LR μ args args' →
  ∃ nx fr0 μ' w' v', (applyV f' ⟨args'⟩).run P w = .ok nx w ∧ EntersAs P nx fr0 ∧ Steps P (lone fr0 (c :: cs) w) (lone (c.finish v') cs w') ∧ R μ' s' w' ∧ Ext μ s w μ' s' w' ∧ VR μ' v v'
def panics (fr : Frame) (v : Value) : Frame := { fr with mode := .panicking [{ v := v, recovered := false }] }
def PanOk (P : Program) (c : Code) (fr : Fr) (s : St) (fr' : Fr) (v : Value) (s' : St) : Prop :=
 ∀ μ w b a k cs m, R μ s w → Fresh μ s.nx s'.nx → FR μ fr b a → Calm b cs → Begins c b a k cs w m →
  ∃ μ' w' a' todo v', Steps P m (lone (panics (b.atR a' todo) v') cs w') ∧ R μ' s' w' ∧ Ext μ s w μ' s' w' ∧ FR μ' fr' b a' ∧ VR μ' v v'
def CallThr (P : Program) (f : FuncId) (args : List Value) (s : St) (v : Value) (s' : St) : Prop :=
 Enters P f ∧ ∀ μ w args' cs, R μ s w → Fresh μ s.nx s'.nx → LR μ args args' →
  ∃ μ' w' v' fr, Steps P (lone (Frame.enter P f ⟨args'⟩ .normal) cs w) (lone (panics fr v') cs w') ∧ R μ' s' w' ∧ Ext μ s w μ' s' w' ∧ VR μ' v v' ∧ fr.defers = [] ∧ ∃ fn, P.funcs[fr.fn]? = some fn
def ValThr (P : Program) (f : Value) (args : List Value) (s : St) (v : Value) (s' : St) : Prop :=
 ∀ μ w f' args' c cs, R μ s w → Fresh μ s.nx s'.nx → VR μ f f' → LR μ args args' → c.mode = .run →
  ∃ nx fr0 μ' w' v', (applyV f' ⟨args'⟩).run P w = .ok nx w ∧ EntersAs P nx fr0 ∧ Steps P (lone fr0 (c :: cs) w) (lone (panics c v') cs w') ∧ R μ' s' w' ∧ Ext μ s w μ' s' w' ∧ VR μ' v v'
structure Sound (P : Program) (E : Env) (rec : Task → Option Res) : Prop where
 code : ∀ c fr s e fr' s', rec (.code c fr s) = some (.code e fr' s') → CodeOk P c fr s e fr' s'
 call : ∀ f args s v s', rec (.call f args s) = some (.val v s') → CallOk P E f args s v s'
 val : ∀ f args s v s', rec (.val f args s) = some (.val v s') → ValOk P f args s v s'
 pcode : ∀ c fr s fr' v s', rec (.code c fr s) = some (.pan fr' v s') → PanOk P c fr s fr' v s'
 pcall : ∀ f args s v s', rec (.call f args s) = some (.thr v s') → CallThr P f args s v s'
 pval : ∀ f args s v s', rec (.val f args s) = some (.thr v s') → ValThr P f args s v s'
section
variable {P : Program} {E : Env} {μ : Mu} {s s' : St} {w w' : World} {b : Frame} {a : Act} {k : List Item} {cs : List Frame} {ops : Array Oper} {o : Oper} {i : Nat} {rest : List Nat} {rec : Task → Option Res}
theorem step_value (ho : ops[i]? = some o) (hw : Region.wanted o (yielded ops a.tmps) = true) (hd : ∀ c, o.op ≠ .defer c) {v : Value} (hr : (execOp (rho a.tmps) o).run P w = .ok (.value v) w') :
  step P (lone (b.atR a (.inRegion ops (i :: rest) :: k)) cs w) = .next (lone (b.atR (a.put o.dst v) (.inRegion ops rest :: k)) cs w') := by
 have hfin : (b.atR a (.inRegion ops (i :: rest) :: k)).finish v = b.atR (a.put o.dst v) (.inRegion ops rest :: k) := by
  rw [Frame.finish_atR, ho]; rfl
 refine step_lone_go ?_
 rw [stepGR_op ho hw, Oper.semAt_eq _ _ _ hd, ← hfin, eval_rho]
 simp [stepG.apply, hr]
theorem step_skipv (ho : ops[i]? = some o) (hw : Region.wanted o (yielded ops a.tmps) = true) (hd : ∀ c, o.op ≠ .defer c) (hr : (execOp (rho a.tmps) o).run P w = .ok .skip w') :
  step P (lone (b.atR a (.inRegion ops (i :: rest) :: k)) cs w) = .next (lone (b.atR (a.put o.dst undef) (.inRegion ops rest :: k)) cs w') := by
 have hfin : (b.atR a (.inRegion ops (i :: rest) :: k)).finish undef = b.atR (a.put o.dst undef) (.inRegion ops rest :: k) := by
  rw [Frame.finish_atR, ho]; rfl
 refine step_lone_go ?_
 rw [stepGR_op ho hw, Oper.semAt_eq _ _ _ hd, ← hfin, eval_rho]
 simp [stepG.apply, hr]
theorem step_push (ho : ops[i]? = some o) (hw : Region.wanted o (yielded ops a.tmps) = true) (hd : ∀ c, o.op ≠ .defer c) {nx : Next} {fr0 : Frame} (hr : (execOp (rho a.tmps) o).run P w = .ok nx w') (he : EntersAs P nx fr0) :
  step P (lone (b.atR a (.inRegion ops (i :: rest) :: k)) cs w) = .next (lone fr0 (b.atR a (.inRegion ops (i :: rest) :: k) :: cs) w') := by
 refine step_lone_go ?_
 rw [stepGR_op ho hw, Oper.semAt_eq _ _ _ hd, eval_rho]
 rcases he with ⟨f, ar, rfl, rfl⟩ | ⟨l, f, tmps, as, bo, rfl, rfl⟩
 ·simp [stepG.apply, hr, Frame.atR]
 ·simp [stepG.apply, hr, Frame.atR]
theorem undef_rel (μ : Mu) : VR μ undefV undef := .tuple [] [] .nil
theorem want_ok {tm : Tr Value} {n : Nat} (ht : TR μ tm n a.tmps) {g : Option (Nat × Bool)} (hg : guardT ops.toList o = some g) {t : Bool} (hw : wantB tm g = some t) : Region.wanted o (yielded ops a.tmps) = t := by
 unfold guardT at hg
 split at hg
 ·rename_i h0
  injection hg with hg; subst hg
  injection hw with hw; subst hw
  simp [Region.wanted, h0]
 ·rename_i j want h0
  split at hg
  case h_2 => cases hg
  rename_i gg hgg
  split at hg
  case h_2 => cases hg
  rename_i d hd
  injection hg with hg; subst hg
  have hgg' : ops[j]? = some gg := by rw [← Array.getElem?_toList]; exact hgg
  have hy : ∀ u, a.tmps.getD d undef = u → d < a.tmps.size → yielded ops a.tmps j = match u with | .bool b => some b | _ => none := by
   intro u hu hlt
   have : a.tmps[d]? = some u := by
    rw [Array.getElem?_eq_getElem hlt]
    rw [Array.getD_eq_getD_getElem?, Array.getElem?_eq_getElem hlt] at hu
    rw [← hu]; rfl
   unfold yielded
   rw [hgg']
   simp only [Option.bind_some, hd, this]
   cases u <;> rfl
  simp only [wantB] at hw
  split at hw
  ·rename_i bb hb
   injection hw with hw; subst hw
   obtain ⟨h1, h2⟩ := ht.2 _ _ hb
   generalize hu : a.tmps.getD d undef = u at h2
   cases h2
   simp only [Region.wanted, h0, hy _ hu h1]
   cases want <;> cases bb <;> rfl
  ·rename_i vs hb
   injection hw with hw; subst hw
   obtain ⟨h1, h2⟩ := ht.2 _ _ hb
   generalize hu : a.tmps.getD d undef = u at h2
   cases h2
   simp only [Region.wanted, h0, hy _ hu h1]
   rfl
  ·cases hw
end
end Go.Eng
end
section
namespace Go.Eng
section
variable {E : Env}
theorem compO_p {op : Op} {q : PO} (h : compO E op = some (.p q)) : compP E op = some q := by
 unfold compO at h
 repeat' split at h
 all_goals cases h
 assumption
theorem compO_l {op : Op} {q : LO} (h : compO E op = some (.l q)) : compL E op = some q := by
 unfold compO at h
 repeat' split at h
 all_goals cases h
 assumption
theorem compO_m {op : Op} {q : MO} (h : compO E op = some (.m q)) : compM E op = some q := by
 unfold compO at h
 repeat' split at h
 all_goals cases h
 assumption
theorem compO_w {op : Op} {q : WO} (h : compO E op = some (.w q)) : compW E op = some q := by
 unfold compO at h
 repeat' split at h
 all_goals cases h
 assumption
theorem compO_call {op : Op} {f : RP} {l : List RP} (h : compO E op = some (.call f l)) : ∃ c g, op = .call c ∧ c.callee = .value g ∧ f = rp g ∧ l = rpL c.args.toList := by
 unfold compO at h
 repeat' split at h
 all_goals cases h
 exact ⟨_, _, rfl, ‹_›, rfl, rfl⟩
theorem compO_inv {op : Op} {n : String} {r : RP} {l : List RP} (h : compO E op = some (.inv n r l)) : ∃ c g, op = .call c ∧ c.callee = .invoke g n ∧ r = rp g ∧ l = rpL c.args.toList := by
 unfold compO at h
 repeat' split at h
 all_goals cases h
 exact ⟨_, _, rfl, ‹_›, rfl, rfl⟩
theorem compO_dfr {op : Op} {f : RP} {l : List RP} (h : compO E op = some (.dfr f l)) : ∃ c g, op = .defer c ∧ c.callee = .value g ∧ f = rp g ∧ l = rpL c.args.toList := by
 unfold compO at h
 repeat' split at h
 all_goals cases h
 exact ⟨_, _, rfl, ‹_›, rfl, rfl⟩
theorem compO_pnc {op : Op} {x : RP} (h : compO E op = some (.pnc x)) : ∃ y, op = .panic y ∧ x = rp y := by
 unfold compO at h
 repeat' split at h
 all_goals cases h
 exact ⟨_, rfl, rfl⟩
theorem compO_rcv {op : Op} (h : compO E op = some .rcv) : ∃ c, op = .call c ∧ c.callee = .builtin .recover := by
 unfold compO at h
 repeat' split at h
 all_goals cases h
 exact ⟨_, rfl, ‹_›⟩
theorem notDefer {op : Op} {q : RO} (h : compO E op = some q) (hq : ∀ f l, q ≠ .dfr f l) : ∀ c, op ≠ .defer c := by
 intro c hc
 subst hc
 simp only [compO, compP, compL, compM, compW] at h
 split at h
 ·injection h with h; exact hq _ _ h.symm
 ·cases h
end
section
variable {P : Program} {E : Env} {μ : Mu} {s s' : St} {w w' : World} {b : Frame} {a : Act} {k : List Item} {cs : List Frame} {ops : Array Oper} {o : Oper} {i : Nat} {rest : List Nat} {rec : Task → Option Res}
theorem compX_spec {x : RX} (h : compX E ops.toList o = some x) : guardT ops.toList o = some x.g ∧ compO E o.op = some x.o ∧ x.d = (match o.dst with | none => none | some d => some (d, d)) := by
 unfold compX at h
 split at h
 ·rename_i hg hr
  injection h with h; subst h
  exact ⟨hg, hr, rfl⟩
 ·cases h
theorem recover_none (hc : Calm b cs) {todo : List Item} : tryRecover (b.atR a todo) cs = none := by
 rcases hc with h | ⟨h, c, r, rfl, h2 | ⟨v, h2⟩⟩
 ·simp [tryRecover, Frame.atR, h]
 ·simp [tryRecover, Frame.atR, h, h2]
 ·simp [tryRecover, Frame.atR, h, h2]
theorem execOp_call {ρ : Operand → Value} {c : Call} {g : Operand} (hop : o.op = .call c) (hc : c.callee = .value g) : execOp ρ o = applyV (ρ g) ⟨c.args.toList.map ρ⟩ := by
 have : (⟨c.args.toList.map ρ⟩ : Array Value) = c.args.map ρ := by apply Array.toList_inj.1; simp
 rw [this]
 simp only [execOp, hop, resolve, hc]
 rfl
theorem execOp_inv {ρ : Operand → Value} {c : Call} {g : Operand} {n : String} (hop : o.op = .call c) (hc : c.callee = .invoke g n) : execOp ρ o = callMethod (ρ g) n ⟨c.args.toList.map ρ⟩ := by
 have : (⟨c.args.toList.map ρ⟩ : Array Value) = c.args.map ρ := by apply Array.toList_inj.1; simp
 rw [this]
 simp only [execOp, hop, resolve, hc]
 show (invoke (.fn (.method n) #[]) (#[ρ g] ++ c.args.map ρ) : Sem Next) = _
 have h1 : (#[ρ g] ++ c.args.map ρ)[0]? = some (ρ g) := by rw [Array.getElem?_append_left (by simp)]; rfl
 have h2 : (#[ρ g] ++ c.args.map ρ).extract 1 (#[ρ g] ++ c.args.map ρ).size = c.args.map ρ := by
  apply Array.toList_inj.1; simp
  apply List.take_of_length_le; simp
 simp only [invoke, h1, h2]
theorem opStep (hE : EnvOk P E) (hs : Sound P E rec) (ho : ops[i]? = some o) {x : RX} (hx : compX E ops.toList o = some x) {fr fr' : Fr} {rd : Option LD} (h1 : oneX rec E.mt fr s x = .ok fr' s' rd)
  (hq2 : ∀ f l, x.o ≠ .dfr f l) (hR : R μ s w) (hF : Fresh μ s.nx s'.nx) (hfr : FR μ fr b a) (hcalm : Calm b cs) :
  ∃ μ' w' v v', Steps P (lone (b.atR a (.inRegion ops (i :: rest) :: k)) cs w) (lone (b.atR (a.put o.dst v') (.inRegion ops rest :: k)) cs w') ∧ R μ' s' w' ∧ Ext μ s w μ' s' w' ∧ VR μ' v v' ∧ setT fr x.d v = some fr' := by
 obtain ⟨hg, hc, hd⟩ := compX_spec hx
 have hnd := notDefer hc hq2
 unfold oneX at h1
 split at h1
 ·cases h1
 · -- wanted
  rename_i hwant
  have hw := want_ok hfr.tm hg hwant
  have hoo : o = ⟨o.dst, o.op, o.type, o.pos, o.after, o.guard⟩ := rfl
  cases hxo : x.o with
  | p q =>
   rw [hxo] at h1 hc
   simp only [oneOp, opP] at h1
   split at h1
   ·cases h1
   rename_i v hv
   obtain ⟨e1, e2, _⟩ := putF_ok h1
   subst e2
   obtain ⟨v', r1, r2⟩ := pure_ok hE hfr.tm (compO_p hc) hv o.dst o.type o.pos o.after o.guard w
   exact ⟨μ, w, v, v', .one (step_value ho hw hnd r1), hR, .refl, r2, e1⟩
  | l q =>
   rw [hxo] at h1 hc
   simp only [oneOp, opL] at h1
   split at h1
   ·cases h1
   rename_i ld hld
   split at h1
   ·cases h1
   rename_i v hv
   obtain ⟨e1, e2, _⟩ := putF_ok h1
   subst e2
   obtain ⟨v', r1, r2⟩ := load_ok hE hfr.tm (compO_l hc) hld hR hv o.dst o.type o.pos o.after o.guard
   exact ⟨μ, w, v, v', .one (step_value ho hw hnd r1), hR, .refl, r2, e1⟩
  | m q =>
   rw [hxo] at h1 hc
   simp only [oneOp, opM] at h1
   split at h1
   ·cases h1
   rename_i ob t hq
   obtain ⟨e1, e2, _⟩ := putF_ok h1
   subst e2
   obtain ⟨v', w', μ', r1, r2, r3, r4⟩ := make_ok hE hfr.tm (compO_m hc) hq hR (hF s.nx (Nat.le_refl _) (by rw [newO_nx]; omega)) o.dst o.type o.pos o.after o.guard
   exact ⟨μ', w', _, v', .one (step_value ho hw hnd r1), r2, r3, r4, e1⟩
  | w q =>
   rw [hxo] at h1 hc
   simp only [oneOp, opW] at h1
   split at h1
   ·cases h1
   rename_i v s1 hq
   obtain ⟨e1, e2, _⟩ := putF_ok h1
   subst e2
   obtain ⟨r, w', μ', r1, r2, r3, r4⟩ := write_ok hE hfr.tm (compO_w hc) hq hR (fun hl => hF s.nx (Nat.le_refl _) hl) o.dst o.type o.pos o.after o.guard
   rcases r4 with ⟨h5, h6⟩ | ⟨v', h5, h6⟩
   ·subst h5; subst h6
    exact ⟨μ', w', _, undef, .one (step_skipv ho hw hnd r1), r2, r3, undef_rel _, e1⟩
   ·subst h5
    exact ⟨μ', w', v, v', .one (step_value ho hw hnd r1), r2, r3, h6, e1⟩
  | call f args =>
   rw [hxo] at h1 hc
   simp only [oneOp, opC] at h1
   split at h1
   case h_2 => cases h1
   rename_i g l hf hl
   split at h1
   case h_2 => cases h1
   case h_3 => cases h1
   rename_i v s1 hrec
   obtain ⟨e1, e2, _⟩ := putF_ok h1
   subst e2
   obtain ⟨c, g0, hop, hcal, hf0, hl0⟩ := compO_call hc
   subst hf0; subst hl0
   obtain ⟨nx, fr0, μ', w', v', q1, q2, q3, q4, q5, q6⟩ := hs.val _ _ _ _ _ hrec μ w (rho a.tmps g0) (c.args.toList.map (rho a.tmps)) (b.atR a (.inRegion ops (i :: rest) :: k)) cs hR hF (rp_rel hfr.tm hf) (rpL_rel hfr.tm hl)
   refine ⟨μ', w', v, v', .head (step_push (w' := w) ho hw hnd ?_ q2) ?_, q4, q5, q6, e1⟩
   ·rw [← q1, execOp_call hop hcal]
   ·have hfin : (b.atR a (.inRegion ops (i :: rest) :: k)).finish v' = b.atR (a.put o.dst v') (.inRegion ops rest :: k) := by
     rw [Frame.finish_atR, ho]; rfl
    rw [← hfin]; exact q3
  | inv n r args =>
   rw [hxo] at h1 hc
   simp only [oneOp, opI] at h1
   split at h1
   case h_2 => cases h1
   rename_i t v0 l hr hl
   split at h1
   case h_2 => cases h1
   rename_i f hmt
   split at h1
   case h_2 => cases h1
   case h_3 => cases h1
   rename_i v s1 hrec
   obtain ⟨e1, e2, _⟩ := putF_ok h1
   subst e2
   obtain ⟨c, g0, hop, hcal, hf0, hl0⟩ := compO_inv hc
   subst hf0; subst hl0
   obtain ⟨hen, hcall⟩ := hs.call _ _ _ _ _ hrec
   have hrv := rp_rel hfr.tm hr
   generalize hrr : rho a.tmps g0 = rr at hrv
   cases hrv with
   | iface _ _ vv hvv =>
   obtain ⟨μ', w', v', frE, q3, q4, q5, q6, q7⟩ := hcall μ w (vv :: c.args.toList.map (rho a.tmps)) .normal (b.atR a (.inRegion ops (i :: rest) :: k) :: cs) hR hF (.cons _ _ _ _ hvv (rpL_rel hfr.tm hl)) (.inl rfl)
   refine ⟨μ', w', v, v', .head (step_push ho hw hnd (nx := .enter f ⟨vv :: c.args.toList.map (rho a.tmps)⟩) (w' := w) ?_ (.inl ⟨_, _, rfl, rfl⟩)) (q3.trans (.one ?_)), q4, q5, q6, e1⟩
   ·rw [execOp_inv hop hcal, hrr]
    simp only [callMethod, Sem.run_bind, run_program, Result.andThen_ok, hE.mt _ _ _ vv w hmt]
    have e1 : #[vv] ++ (⟨c.args.toList.map (rho a.tmps)⟩ : Array Value) = ⟨vv :: c.args.toList.map (rho a.tmps)⟩ := by apply Array.toList_inj.1; simp
    rw [e1]
    exact hen _ _
   ·have hfin : (b.atR a (.inRegion ops (i :: rest) :: k)).finish v' = b.atR (a.put o.dst v') (.inRegion ops rest :: k) := by
     rw [Frame.finish_atR, ho]; rfl
    rw [← hfin]
    obtain ⟨z1, z2, z3, z4, fn, z5, z6⟩ := q7
    exact step_leave_returned ⟨z1, z2, z3, fn, by rw [z4]; exact z5, z6⟩
  | dfr f l => exact absurd hxo (hq2 f l)
  | pnc y =>
   rw [hxo] at h1
   simp only [oneOp, opN] at h1
   split at h1 <;> cases h1
  | rcv =>
   rw [hxo] at h1 hc
   simp only [oneOp, opR] at h1
   split at h1
   ·cases h1
   rename_i hrd
   obtain ⟨e1, e2, _⟩ := putF_ok h1
   subst e2
   obtain ⟨c, hop, hcal⟩ := compO_rcv hc
   refine ⟨μ, w, .nilIface, .nilIface, .one ?_, hR, .refl, .nilIface, e1⟩
   have hro : b.roundOf = none := by
    rcases hfr.rd with ⟨_, h⟩ | ⟨l, g, h, _⟩
    ·exact h
    ·rw [hrd] at h; cases h
   have hfin : (b.atR a (.inRegion ops (i :: rest) :: k)).finish .nilIface = b.atR (a.put o.dst .nilIface) (.inRegion ops rest :: k) := by
    rw [Frame.finish_atR, ho]; rfl
   refine step_lone_go ?_
   rw [stepGR_op ho hw, Oper.semAt_eq _ _ _ hnd, ← hfin]
   have hrun : (execOp a.eval o).run P w = .ok .recover w := by
    simp [execOp, hop, resolve, hcal, invoke, builtin]
   have hto : (b.atR a (.inRegion ops (i :: rest) :: k)).roundOf = none := hro
   simp [stepG.apply, hrun, hto, recover_none hcalm]
 · -- not wanted
  rename_i hwant
  have hw := want_ok hfr.tm hg hwant
  obtain ⟨e1, e2, _⟩ := putF_ok h1
  subst e2
  refine ⟨μ, w, undefV, undef, .one ?_, hR, .refl, undef_rel _, e1⟩
  have := stepR_op_skip (P := P) (b := b) (a := a) (k := k) (cs := cs) (w := w) (ops := ops) (i := i) (rest := rest) (by rw [ho]; simp [hw])
  rw [this, ho]; rfl
theorem execOp_pnc {ρ : Operand → Value} {y : Operand} (hop : o.op = .panic y) {t : TypeId} {v : Value} (hv : ρ y = .iface t v) (w : World) : (execOp ρ o).run P w = .halt (.panic (.iface t v)) w := by
 simp [execOp, hop, hv, Instr.panic, goPanic]
theorem opPan (hE : EnvOk P E) (hs : Sound P E rec) (ho : ops[i]? = some o) {x : RX} (hx : compX E ops.toList o = some x) {fr : Fr} {v : Value} (h1 : oneX rec E.mt fr s x = .pan v s')
  (hR : R μ s w) (hF : Fresh μ s.nx s'.nx) (hfr : FR μ fr b a) :
  ∃ μ' w' v', Steps P (lone (b.atR a (.inRegion ops (i :: rest) :: k)) cs w) (lone (panics (b.atR a (.inRegion ops (i :: rest) :: k)) v') cs w') ∧ R μ' s' w' ∧ Ext μ s w μ' s' w' ∧ VR μ' v v' := by
 obtain ⟨hg, hc, hd⟩ := compX_spec hx
 obtain ⟨hwant, hh⟩ := oneX_pan h1
 have hw := want_ok hfr.tm hg hwant
 rcases hh with ⟨y, t, u, hxo, hy, rfl, rfl⟩ | ⟨f, args, g, l, hxo, hf, hl, hrec⟩ | ⟨name, y, args, t, u, l, f, hxo, hy, hl, hmt, hrec⟩
 ·rw [hxo] at hc
  obtain ⟨y0, hop, rfl⟩ := compO_pnc hc
  have hnd : ∀ c, o.op ≠ .defer c := fun c h => by rw [h] at hop; cases hop
  have hv := rp_rel hfr.tm hy
  generalize hrr : rho a.tmps y0 = rr at hv
  cases hv with
  | iface _ _ vv hvv =>
  refine ⟨μ, w, .iface t vv, .one ?_, hR, .refl, .iface _ _ _ hvv⟩
  refine step_lone_go ?_
  rw [stepGR_op ho hw, Oper.semAt_eq _ _ _ hnd, eval_rho]
  simp [stepG.apply, execOp_pnc hop hrr w, Frame.raise, panics, Frame.atR]
 ·rw [hxo] at hc
  obtain ⟨c, g0, hop, hcal, hf0, hl0⟩ := compO_call hc
  subst hf0; subst hl0
  have hnd : ∀ c, o.op ≠ .defer c := fun c h => by rw [h] at hop; cases hop
  obtain ⟨nx, fr0, μ', w', v', q1, q2, q3, q4, q5, q6⟩ := hs.pval _ _ _ _ _ hrec μ w (rho a.tmps g0) (c.args.toList.map (rho a.tmps)) (b.atR a (.inRegion ops (i :: rest) :: k)) cs hR hF (rp_rel hfr.tm hf) (rpL_rel hfr.tm hl) rfl
  exact ⟨μ', w', v', .head (step_push (w' := w) ho hw hnd (by rw [← q1, execOp_call hop hcal]) q2) q3, q4, q5, q6⟩
 ·rw [hxo] at hc
  obtain ⟨c, g0, hop, hcal, hf0, hl0⟩ := compO_inv hc
  subst hf0; subst hl0
  have hnd : ∀ c, o.op ≠ .defer c := fun c h => by rw [h] at hop; cases hop
  obtain ⟨hen, hcall⟩ := hs.pcall _ _ _ _ _ hrec
  have hrv := rp_rel hfr.tm hy
  generalize hrr : rho a.tmps g0 = rr at hrv
  cases hrv with
  | iface _ _ vv hvv =>
  obtain ⟨μ', w', v', frE, q3, q4, q5, q6, q7, q8⟩ := hcall μ w (vv :: c.args.toList.map (rho a.tmps)) (b.atR a (.inRegion ops (i :: rest) :: k) :: cs) hR hF (.cons _ _ _ _ hvv (rpL_rel hfr.tm hl))
  refine ⟨μ', w', v', .head (step_push ho hw hnd (nx := .enter f ⟨vv :: c.args.toList.map (rho a.tmps)⟩) (w' := w) ?_ (.inl ⟨_, _, rfl, rfl⟩)) (q3.trans (.one ?_)), q4, q5, q6⟩
  ·rw [execOp_inv hop hcal, hrr]
   simp only [callMethod, Sem.run_bind, run_program, Result.andThen_ok, hE.mt _ _ _ vv w hmt]
   have e1 : #[vv] ++ (⟨c.args.toList.map (rho a.tmps)⟩ : Array Value) = ⟨vv :: c.args.toList.map (rho a.tmps)⟩ := by apply Array.toList_inj.1; simp
   rw [e1]
   exact hen _ _
  ·have := step_going_panicked (P := P) (fr := panics frE v') (c := b.atR a (.inRegion ops (i :: rest) :: k)) (cs := cs) (w := w') (chain := [{ v := v', recovered := false }]) ⟨rfl, q7, q8⟩
   exact this
end
end Go.Eng
end
section
namespace Go.Eng
section
variable {P : Program} {E : Env} {μ : Mu} {s s' : St} {w w' : World} {b : Frame} {a : Act} {k : List Item} {cs : List Frame} {ops : Array Oper} {o : Oper} {i : Nat} {rest : List Nat} {rec : Task → Option Res}
theorem deferStep (ho : ops[i]? = some o) {x : RX} (hx : compX E ops.toList o = some x) {fr fr' : Fr} {rd : Option LD} {mt : Nat → String → Option FuncId} (h1 : oneX rec mt fr s x = .ok fr' s' rd)
  {f : RP} {l : List RP} (hq : x.o = .dfr f l) (hR : R μ s w) (hfr : FR μ fr b a) :
  ∃ a', Steps P (lone (b.atR a (.inRegion ops (i :: rest) :: k)) cs w) (lone (b.atR a' (.inRegion ops rest :: k)) cs w) ∧ s' = s ∧ FR μ fr' b a' := by
 obtain ⟨hg, hc, hd⟩ := compX_spec hx
 unfold oneX at h1
 split at h1
 ·cases h1
 ·rename_i hwant
  have hw := want_ok hfr.tm hg hwant
  rw [hq] at h1 hc
  simp only [oneOp, opD] at h1
  split at h1
  ·cases h1
  rename_i hrd
  split at h1
  case h_2 => cases h1
  rename_i g first captured la hf hl
  obtain ⟨e1, e2, _⟩ := putF_ok h1
  obtain ⟨c, g0, hop, hcal, hf0, hl0⟩ := compO_dfr hc
  subst hf0; subst hl0
  have hro : b.roundOf = none := by
   rcases hfr.rd with ⟨_, h⟩ | ⟨l, g, h, _⟩
   ·exact h
   ·rw [hrd] at h; cases h
  have hv := rp_rel hfr.tm hf
  have hls := rpL_rel hfr.tm hl
  generalize hrr : rho a.tmps g0 = rr at hv
  cases hv with
  | func _ c0 d0 c1 d1 h5 h6 =>
   let dd : Deferred := ⟨.fn (.func g) ⟨d1⟩, ⟨c1 ++ c.args.toList.map (rho a.tmps)⟩⟩
   have hargs : c.args.map (rho a.tmps) = ⟨c.args.toList.map (rho a.tmps)⟩ := by apply Array.toList_inj.1; simp
   have hsum : (⟨c1⟩ : Array Value) ++ ⟨c.args.toList.map (rho a.tmps)⟩ = ⟨c1 ++ c.args.toList.map (rho a.tmps)⟩ := by apply Array.toList_inj.1; simp
   have hrun : (execOp (rho a.tmps) o).run P w = .ok (.defer dd) w := by
    simp only [execOp, hop, resolve, hcal, hrr, Deferred.ofValue, hargs, hsum, Sem.run_bind, Sem.run_pure, Result.andThen_ok]
    rfl
   refine ⟨({ a with defers := dd :: a.defers } : Act).put o.dst undef, .one ?_, e2, ?_⟩
   ·have hfin : ({ b.atR a (.inRegion ops (i :: rest) :: k) with defers := dd :: a.defers } : Frame).finish undef =
      b.atR (({ a with defers := dd :: a.defers } : Act).put o.dst undef) (.inRegion ops rest :: k) := by
     have := Frame.finish_atR b { a with defers := dd :: a.defers } ops i rest k undef
     rw [ho] at this; exact this
    refine step_lone_go ?_
    rw [stepGR_op ho hw, hro, Oper.semAt_none, eval_rho]
    simp only [stepG.apply, Sem.runT_eq, hrun, GStep.bare_after, if_true]
    exact congrArg (fun fr => GStep.go { frame := fr, callers := cs, status := .running, dying := none } w) hfin
   ·have hf2 : FR μ (pushD fr ⟨.fn (.func g) ⟨d0⟩, ⟨c0 ++ la⟩⟩) b { a with defers := dd :: a.defers } := by
     obtain ⟨fn, tm, n, defs, rd⟩ := fr
     exact ⟨hfr.fn, hfr.tm, .fn g _ _ _ _ _ _ h6 (h5.append hls) hfr.df, hfr.rd⟩
    rw [hd] at e1
    exact hf2.put e1 (undef_rel μ)
 ·rename_i hwant
  have hw := want_ok hfr.tm hg hwant
  obtain ⟨e1, e2, _⟩ := putF_ok h1
  refine ⟨a.put o.dst undef, .one ?_, e2, ?_⟩
  ·have := stepR_op_skip (P := P) (b := b) (a := a) (k := k) (cs := cs) (w := w) (ops := ops) (i := i) (rest := rest) (by rw [ho]; simp [hw])
   rw [this, ho]; rfl
  ·rw [hd] at e1
   exact hfr.put e1 (undef_rel μ)
theorem op_ok (hE : EnvOk P E) (hs : Sound P E rec) (ho : ops[i]? = some o) {x : RX} (hx : compX E ops.toList o = some x) {fr fr' : Fr} {rd : Option LD} (h1 : oneX rec E.mt fr s x = .ok fr' s' rd)
  (hR : R μ s w) (hF : Fresh μ s.nx s'.nx) (hfr : FR μ fr b a) (hcalm : Calm b cs) :
  ∃ μ1 w1 a1, Steps P (lone (b.atR a (.inRegion ops (i :: rest) :: k)) cs w) (lone (b.atR a1 (.inRegion ops rest :: k)) cs w1) ∧ R μ1 s' w1 ∧ Ext μ s w μ1 s' w1 ∧ FR μ1 fr' b a1 := by
 by_cases hq : ∃ f l, x.o = .dfr f l
 ·obtain ⟨f, l, hq⟩ := hq
  obtain ⟨a', q1, q2, q3⟩ := deferStep (P := P) (k := k) (cs := cs) (rest := rest) ho hx h1 hq hR hfr
  subst q2
  exact ⟨μ, w, a', q1, hR, .refl, q3⟩
 ·obtain ⟨μ1, w1, v, v', q1, q2, q3, q4, q5⟩ := opStep (k := k) (rest := rest) hE hs ho hx h1 (fun f l hfl => hq ⟨f, l, hfl⟩) hR hF hfr hcalm
  rw [(compX_spec hx).2.2] at q5
  exact ⟨μ1, w1, _, q1, q2, q3, (hfr.mono q3.mu).put q5 q4⟩
theorem seq_ok (hE : EnvOk P E) (hs : Sound P E rec) (hm : Mono rec) : ∀ (os : List Oper) (j : Nat) {l : List RX} {fr fr' : Fr} {s s' : St} {e : Ex} {μ : Mu} {w : World} {a : Act}, ops.toList.drop j = os → compR E ops.toList os = some l →
  seqOps rec E.mt l fr s = some (.code e fr' s') → R μ s w → Fresh μ s.nx s'.nx → FR μ fr b a → Calm b cs →
  ∃ μ' w' a', Steps P (lone (b.atR a (.inRegion ops (List.range' j os.length) :: k)) cs w) (lone (b.atR a' (.inRegion ops [] :: k)) cs w') ∧ R μ' s' w' ∧ Ext μ s w μ' s' w' ∧ FR μ' fr' b a' ∧ e = .normal
 | [], j, l, fr, fr', s, s', e, μ, w, a, _, hc, h, hR, hF, hfr, hcalm => by
  injection hc with hc; subst hc
  injection h with h; injection h with h1 h2 h3
  subst h1; subst h2; subst h3
  exact ⟨μ, w, a, .refl _ _, hR, .refl, hfr, rfl⟩
 | o :: os, j, l, fr, fr', s, s', e, μ, w, a, hdr, hc, h, hR, hF, hfr, hcalm => by
  simp only [compR] at hc
  split at hc
  ·cases hc
  rename_i x hx
  split at hc
  ·cases hc
  rename_i l1 hl1
  injection hc with hc; subst hc
  simp only [seqOps] at h
  split at h
  ·cases h
  case h_3 => cases h
  rename_i fr1 s1 rd h1
  have ho : ops[j]? = some o := by
   have := congrArg (fun l => l[0]?) hdr
   simp only [List.getElem?_drop, Nat.add_zero, List.getElem?_cons_zero] at this
   rw [← Array.getElem?_toList]; exact this
  have hdr' : ops.toList.drop (j + 1) = os := by
   have := congrArg List.tail hdr
   simpa [List.tail_drop] using this
  have hn1 := oneX_nx hm h1
  have hn2 := seqOps_nx hm h
  simp only [Res.st] at hn2
  have hF1 : Fresh μ s.nx s1.nx := hF.sub (Nat.le_refl _) hn2
  have hrest : List.range' j (o :: os).length = j :: List.range' (j + 1) os.length := by
   rw [List.length_cons, List.range'_succ]
  rw [hrest]
  have step1 := op_ok (k := k) (rest := List.range' (j + 1) os.length) hE hs ho hx h1 hR hF1 hfr hcalm
  obtain ⟨μ1, w1, a1, q1, q2, q3, q4⟩ := step1
  have hF2 : Fresh μ1 s1.nx s'.nx := q3.fresh hF
  obtain ⟨μ2, w2, a2, z1, z2, z3, z4, z5⟩ := seq_ok hE hs hm os (j + 1) hdr' hl1 h q2 hF2 q4 hcalm
  exact ⟨μ2, w2, a2, q1.trans z1, z2, q3.trans z3, z4, z5⟩
theorem seq_pan (hE : EnvOk P E) (hs : Sound P E rec) (hm : Mono rec) : ∀ (os : List Oper) (j : Nat) {l : List RX} {fr fr' : Fr} {s s' : St} {v : Value} {μ : Mu} {w : World} {a : Act}, ops.toList.drop j = os → compR E ops.toList os = some l →
  seqOps rec E.mt l fr s = some (.pan fr' v s') → R μ s w → Fresh μ s.nx s'.nx → FR μ fr b a → Calm b cs →
  ∃ μ' w' a' todo v', Steps P (lone (b.atR a (.inRegion ops (List.range' j os.length) :: k)) cs w) (lone (panics (b.atR a' todo) v') cs w') ∧ R μ' s' w' ∧ Ext μ s w μ' s' w' ∧ FR μ' fr' b a' ∧ VR μ' v v'
 | [], j, l, fr, fr', s, s', v, μ, w, a, _, hc, h, hR, hF, hfr, hcalm => by
  injection hc with hc; subst hc
  cases h
 | o :: os, j, l, fr, fr', s, s', v, μ, w, a, hdr, hc, h, hR, hF, hfr, hcalm => by
  simp only [compR] at hc
  split at hc
  ·cases hc
  rename_i x hx
  split at hc
  ·cases hc
  rename_i l1 hl1
  injection hc with hc; subst hc
  have ho : ops[j]? = some o := by
   have := congrArg (fun l => l[0]?) hdr
   simp only [List.getElem?_drop, Nat.add_zero, List.getElem?_cons_zero] at this
   rw [← Array.getElem?_toList]; exact this
  have hdr' : ops.toList.drop (j + 1) = os := by
   have := congrArg List.tail hdr
   simpa [List.tail_drop] using this
  have hrest : List.range' j (o :: os).length = j :: List.range' (j + 1) os.length := by
   rw [List.length_cons, List.range'_succ]
  rw [hrest]
  simp only [seqOps] at h
  split at h
  ·cases h
  ·rename_i fr1 s1 rd h1
   have hn1 := oneX_nx hm h1
   have hn2 := seqOps_nx hm h
   simp only [Res.st] at hn2
   have hF1 : Fresh μ s.nx s1.nx := hF.sub (Nat.le_refl _) hn2
   obtain ⟨μ1, w1, a1, q1, q2, q3, q4⟩ := op_ok (k := k) (rest := List.range' (j + 1) os.length) hE hs ho hx h1 hR hF1 hfr hcalm
   obtain ⟨μ2, w2, a2, t2, v2, z1, z2, z3, z4, z5⟩ := seq_pan hE hs hm os (j + 1) hdr' hl1 h q2 (q3.fresh hF) q4 hcalm
   exact ⟨μ2, w2, a2, t2, v2, q1.trans z1, z2, q3.trans z3, z4, z5⟩
  ·rename_i u s1 h1
   cases h
   obtain ⟨μ1, w1, v', q1, q2, q3, q4⟩ := opPan (k := k) (cs := cs) (rest := List.range' (j + 1) os.length) hE hs ho hx h1 hR hF hfr
   exact ⟨μ1, w1, a, _, v', q1, q2, q3, hfr.mono q3.mu, q4⟩
theorem region_pan (hE : EnvOk P E) (hs : Sound P E rec) (hm : Mono rec) {id : Nat} {fr fr' : Fr} {s s' : St} {v : Value} (h : regionF E rec ops.toList fr s = some (.pan fr' v s')) : PanOk P (.region id ops false) fr s fr' v s' := by
 intro μ w b a k cs m hR hF hfr hcalm hb
 rcases hb with rfl | ⟨_, hb, _⟩
 case inr => cases hb
 unfold regionF at h
 split at h
 ·cases h
 rename_i l hl
 obtain ⟨μ', w', a', t', v', h1, h2, h3, h4, h5⟩ := seq_pan (b := b) (cs := cs) (k := k) hE hs hm ops.toList 0 rfl hl h hR hF hfr hcalm
 refine ⟨μ', w', a', t', v', .head stepR_region ?_, h2, h3, h4, h5⟩
 rw [List.range_eq_range']; exact h1
theorem region_ok (hE : EnvOk P E) (hs : Sound P E rec) (hm : Mono rec) {id : Nat} {fr fr' : Fr} {s s' : St} {e : Ex} (h : regionF E rec ops.toList fr s = some (.code e fr' s')) : CodeOk P (.region id ops false) fr s e fr' s' := by
 intro μ w b a k cs m hR hF hfr hcalm hb
 rcases hb with rfl | ⟨_, hb, _⟩
 case inr => cases hb
 unfold regionF at h
 split at h
 ·cases h
 rename_i l hl
 obtain ⟨μ', w', a', h1, h2, h3, h4, h5⟩ := seq_ok (b := b) (cs := cs) (k := k) hE hs hm ops.toList 0 rfl hl h hR hF hfr hcalm
 subst h5
 have h1' : Steps P (lone (b.atR a (.inRegion ops (List.range ops.size) :: k)) cs w) (lone (b.atR a' (.inRegion ops [] :: k)) cs w') := by
  rw [List.range_eq_range']; exact h1
 exact ⟨μ', w', a', k, .head stepR_region (h1'.trans (.one (stepR_region_end (ops := ops)))), h2, h3, h4, rfl⟩
theorem CodeOk.trivial {c : Code} {fr : Fr} {s : St} (h : ∀ (b : Frame) (a : Act) (k : List Item) (cs : List Frame) (w : World), step P (lone (b.atR a (.code c :: k)) cs w) = .next (lone (b.atR a k) cs w)) (hl : ∀ body, c ≠ .loop body) :
  CodeOk P c fr s .normal fr s := by
 intro μ w b a k cs m hR hF hfr hcalm hb
 rcases hb with rfl | ⟨_, hb, _⟩
 case inr => exact absurd hb (hl _)
 exact ⟨μ, w, a, k, .one (h b a k cs w), hR, .refl, hfr, rfl⟩
theorem exitTo_append {id : Nat} {k : List Item} {j : List Item} (h : exitTo id j = none) : exitTo id (j ++ k) = exitTo id k := by
 induction j with
 | nil => rfl
 | cons it j ih =>
  cases it with
  | inBlock id' =>
   simp only [exitTo, List.cons_append] at h ⊢
   split at h
   ·cases h
   ·rename_i hne
    rw [if_neg hne]
    exact ih h
  | _ => exact ih h
theorem After.push {e : Ex} {it : Item} {k todo : List Item} (h : After e (it :: k) todo) (hn : e ≠ .normal) (hit : ∀ id, e = .exit id → exitTo id [it] = none) : After e k todo := by
 cases e with
 | normal => exact absurd rfl hn
 | exit id =>
  obtain ⟨j, h1, h2⟩ := h
  refine ⟨j ++ [it], by rw [h1]; simp, ?_⟩
  rw [exitTo_append h2]; exact hit id rfl
 | ret => exact h
theorem thenOk {ra : Option Res} {c1 c2 : Code} {fr fr' : Fr} {s s' : St} {e : Ex} (hs : Sound P E rec) (hm : Mono rec) (h : thenC rec ra c2 = some (.code e fr' s')) (hra : ra = rec (.code c1 fr s)) :
  (∃ fr1 s1, rec (.code c1 fr s) = some (.code .normal fr1 s1) ∧ rec (.code c2 fr1 s1) = some (.code e fr' s') ∧ s1.nx ≤ s'.nx) ∨ (e ≠ .normal ∧ rec (.code c1 fr s) = some (.code e fr' s')) := by
 subst hra
 unfold thenC at h
 split at h
 ·rename_i fr1 s1 hr
  exact .inl ⟨fr1, s1, hr, h, hm _ _ h⟩
 ·rename_i hr
  right
  refine ⟨?_, h⟩
  intro he
  subst he
  exact hr _ _ h
theorem code_ok (hE : EnvOk P E) (hs : Sound P E rec) (hm : Mono rec) (hdraw : ∀ (id : Nat) (ops : Array Oper) (fr : Fr) (s : St) (e : Ex) (fr' : Fr) (s' : St), regionT E rec ops.toList fr s = some (.code e fr' s') → CodeOk P (.region id ops true) fr s e fr' s')
  (hrange : ∀ f ps as bo fr s e fr' s', rangeV rec (rp f) ps.toList as bo fr s = some (.code e fr' s') → CodeOk P (.rangeFunc f ps as bo) fr s e fr' s')
  {c : Code} {fr fr' : Fr} {s s' : St} {e : Ex} (h : codeF E rec fr s c = some (.code e fr' s')) : CodeOk P c fr s e fr' s' := by
 cases c with
 | skip => cases h; exact .trivial (fun _ _ _ _ _ => stepR_skip) (by simp)
 | label l => cases h; exact .trivial (fun _ _ _ _ _ => stepR_label) (by simp)
 | region id ops draw =>
  cases draw with
  | true => exact hdraw id ops fr s e fr' s' h
  | false => exact region_ok hE hs hm h
 | seq x y =>
  intro μ w b a k cs m hR hF hfr hcalm hb
  rcases hb with rfl | ⟨_, hb, _⟩
  case inr => cases hb
  rcases thenOk (c1 := x) hs hm h rfl with ⟨fr1, s1, h1, h2, hn⟩ | ⟨hne, h1⟩
  ·obtain ⟨μ1, w1, a1, t1, p1, p2, p3, p4, p5⟩ := hs.code _ _ _ _ _ _ h1 μ w b a (.code y :: k) cs _ hR (hF.sub (Nat.le_refl _) hn) hfr hcalm (.inl rfl)
   have p5 : t1 = .code y :: k := p5
   subst p5
   obtain ⟨μ2, w2, a2, t2, q1, q2, q3, q4, q5⟩ := hs.code _ _ _ _ _ _ h2 μ1 w1 b a1 k cs _ p2 (p3.fresh hF) p4 hcalm (.inl rfl)
   exact ⟨μ2, w2, a2, t2, .head stepR_seq (p1.trans q1), q2, p3.trans q3, q4, q5⟩
  ·obtain ⟨μ1, w1, a1, t1, p1, p2, p3, p4, p5⟩ := hs.code _ _ _ _ _ _ h1 μ w b a (.code y :: k) cs _ hR hF hfr hcalm (.inl rfl)
   exact ⟨μ1, w1, a1, t1, .head stepR_seq p1, p2, p3, p4, p5.push hne (fun _ _ => rfl)⟩
 | cond c x y =>
  intro μ w b a k cs m hR hF hfr hcalm hb
  rcases hb with rfl | ⟨_, hb, _⟩
  case inr => cases hb
  simp only [codeF, condC] at h
  split at h
  case h_2 => cases h
  rename_i t hc
  have hv := rp_rel hfr.tm hc
  generalize hrc : rho a.tmps c = rc at hv
  cases hv
  have hst := stepR_cond (P := P) (b := b) (a := a) (k := k) (cs := cs) (w := w) (c := c) (x := x) (y := y) (t := t) (by rw [eval_rho]; exact hrc)
  have hrec : rec (.code (if t then x else y) fr s) = some (.code e fr' s') := by cases t <;> exact h
  obtain ⟨μ1, w1, a1, t1, p1, p2, p3, p4, p5⟩ := hs.code _ _ _ _ _ _ hrec μ w b a k cs _ hR hF hfr hcalm (.inl rfl)
  exact ⟨μ1, w1, a1, t1, .head hst p1, p2, p3, p4, p5⟩
 | block id x =>
  intro μ w b a k cs m hR hF hfr hcalm hb
  rcases hb with rfl | ⟨_, hb, _⟩
  case inr => cases hb
  simp only [codeF] at h
  unfold blockC at h
  split at h
  ·rename_i j fr1 s1 hr
   cases hj : Nat.beq j id with
   | true =>
    rw [hj, cond_true] at h
    have := Nat.eq_of_beq_eq_true hj
    subst this
    injection h with h; injection h with h1 h2 h3
    subst h1; subst h2; subst h3
    obtain ⟨μ1, w1, a1, t1, p1, p2, p3, p4, jj, p5, p6⟩ := hs.code _ _ _ _ _ _ hr μ w b a (.inBlock j :: k) cs _ hR hF hfr hcalm (.inl rfl)
    subst p5
    refine ⟨μ1, w1, a1, k, .head stepR_block (p1.trans (.one (stepR_exit ?_))), p2, p3, p4, rfl⟩
    rw [exitTo_append p6]; simp [exitTo]
   | false =>
    rw [hj, cond_false] at h
    injection h with h; injection h with h1 h2 h3
    subst h1; subst h2; subst h3
    obtain ⟨μ1, w1, a1, t1, p1, p2, p3, p4, p5⟩ := hs.code _ _ _ _ _ _ hr μ w b a (.inBlock id :: k) cs _ hR hF hfr hcalm (.inl rfl)
    refine ⟨μ1, w1, a1, t1, .head stepR_block p1, p2, p3, p4, p5.push (by simp) (fun i hi => ?_)⟩
    injection hi with hi; subst hi
    have hne : ¬ (id == j) = true := by
     intro he
     have := eq_of_beq he
     subst this
     rw [Nat.beq_refl] at hj; cases hj
    simp only [exitTo]
    rw [if_neg hne]
  ·rename_i hr
   cases e with
   | exit j => exact absurd h (hr j fr' s')
   | normal =>
    obtain ⟨μ1, w1, a1, t1, p1, p2, p3, p4, p5⟩ := hs.code _ _ _ _ _ _ h μ w b a (.inBlock id :: k) cs _ hR hF hfr hcalm (.inl rfl)
    have p5 : t1 = .inBlock id :: k := p5
    subst p5
    exact ⟨μ1, w1, a1, k, .head stepR_block (p1.trans (.one stepR_inBlock)), p2, p3, p4, rfl⟩
   | ret =>
    obtain ⟨μ1, w1, a1, t1, p1, p2, p3, p4, p5⟩ := hs.code _ _ _ _ _ _ h μ w b a (.inBlock id :: k) cs _ hR hF hfr hcalm (.inl rfl)
    exact ⟨μ1, w1, a1, t1, .head stepR_block p1, p2, p3, p4, p5.push (by simp) (fun i hi => by cases hi)⟩
 | loop x =>
  intro μ w b a k cs m hR hF hfr hcalm hb
  have hst : step P m = .next (lone (b.atR a (.code x :: .inLoop x :: k)) cs w) := by
   rcases hb with rfl | ⟨y, hb, rfl⟩
   ·exact stepR_loop
   ·injection hb with hb; subst hb; exact stepR_inLoop
  rcases thenOk (c1 := x) hs hm h rfl with ⟨fr1, s1, h1, h2, hn⟩ | ⟨hne, h1⟩
  ·obtain ⟨μ1, w1, a1, t1, p1, p2, p3, p4, p5⟩ := hs.code _ _ _ _ _ _ h1 μ w b a (.inLoop x :: k) cs _ hR (hF.sub (Nat.le_refl _) hn) hfr hcalm (.inl rfl)
   have p5 : t1 = .inLoop x :: k := p5
   subst p5
   obtain ⟨μ2, w2, a2, t2, q1, q2, q3, q4, q5⟩ := hs.code _ _ _ _ _ _ h2 μ1 w1 b a1 k cs _ p2 (p3.fresh hF) p4 hcalm (.inr ⟨x, rfl, rfl⟩)
   exact ⟨μ2, w2, a2, t2, .head hst (p1.trans q1), q2, p3.trans q3, q4, q5⟩
  ·obtain ⟨μ1, w1, a1, t1, p1, p2, p3, p4, p5⟩ := hs.code _ _ _ _ _ _ h1 μ w b a (.inLoop x :: k) cs _ hR hF hfr hcalm (.inl rfl)
   exact ⟨μ1, w1, a1, t1, .head hst p1, p2, p3, p4, p5.push hne (fun _ _ => rfl)⟩
 | rangeFunc f ps as bo => exact hrange f ps as bo fr s e fr' s' h
 | exit id =>
  intro μ w b a k cs m hR hF hfr hcalm hb
  rcases hb with rfl | ⟨_, hb, _⟩
  case inr => cases hb
  cases h
  exact ⟨μ, w, a, _, .refl _ _, hR, .refl, hfr, [], rfl, rfl⟩
 | scope x =>
  intro μ w b a k cs m hR hF hfr hcalm hb
  rcases hb with rfl | ⟨_, hb, _⟩
  case inr => cases hb
  have hst : step P (lone (b.atR a (.code (.scope x) :: k)) cs w) = .next (lone (b.atR a (.code x :: .inScope x :: k)) cs w) :=
   step_lone_go (by simp [stepG, stepG.exec, Frame.atR])
  have hend : ∀ a w, step P (lone (b.atR a (.inScope x :: k)) cs w) = .next (lone (b.atR a k) cs w) := fun a w =>
   step_lone_go (by simp [stepG, stepG.exec, Frame.atR])
  obtain ⟨μ1, w1, a1, t1, p1, p2, p3, p4, p5⟩ := hs.code _ _ _ _ _ _ h μ w b a (.inScope x :: k) cs _ hR hF hfr hcalm (.inl rfl)
  by_cases hn : e = .normal
  ·subst hn
   have p5 : t1 = .inScope x :: k := p5
   subst p5
   exact ⟨μ1, w1, a1, k, .head hst (p1.trans (.one (hend a1 w1))), p2, p3, p4, rfl⟩
  ·exact ⟨μ1, w1, a1, t1, .head hst p1, p2, p3, p4, p5.push hn (fun _ _ => rfl)⟩
 | goto l => cases h
 | ret =>
  intro μ w b a k cs m hR hF hfr hcalm hb
  rcases hb with rfl | ⟨_, hb, _⟩
  case inr => cases hb
  cases h
  exact ⟨μ, w, a, _, .refl _ _, hR, .refl, hfr, k, rfl⟩
 | refuse y => cases h
theorem thenPan {ra : Option Res} {c1 c2 : Code} {fr fr' : Fr} {s s' : St} {v : Value} (hm : Mono rec) (h : thenC rec ra c2 = some (.pan fr' v s')) (hra : ra = rec (.code c1 fr s)) :
  (∃ fr1 s1, rec (.code c1 fr s) = some (.code .normal fr1 s1) ∧ rec (.code c2 fr1 s1) = some (.pan fr' v s') ∧ s1.nx ≤ s'.nx) ∨ rec (.code c1 fr s) = some (.pan fr' v s') := by
 subst hra
 unfold thenC at h
 split at h
 ·rename_i fr1 s1 hr
  exact .inl ⟨fr1, s1, hr, h, hm _ _ h⟩
 ·exact .inr h
theorem jumpC_pan {p : Option Code} {fr fr' : Fr} {s s' : St} {v : Value} (h : jumpC p fr s = some (.pan fr' v s')) : False := by
 unfold jumpC at h
 split at h
 ·cases h
 ·split at h <;> cases h
theorem rangeV_pan {f : RP} {ps : List Tmp} {a b : Code} {fr fr' : Fr} {s s' : St} {v : Value} (h : rangeV rec f ps a b fr s = some (.pan fr' v s')) : False := by
 unfold rangeV at h
 split at h
 ·cases h
 ·split at h
  ·cases h
  ·split at h
   ·unfold endRange at h
    split at h
    ·split at h
     ·cases h
     ·exact jumpC_pan h
    ·cases h
   ·cases h
theorem code_pan (hE : EnvOk P E) (hs : Sound P E rec) (hm : Mono rec) (hdraw : ∀ (id : Nat) (ops : Array Oper) (fr : Fr) (s : St) (fr' : Fr) (v : Value) (s' : St), regionT E rec ops.toList fr s = some (.pan fr' v s') → PanOk P (.region id ops true) fr s fr' v s')
  {c : Code} {fr fr' : Fr} {s s' : St} {v : Value} (h : codeF E rec fr s c = some (.pan fr' v s')) : PanOk P c fr s fr' v s' := by
 cases c with
 | skip => cases h
 | label l => cases h
 | region id ops draw =>
  cases draw with
  | true => exact hdraw id ops fr s fr' v s' h
  | false => exact region_pan hE hs hm h
 | seq x y =>
  intro μ w b a k cs m hR hF hfr hcalm hb
  rcases hb with rfl | ⟨_, hb, _⟩
  case inr => cases hb
  rcases thenPan (c1 := x) hm h rfl with ⟨fr1, s1, h1, h2, hn⟩ | h1
  ·obtain ⟨μ1, w1, a1, t1, p1, p2, p3, p4, p5⟩ := hs.code _ _ _ _ _ _ h1 μ w b a (.code y :: k) cs _ hR (hF.sub (Nat.le_refl _) hn) hfr hcalm (.inl rfl)
   have p5 : t1 = .code y :: k := p5
   subst p5
   obtain ⟨μ2, w2, a2, t2, v2, q1, q2, q3, q4, q5⟩ := hs.pcode _ _ _ _ _ _ h2 μ1 w1 b a1 k cs _ p2 (p3.fresh hF) p4 hcalm (.inl rfl)
   exact ⟨μ2, w2, a2, t2, v2, .head stepR_seq (p1.trans q1), q2, p3.trans q3, q4, q5⟩
  ·obtain ⟨μ1, w1, a1, t1, v1, p1, p2, p3, p4, p5⟩ := hs.pcode _ _ _ _ _ _ h1 μ w b a (.code y :: k) cs _ hR hF hfr hcalm (.inl rfl)
   exact ⟨μ1, w1, a1, t1, v1, .head stepR_seq p1, p2, p3, p4, p5⟩
 | cond c x y =>
  intro μ w b a k cs m hR hF hfr hcalm hb
  rcases hb with rfl | ⟨_, hb, _⟩
  case inr => cases hb
  simp only [codeF, condC] at h
  split at h
  case h_2 => cases h
  rename_i t hc
  have hv := rp_rel hfr.tm hc
  generalize hrc : rho a.tmps c = rc at hv
  cases hv
  have hst := stepR_cond (P := P) (b := b) (a := a) (k := k) (cs := cs) (w := w) (c := c) (x := x) (y := y) (t := t) (by rw [eval_rho]; exact hrc)
  have hrec : rec (.code (if t then x else y) fr s) = some (.pan fr' v s') := by cases t <;> exact h
  obtain ⟨μ1, w1, a1, t1, v1, p1, p2, p3, p4, p5⟩ := hs.pcode _ _ _ _ _ _ hrec μ w b a k cs _ hR hF hfr hcalm (.inl rfl)
  exact ⟨μ1, w1, a1, t1, v1, .head hst p1, p2, p3, p4, p5⟩
 | block id x =>
  intro μ w b a k cs m hR hF hfr hcalm hb
  rcases hb with rfl | ⟨_, hb, _⟩
  case inr => cases hb
  simp only [codeF] at h
  have h : rec (.code x fr s) = some (.pan fr' v s') := by
   unfold blockC at h
   split at h
   ·rename_i j fr1 s1 hr
    cases hj : Nat.beq j id with
    | true => rw [hj] at h; cases h
    | false => rw [hj] at h; cases h
   ·exact h
  obtain ⟨μ1, w1, a1, t1, v1, p1, p2, p3, p4, p5⟩ := hs.pcode _ _ _ _ _ _ h μ w b a (.inBlock id :: k) cs _ hR hF hfr hcalm (.inl rfl)
  exact ⟨μ1, w1, a1, t1, v1, .head stepR_block p1, p2, p3, p4, p5⟩
 | loop x =>
  intro μ w b a k cs m hR hF hfr hcalm hb
  have hst : step P m = .next (lone (b.atR a (.code x :: .inLoop x :: k)) cs w) := by
   rcases hb with rfl | ⟨y, hb, rfl⟩
   ·exact stepR_loop
   ·injection hb with hb; subst hb; exact stepR_inLoop
  rcases thenPan (c1 := x) hm h rfl with ⟨fr1, s1, h1, h2, hn⟩ | h1
  ·obtain ⟨μ1, w1, a1, t1, p1, p2, p3, p4, p5⟩ := hs.code _ _ _ _ _ _ h1 μ w b a (.inLoop x :: k) cs _ hR (hF.sub (Nat.le_refl _) hn) hfr hcalm (.inl rfl)
   have p5 : t1 = .inLoop x :: k := p5
   subst p5
   obtain ⟨μ2, w2, a2, t2, v2, q1, q2, q3, q4, q5⟩ := hs.pcode _ _ _ _ _ _ h2 μ1 w1 b a1 k cs _ p2 (p3.fresh hF) p4 hcalm (.inr ⟨x, rfl, rfl⟩)
   exact ⟨μ2, w2, a2, t2, v2, .head hst (p1.trans q1), q2, p3.trans q3, q4, q5⟩
  ·obtain ⟨μ1, w1, a1, t1, v1, p1, p2, p3, p4, p5⟩ := hs.pcode _ _ _ _ _ _ h1 μ w b a (.inLoop x :: k) cs _ hR hF hfr hcalm (.inl rfl)
   exact ⟨μ1, w1, a1, t1, v1, .head hst p1, p2, p3, p4, p5⟩
 | rangeFunc f ps as bo => exact (rangeV_pan h).elim
 | exit id => cases h
 | scope x =>
  intro μ w b a k cs m hR hF hfr hcalm hb
  rcases hb with rfl | ⟨_, hb, _⟩
  case inr => cases hb
  have hst : step P (lone (b.atR a (.code (.scope x) :: k)) cs w) = .next (lone (b.atR a (.code x :: .inScope x :: k)) cs w) :=
   step_lone_go (by simp [stepG, stepG.exec, Frame.atR])
  obtain ⟨μ1, w1, a1, t1, v1, p1, p2, p3, p4, p5⟩ := hs.pcode _ _ _ _ _ _ h μ w b a (.inScope x :: k) cs _ hR hF hfr hcalm (.inl rfl)
  exact ⟨μ1, w1, a1, t1, v1, .head hst p1, p2, p3, p4, p5⟩
 | goto l => cases h
 | ret => cases h
 | refuse y => cases h
end
end Go.Eng
end
