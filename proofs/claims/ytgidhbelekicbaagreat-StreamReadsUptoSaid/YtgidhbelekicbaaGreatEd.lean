/-
  Part of the proof of StreamReadsUptoSaid: Operations that write.
-/
import Derived.Test.YtgidhbelekicbaaGreatEc
import Derived.Deep.AppendSrc
set_option linter.unusedVariables false
section
namespace Go.Eng
theorem over_window {α : Type} (cs vs : List α) (a i n : Nat) (h : a + n ≤ cs.length) (hl : i + vs.length ≤ n) :
  ((cs.take (a + i) ++ (vs ++ cs.drop (a + i + vs.length))).drop a).take n = ((cs.drop a).take n).take i ++ (vs ++ ((cs.drop a).take n).drop (i + vs.length)) := by
 apply List.ext_getElem?
 intro j
 simp only [List.getElem?_take, List.getElem?_drop, List.getElem?_append, List.length_take, List.length_drop]
 by_cases h1 : j < i
 ·rw [if_pos (show j < n by omega), if_pos (show a + j < min (a + i) cs.length by omega), if_pos (show a + j < a + i by omega), if_pos (show j < min i (min n (cs.length - a)) by omega), if_pos h1, if_pos (show j < n by omega)]
 ·rw [if_neg (show ¬ a + j < min (a + i) cs.length by omega), if_neg (show ¬ j < min i (min n (cs.length - a)) by omega)]
  rw [show a + j - min (a + i) cs.length = j - i by omega, show j - min i (min n (cs.length - a)) = j - i by omega]
  by_cases h2 : j - i < vs.length
  ·rw [if_pos h2, if_pos h2, if_pos (show j < n by omega)]
  ·rw [if_neg h2, if_neg h2, show i + vs.length + (j - i - vs.length) = j by omega, show a + i + vs.length + (j - i - vs.length) = a + j by omega]
section
variable {P : Program} {E : Env} {μ : Mu} {tm : Tr Value} {n : Nat} {tmps : Array Value} {s : St} {w : World}
theorem noFrz {a b n : Nat} (h : a = b ∨ n ≤ a) : ∀ j, j < n → ¬ (a ≤ j ∧ j < b) := fun j hj => by omega
theorem R.writeRow (P : Program) (h : R μ s w) {id i : Nat} {g : Img} (hg : μ id = some g) {vs vs' : List Value} {s' : St} (hw : writeRow s ⟨id, i, none⟩ vs = some s') (hl : LR μ vs vs') :
  ∃ w', (storeCells ⟨g.blk, g.off + i, none⟩ vs').run P w = .ok () w' ∧ R μ s' w' ∧ Ext μ s w μ s' w' := by
 unfold Eng.writeRow at hw
 simp only at hw
 split at hw
 case h_2 => cases hw
 rename_i cs e el ho
 cases h01 : Nat.beq el 1 with
 | true => rw [h01] at hw; cases hw
 | false =>
 rw [h01, cond_false] at hw
 have hel1 : el ≠ 1 := fun h => by rw [h] at h01; cases h01
 cases h1 : vs.all oneCellB with
 | false => rw [h1] at hw; cases hw
 | true =>
  rw [h1, cond_true] at hw
  split at hw
  ·cases hw
  rename_i r hr
  injection hw with hw; subst hw
  rw [layL_eq] at hr
  split at hr
  case isFalse => cases hr
  rename_i hle
  injection hr with hr
  obtain ⟨o', h2, h3⟩ := h.block ho hg
  cases h3 with
  | cells _ _ _ cs' fz hel hs hx hb hrow hz hp =>
   have hlen := hl.length
   have hz := hz hel1
   refine ⟨_, run_storeCells_blk P g.blk (g.off + i) _ fz vs' 0 cs' w h2 (by omega) (noFrz hz) (hl.oneCell h1), ?_⟩
   refine h.change ho hg (.cells r e el _ fz hel ?_ ?_ ?_ ?_ ?_ (fun he1 v' hv' => ?_)) (fun cs1 e1 h0 => by injection h0 with _ _ h0; exact hel1 h0)
   ·rw [hs]; simp; omega
   ·intro h0
    have := hx h0
    refine ⟨this.1, ?_⟩
    rw [← hr]; simp; omega
   ·rw [← hr]; simp; omega
   ·have hrl : r.length = cs.length := by rw [← hr]; simp; omega
    rw [hrl, Nat.add_zero, over_window cs' vs' g.off i cs.length hb (by omega), ← hr, hlen]
    exact (hrow.take i).append (hl.append (hrow.drop _))
   ·intro _
    rcases hz with hz | hz
    ·exact .inl hz
    ·right; simp; omega
   ·simp only [List.mem_append] at hv'
    rcases hv' with hv' | hv' | hv'
    ·exact hp he1 _ (List.mem_of_mem_take hv')
    ·exact hl.mem _ hv'
    ·exact hp he1 _ (List.mem_of_mem_drop hv')
def DoneW (P : Program) (μ : Mu) (s : St) (w : World) (x : Sem Next) (v : Value) (s' : St) : Prop :=
 ∃ r w' μ', x.run P w = .ok r w' ∧ R μ' s' w' ∧ Ext μ s w μ' s' w' ∧ ((r = .skip ∧ v = undefV) ∨ ∃ v', r = .value v' ∧ VR μ' v v')
theorem Done.toW {x : Sem Next} {v : Value} {s' : St} (h : Done P μ s w x v s') : DoneW P μ s w x v s' := by
 obtain ⟨v', w', μ', a, b, c, d⟩ := h
 exact ⟨_, w', μ', a, b, c, .inr ⟨v', rfl, d⟩⟩
theorem sto_ok (hE : EnvOk P E) (ht : TR μ tm n tmps) {ty : TypeId} {a x : Operand} {sz : Nat} (hs : Eng.sizeT E ty = some sz) {v : Value} {s' : St} (hv : runW tm s (.sto sz (rp a) (rp x)) = some (v, s')) (h : R μ s w) (d t p f g) :
  DoneW P μ s w (execOp (rho tmps) ⟨d, .store ty a x, t, p, f, g⟩) v s' := by
 simp only [runW] at hv
 split at hv
 case h_2 => cases hv
 rename_i av xv ha hx
 unfold rSto at hv
 split at hv
 case h_2 => cases hv
 rename_i pa
 simp only at hv
 cases hb : Nat.beq (cellsL xv).length sz with
 | false => rw [hb] at hv; cases hv
 | true =>
  rw [hb, cond_true] at hv
  split at hv
  case h_2 => cases hv
  rename_i s1 hw
  injection hv with hv; injection hv with e1 e2; subst e1; subst e2
  have hbe := Nat.eq_of_beq_eq_true hb
  have h1 := rp_rel ht ha
  have h2 := rp_rel ht hx
  generalize hra : rho tmps a = ra at h1
  cases h1 with
  | ptr id i g hg =>
   obtain ⟨w', h3, h4, h5⟩ := h.writeRow P hg hw h2.cells
   have hsz : (rho tmps x).cells.size = sz := by
    rw [← hbe, ← h2.cells.length, Array.length_toList]
   refine ⟨.skip, w', μ, ?_, h4, h5, .inl ⟨rfl, rfl⟩⟩
   simp [execOp, Instr.storeAt, Instr.sureAddr, hra, storeVar, hE.sizeT hs w, hsz, h3]
theorem putL_spec {kd kk : IntKind} {x : Int} {v : Value} : ∀ {es : List (Value × Value)} {es' : List MapEntry} {l : List (Value × Value)} (i : Nat), PR μ es es' → putL (.int kk x) v es = some l →
  (Instr.findNow (.int kd) (.int kk x) es' i = some none ∧ ∀ e : MapEntry, e.key = .int kk x → VR μ v e.val → PR μ l (es' ++ [e])) ∨
  ∃ j u e0, Instr.findNow (.int kd) (.int kk x) es' i = some (some (i + j, u)) ∧ es'[j]? = some e0 ∧ e0.key = .int kk x ∧ ∀ e : MapEntry, e.key = .int kk x → VR μ v e.val → PR μ l (es'.set j e)
 | [], _, l, i, .nil, h => by
  injection h with h; subst h
  refine .inl ⟨rfl, fun e he hv => ?_⟩
  exact .cons _ _ e _ _ (by rw [he]; exact .int _ _) hv .nil
 | (a, u) :: es, _, l, i, .cons _ _ e _ es' hk hv hr, h => by
  simp only [putL] at h
  split at h
  ·cases h
  rename_i t ht
  obtain ⟨kk', x', y, e1, rfl, rfl⟩ := keyEq_spec ht
  injection e1 with e1 e2; subst e1; subst e2
  generalize hek : e.key = ek at hk
  cases hk
  by_cases hxy : x = y
  ·rw [decide_eq_true hxy, cond_true] at h
   injection h with h; subst h
   refine .inr ⟨0, e.val, e, by simp [Instr.findNow, Instr.sameNow, hek, hxy], rfl, by rw [hek, hxy], fun e' he hv' => ?_⟩
   exact .cons _ _ e' _ _ (by rw [he]; exact .int _ _) hv' hr
  ·rw [decide_eq_false hxy, cond_false] at h
   split at h
   ·cases h
   rename_i r hr'
   injection h with h; subst h
   have e1 : Instr.findNow (.int kd) (.int kk x) (e :: es') i = Instr.findNow (.int kd) (.int kk x) es' (i + 1) := by
    have h0 : (x == y) = false := by simp [hxy]
    simp [Instr.findNow, Instr.sameNow, hek, h0]
   have hke : VR μ (.int kk y) e.key := by rw [hek]; exact .int _ _
   rcases putL_spec (kd := kd) (i + 1) hr hr' with ⟨h1, h2⟩ | ⟨j, u', e0, h1, h2, h3, h4⟩
   ·exact .inl ⟨by rw [e1]; exact h1, fun e' he hv' => .cons _ _ e _ _ hke hv (h2 e' he hv')⟩
   ·refine .inr ⟨j + 1, u', e0, by rw [e1, h1, Nat.add_right_comm, Nat.add_assoc], by simpa using h2, h3, fun e' he hv' => ?_⟩
    exact .cons _ _ e _ _ hke hv (h4 e' he hv')
theorem delL_spec {kd kk : IntKind} {x : Int} : ∀ {es : List (Value × Value)} {es' : List MapEntry} {l : List (Value × Value)} (i : Nat), PR μ es es' → delL (.int kk x) es = some l →
  (Instr.findNow (.int kd) (.int kk x) es' i = some none ∧ PR μ l es') ∨
  ∃ j u, Instr.findNow (.int kd) (.int kk x) es' i = some (some (i + j, u)) ∧ j < es'.length ∧ PR μ l (es'.eraseIdx j)
 | [], _, l, i, .nil, h => by
  injection h with h; subst h
  exact .inl ⟨rfl, .nil⟩
 | (a, u) :: es, _, l, i, .cons _ _ e _ es' hk hv hr, h => by
  simp only [delL] at h
  split at h
  ·cases h
  rename_i t ht
  obtain ⟨kk', x', y, e1, rfl, rfl⟩ := keyEq_spec ht
  injection e1 with e1 e2; subst e1; subst e2
  generalize hek : e.key = ek at hk
  cases hk
  by_cases hxy : x = y
  ·rw [decide_eq_true hxy, cond_true] at h
   injection h with h; subst h
   exact .inr ⟨0, e.val, by simp [Instr.findNow, Instr.sameNow, hek, hxy], by simp, hr⟩
  ·rw [decide_eq_false hxy, cond_false] at h
   split at h
   ·cases h
   rename_i r hr'
   injection h with h; subst h
   have e1 : Instr.findNow (.int kd) (.int kk x) (e :: es') i = Instr.findNow (.int kd) (.int kk x) es' (i + 1) := by
    have h0 : (x == y) = false := by simp [hxy]
    simp [Instr.findNow, Instr.sameNow, hek, h0]
   have hke : VR μ (.int kk y) e.key := by rw [hek]; exact .int _ _
   rcases delL_spec (kd := kd) (i + 1) hr hr' with ⟨h1, h2⟩ | ⟨j, u', h1, h2, h3⟩
   ·exact .inl ⟨by rw [e1]; exact h1, .cons _ _ e _ _ hke hv h2⟩
   ·exact .inr ⟨j + 1, u', by rw [e1, h1, Nat.add_right_comm, Nat.add_assoc], by simpa using h2, .cons _ _ e _ _ hke hv h3⟩
theorem run_setObj {b : Nat} {o o' : Obj} (h : w.heap[b]? = some o) (ho : ∀ c e f, o ≠ .cells c e f) : (setObj b o').run P w = .ok () (w.setBlk b o') := by
 unfold setObj
 cases o <;> first
  | exact absurd rfl (ho _ _ _)
  | (simp only [Sem.run, h]; rfl)
theorem sameBits_int (k : IntKind) (x : Int) : Instr.sameBits 10000 (.int k x) (.int k x) = true := by
 show Instr.sameBits (9999 + 1) _ _ = true
 simp [Instr.sameBits]
theorem put_ok (hE : EnvOk P E) (ht : TR μ tm n tmps) {ty kt et : TypeId} {inf ik : TypeInfo} {kd : IntKind} {m k x : Operand} (hu : E.tt ty = some (inf, .map kt et)) (hk : E.tt kt = some (ik, .int kd)) {v : Value} {s' : St}
  (hv : runW tm s (.put (rp m) (rp k) (rp x)) = some (v, s')) (h : R μ s w) (d t p f g) :
  DoneW P μ s w (execOp (rho tmps) ⟨d, .mapUpdate ty m k x, t, p, f, g⟩) v s' := by
 simp only [runW] at hv
 split at hv
 case h_2 => cases hv
 rename_i mv kv xv hm hkv hx
 unfold rPut at hv
 split at hv
 case h_2 => cases hv
 rename_i r
 split at hv
 case h_2 => cases hv
 rename_i kk xx
 split at hv
 case h_2 => cases hv
 rename_i es ho
 split at hv
 case h_2 => cases hv
 rename_i l hl
 injection hv with hv; injection hv with e1 e2; subst e1; subst e2
 have h1 := rp_rel ht hm
 have h2 := rp_rel ht hkv
 have h3 := rp_rel ht hx
 generalize hrm : rho tmps m = rm at h1
 generalize hrk : rho tmps k = rk at h2
 cases h2
 have hkk := (hE.tt _ _ _ hk).2
 cases h1 with
 | map _ g hg =>
  obtain ⟨o', h4, h5⟩ := h.block ho hg
  cases h5 with
  | map _ es' clock hp =>
   have hck : (Instr.checkKey false 10000 kt (.int kk xx)).run P w = .ok () w := run_checkKey_int hkk false 9999 _ w
   rcases putL_spec (kd := kd) 0 hp hl with ⟨a1, a2⟩ | ⟨j, u, e0, a1, a2, a3, a4⟩
   ·obtain ⟨b1, b2⟩ := h.change ho hg (.map l _ (clock + 1) (a2 { key := .int kk xx, val := rho tmps x, born := clock } rfl h3))
    refine ⟨.skip, _, μ, ?_, b1, b2, .inl ⟨rfl, rfl⟩⟩
    simp only [execOp, hrm, hrk, Instr.mapUpdate, Sem.run_bind, hE.under hu w, Result.andThen_ok, run_getObj (P := P) h4 (by simp), hck]
    simp only [Instr.findKey, Sem.run_bind, run_underlying hkk w, Result.andThen_ok, a1, Sem.run_pure, run_setObj (P := P) h4 (by simp)]
    simp
   ·obtain ⟨b1, b2⟩ := h.change ho hg (.map l _ clock (a4 { e0 with key := .int kk xx, val := rho tmps x } rfl h3))
    refine ⟨.skip, _, μ, ?_, b1, b2, .inl ⟨rfl, rfl⟩⟩
    have hj : j < es'.length := (List.getElem?_eq_some_iff.1 a2).1
    have hje : es'[j] = e0 := (List.getElem?_eq_some_iff.1 a2).2
    simp only [execOp, hrm, hrk, Instr.mapUpdate, Sem.run_bind, hE.under hu w, Result.andThen_ok, run_getObj (P := P) h4 (by simp), hck]
    simp only [Instr.findKey, Sem.run_bind, run_underlying hkk w, Result.andThen_ok, a1, Sem.run_pure]
    have e2 : ((#[] : Array MapEntry) = #[]) := rfl
    simp only [Nat.zero_add, List.getElem?_toArray, a2, Option.map_some, Option.getD_some, a3, Instr.keyThatStays, sameBits_int, if_true, Sem.run_pure, Result.andThen_ok]
    rw [run_setObj (P := P) h4 (by simp)]
    simp only [Result.andThen_ok]
    have e3 : (⟨es'⟩ : Array MapEntry).modify j (fun e => { e with key := .int kk xx, val := rho tmps x }) = ⟨es'.set j { e0 with key := .int kk xx, val := rho tmps x }⟩ := by
     apply Array.toList_inj.1
     rw [Array.toList_modify]
     show es'.modify j _ = es'.set j _
     apply List.ext_getElem?
     intro q
     rw [List.getElem?_modify, List.getElem?_set]
     by_cases hq : j = q
     ·subst hq; rw [if_pos rfl, if_pos hj, a2]; simp
     ·rw [if_neg hq]; simp [hq]
    rw [e3]
theorem del_ok (hE : EnvOk P E) (ht : TR μ tm n tmps) {ty kt et : TypeId} {inf ik : TypeInfo} {kd : IntKind} {m k : Operand} (hu : E.tt ty = some (inf, .map kt et)) (hk : E.tt kt = some (ik, .int kd)) {v : Value} {s' : St} {rest : List TypeId}
  (hv : runW tm s (.del (rp m) (rp k)) = some (v, s')) (h : R μ s w) (d t p f g) :
  DoneW P μ s w (execOp (rho tmps) ⟨d, .call ⟨.builtin .delete, ⟨[m, k]⟩, ⟨ty :: rest⟩⟩, t, p, f, g⟩) v s' := by
 simp only [runW] at hv
 split at hv
 case h_2 => cases hv
 rename_i mv kv hm hkv
 unfold rDel at hv
 split at hv
 case h_2 => cases hv
 rename_i r
 split at hv
 case h_2 => cases hv
 rename_i kk xx
 split at hv
 case h_2 => cases hv
 rename_i es ho
 split at hv
 case h_2 => cases hv
 rename_i l hl
 injection hv with hv; injection hv with e1 e2; subst e1; subst e2
 have h1 := rp_rel ht hm
 have h2 := rp_rel ht hkv
 generalize hrm : rho tmps m = rm at h1
 generalize hrk : rho tmps k = rk at h2
 cases h2
 have hkk := (hE.tt _ _ _ hk).2
 cases h1 with
 | map _ g hg =>
  obtain ⟨o', h4, h5⟩ := h.block ho hg
  cases h5 with
  | map _ es' clock hp =>
   have hck : ∀ b, (Instr.checkKey b 10000 kt (.int kk xx)).run P w = .ok () w := fun b => run_checkKey_int hkk b 9999 _ w
   rcases delL_spec (kd := kd) 0 hp hl with ⟨a1, a2⟩ | ⟨j, u, a1, a2, a3⟩
   ·obtain ⟨b1, b2⟩ := h.change ho hg (.map l _ clock a2)
    refine ⟨.value (.tuple #[]), _, μ, ?_, b1, b2, .inr ⟨_, rfl, .tuple _ _ .nil⟩⟩
    simp [execOp, resolve, invoke, builtin, hrm, hrk, Builtin.delete_, hE.under hu w, run_getObj (P := P) h4 (by simp), hck]
    simp only [Instr.findKey, Sem.run_bind, run_underlying hkk w, Result.andThen_ok, a1, Sem.run_pure, map_eq_pure_bind, run_setObj (P := P) h4 (by simp)]
   ·obtain ⟨b1, b2⟩ := h.change ho hg (.map l _ clock a3)
    refine ⟨.value (.tuple #[]), _, μ, ?_, b1, b2, .inr ⟨_, rfl, .tuple _ _ .nil⟩⟩
    simp [execOp, resolve, invoke, builtin, hrm, hrk, Builtin.delete_, hE.under hu w, run_getObj (P := P) h4 (by simp), hck]
    simp only [Instr.findKey, Sem.run_bind, run_underlying hkk w, Result.andThen_ok, a1, Sem.run_pure, map_eq_pure_bind, run_setObj (P := P) h4 (by simp)]
    simp []
theorem clr_ok (hE : EnvOk P E) (ht : TR μ tm n tmps) {ty kt et : TypeId} {inf : TypeInfo} {m : Operand} (hu : E.tt ty = some (inf, .map kt et)) {v : Value} {s' : St}
  (hv : runW tm s (.clr (rp m)) = some (v, s')) (h : R μ s w) (d t p f g) :
  DoneW P μ s w (execOp (rho tmps) ⟨d, .call ⟨.builtin .clear, ⟨[m]⟩, ⟨[ty]⟩⟩, t, p, f, g⟩) v s' := by
 simp only [runW] at hv
 split at hv
 case h_2 => cases hv
 rename_i mv hm
 unfold rClr at hv
 split at hv
 case h_2 => cases hv
 rename_i r
 split at hv
 case h_2 => cases hv
 rename_i es ho
 injection hv with hv; injection hv with e1 e2; subst e1; subst e2
 have h1 := rp_rel ht hm
 generalize hrm : rho tmps m = rm at h1
 cases h1 with
 | map _ g hg =>
  obtain ⟨o', h4, h5⟩ := h.block ho hg
  cases h5 with
  | map _ es' clock hp =>
   obtain ⟨b1, b2⟩ := h.change ho hg (.map [] [] clock .nil)
   refine ⟨.value (.tuple #[]), _, μ, ?_, b1, b2, .inr ⟨_, rfl, .tuple _ _ .nil⟩⟩
   simp [execOp, resolve, invoke, builtin, hrm, Builtin.clear_, hE.under hu w, run_getObj (P := P) h4 (by simp), run_setObj (P := P) h4 (by simp)]
end
end Go.Eng
end
section
namespace Go.Eng
section
variable {P : Program} {E : Env} {μ : Mu} {tm : Tr Value} {n : Nat} {tmps : Array Value} {s : St} {w : World}
theorem cell_heap {w w2 : World} (h : w2.heap = w.heap) (a : Addr) : w2.cell? a = w.cell? a := by simp [World.cell?, h]
theorem strCells_eq : ∀ (l : List UInt8), strCells l = l.map fun b => Value.int .u8 (b.toNat : Int)
 | [] => rfl
 | b :: r => by rw [strCells, strCells_eq r]; rfl
theorem strCells_rel (μ : Mu) : ∀ (l : List UInt8), LR μ (strCells l) (strCells l)
 | [] => .nil
 | b :: r => .cons _ _ _ _ (.int _ _) (strCells_rel μ r)
theorem readRow_length {a : Addr} {k : Nat} {l : List Value} (h : readRow s a k = some l) : l.length = k := by
 unfold readRow at h
 split at h
 ·split at h
  ·rw [rowAt_eq] at h
   split at h
   ·injection h with h; rw [← h]; simp; omega
   ·cases h
  ·cases h
 ·cases h
theorem src_ok (h : R μ s w) {x x' : Value} {len m sz : Nat} {l : List Value} (hv : VR μ x x') (hl : lenV x = some len) (hm : m ≤ len) (hs : srcCells s sz m x = some l) :
  ∃ l', LR μ l l' ∧ l.length = m * sz ∧ ∀ w2 : World, w2.heap = w.heap → (Builtin.firstCells sz m x').run P w2 = .ok ⟨l'⟩ w2 ∧ (Builtin.lenOf x').run P w2 = .ok len w2 := by
 cases hv with
 | slN nn c hc =>
  injection hl with hl; subst hl
  simp only [srcCells] at hs
  cases hb : Nat.beq m 0 with
  | false => rw [hb] at hs; cases hs
  | true =>
   rw [hb, cond_true] at hs; injection hs with hs; subst hs
   have := Nat.eq_of_beq_eq_true hb
   subst this
   exact ⟨[], .nil, by simp, fun w2 _ => ⟨by simp [Builtin.firstCells], by simp [Builtin.lenOf]⟩⟩
 | slE a a' c h0 =>
  injection hl with hl; subst hl
  have : m = 0 := by omega
  subst this
  simp only [srcCells, Nat.beq, cond_true] at hs
  injection hs with hs; subst hs
  exact ⟨[], .nil, by simp, fun w2 _ => ⟨by simp [Builtin.firstCells, loadCells, loadCellsFrom], by simp [Builtin.lenOf]⟩⟩
 | sl id i nn c c' g hg hc =>
  injection hl with hl; subst hl
  simp only [srcCells] at hs
  cases hb : Nat.beq m 0 with
  | true =>
   rw [hb, cond_true] at hs; injection hs with hs; subst hs
   have := Nat.eq_of_beq_eq_true hb
   subst this
   exact ⟨[], .nil, by simp, fun w2 _ => ⟨by simp [Builtin.firstCells, loadCells, loadCellsFrom], by simp [Builtin.lenOf]⟩⟩
  | false =>
   rw [hb, cond_false] at hs
   have hlen : l.length = m * sz := readRow_length hs
   obtain ⟨l', h1, h2, h3⟩ := readRow_rel h hg hs
   refine ⟨l', h2, hlen, fun w2 he => ⟨?_, by simp [Builtin.lenOf]⟩⟩
   have := run_loadCells_list (P := P) w2 ⟨g.blk, g.off + i, none⟩ l' (fun j v hj => by rw [cell_heap he]; exact h3 j v hj)
   rw [h2.length, hlen] at this
   exact this
 | string b =>
  injection hl with hl; subst hl
  simp only [srcCells, headL_eq] at hs
  cases h1 : Nat.beq sz 1 with
  | false => rw [h1] at hs; cases hs
  | true =>
  rw [h1, cond_true] at hs
  split at hs
  case isFalse => cases hs
  rename_i hle
  injection hs with hs; subst hs
  have h1 := Nat.eq_of_beq_eq_true h1
  subst h1
  have hlb : (strCells b.data.toList).length = b.data.toList.length := by rw [strCells_eq]; simp
  refine ⟨_, (strCells_rel μ _).take m, by simp; omega, fun w2 _ => ⟨?_, rfl⟩⟩
  simp only [Builtin.firstCells, Sem.run_pure]
  congr 1
  apply Array.toList_inj.1
  rw [strCells_eq]
  simp [ByteArray.extract, ByteArray.copySlice]
 | _ => cases hl
theorem R.touch (h : R μ s w) {id : Nat} {o : AO} {g : Img} (ho : s.h.get id = some o) (hg : μ id = some g) {o2' : Obj} (hob : OB μ g o o2') (hno : ∀ cs e, o ≠ .cells cs e 1) :
  R μ s (w.setBlk g.blk o2') ∧ Ext μ s w μ s (w.setBlk g.blk o2') := by
 obtain ⟨o', h1, _⟩ := h.block ho hg
 have hlt := lt_of_get h1
 refine ⟨⟨?_, h.inj, h.nx⟩, ⟨fun _ _ h => h, fun _ _ h => .inl h, Nat.le_refl _, rfl, rfl, rfl, by rw [setBlk_size]; exact Nat.le_refl _, ?_, fun j p gj hp hj => .inr ⟨j, p, gj, hp, hj, rfl⟩, fun h => h, fun _ id' cs e g' h2 h3 h4 => ?_⟩⟩
 ·intro j p hp
  by_cases e : j = id
  ·subst e
   rw [ho] at hp; injection hp with hp; subst hp
   exact ⟨g, o2', hg, by rw [setBlk_get, if_pos rfl, if_pos hlt], hob⟩
  ·obtain ⟨gj, oj, a1, a2, a3⟩ := h.live j p hp
   refine ⟨gj, oj, a1, ?_, a3⟩
   rw [setBlk_get, if_neg (fun hb => e (h.inj j id p o gj g hp ho a1 hg hb.symm))]
   exact a2
 ·intro b _ hf
  rw [setBlk_get, if_neg (hf id o g ho hg)]
 ·have hne : id' ≠ id := fun e1 => by
   subst e1
   rw [show s.h.get id' = _ from h2] at ho
   injection ho with ho
   exact hno cs e ho.symm
  have hbk : g.blk ≠ g'.blk := fun e1 => hne (h.inj id id' o _ g g' ho h2 hg h3 e1).symm
  refine ⟨by rw [setBlk_get, if_neg hbk], fun j p gj h5 h6 h7 => ?_⟩
  have := h.inj j id' p _ gj g' h5 h2 h6 h3 h7
  subst this
  have h5 : s.h.get j = some p := h5
  rw [show s.h.get j = _ from h2] at h5
  injection h5 with h5
  exact ⟨rfl, h5.symm⟩
theorem cvS_ok (hE : EnvOk P E) (ht : TR μ tm n tmps) {src e : TypeId} {i1 i2 ie : TypeInfo} {e' : TypeId} {x : Operand} (hs : E.tt src = some (i1, .slice e')) (hd : E.tt src = some (i2, .slice e)) (he : E.tt e = some (ie, .int .u8)) {v : Value} {s' : St}
  (hv : runW tm s (.cvS (rp x)) = some (v, s')) (h : R μ s w) (d t p f g) :
  DoneW P μ s w (execOp (rho tmps) ⟨d, .convert src src x, t, p, f, g⟩) v s' := by
 simp only [runW] at hv
 split at hv
 case h_2 => cases hv
 rename_i xv hx
 unfold rCvS at hv
 split at hv
 case h_2 => cases hv
 rename_i pa k c
 split at hv
 case h_2 => cases hv
 rename_i cs ec el ho
 cases hbb : ((Nat.ble 1 k || Nat.ble 1 (lowCap c)) && not (Nat.beq el 1)) with
 | false => rw [hbb] at hv; cases hv
 | true =>
  rw [hbb, cond_true] at hv
  simp only [Bool.and_eq_true] at hbb
  obtain ⟨hb, hcv⟩ := hbb
  have hcv : el ≠ 1 := fun h => by rw [h] at hcv; cases hcv
  injection hv with hv; injection hv with e1 e2; subst e1; subst e2
  have h1 := rp_rel ht hx
  generalize hrx : rho tmps x = rx at h1
  cases h1 with
  | slE a a' c h0 =>
   rw [h0] at hb; cases hb
  | sl id i _ _ c' g hg hc =>
   obtain ⟨o', h4, h5⟩ := h.block ho hg
   cases h5 with
   | @cells _ _ _ ec' cs' fz hel hsz hxx hbb hr hz hpp =>
    obtain ⟨lo, hi⟩ := fz
    have hfz : w.freeze ⟨g.blk, cs'.length, none⟩ 1 = w.setBlk g.blk (.cells ⟨cs'⟩ ec' (if lo == hi then (cs'.length, cs'.length + 1) else (min lo cs'.length, max hi (cs'.length + 1)))) := by
     simp only [World.freeze, World.setBlk]
     rw [if_neg (by decide)]
     congr 1
     apply Array.ext_getElem?
     intro q
     rw [Array.getElem?_modify, Array.getElem?_setIfInBounds]
     by_cases hq : g.blk = q
     ·subst hq
      rw [if_pos rfl, if_pos rfl, if_pos (lt_of_get h4), h4]
      rfl
     ·rw [if_neg hq, if_neg hq]
    obtain ⟨b1, b2⟩ := h.touch ho hg (.cells (e' := ec') cs ec el cs' (if lo == hi then (cs'.length, cs'.length + 1) else (min lo cs'.length, max hi (cs'.length + 1))) hel hsz hxx hbb hr (fun _ => by
     have hz := hz hcv
     right
     split
     ·exact Nat.le_refl _
     ·rename_i hne
      rcases hz with hz | hz
      ·simp at hne; exact absurd hz hne
      ·have hz : cs'.length ≤ lo := hz
       show cs'.length ≤ min lo cs'.length
       omega) hpp) (fun cs1 e1 h0 => by injection h0 with _ _ h0; exact hcv h0)
    refine ⟨.value _, _, μ, ?_, b1, b2, .inr ⟨_, rfl, .sl id i _ _ c' g hg hc⟩⟩
    have hshape : w.shape? g.blk = some (ec', cs'.length) := by simp [World.shape?, h4]
    have hee : e' = e := by rw [hs] at hd; injection hd with hd; injection hd with _ hd; injection hd
    subst hee
    simp only [execOp, convert, hrx, Sem.run_bind, hE.under hs w, Result.andThen_ok]
    simp [hE.under he w, markStringish, hshape, hfz]
theorem run_copy {ty e : TypeId} {sz : Nat} {base : Option Addr} {k c m : Nat} {y : Value} {l' : List Value} {w' : World} {rest : List TypeId} {t : TypeId} (hu : (underlying ty).run P w = .ok (.slice e) w) (hs : (sizeOf e).run P w = .ok sz w)
  (hl : (Builtin.lenOf y).run P w = .ok m w) (hc : (Builtin.firstCells sz (Nat.min m k) y).run P w = .ok ⟨l'⟩ w)
  (hst : ∀ a, base = some a → (storeCells a l').run P w = .ok () w') (hn : base = none → w' = w) :
  (Builtin.copy_ ⟨ty :: rest⟩ t #[.slice base k c, y]).run P w = .ok (.int .i64 (.ofNat (Nat.min m k))) w' := by
 generalize hq : Nat.min m k = q at hc
 cases base with
 | none =>
  rw [hn rfl]
  simp [Builtin.copy_, hu, hl, hs]
  rw [hq, hc]
  simp [goInt]
 | some a =>
  have h1 := hst a rfl
  simp [Builtin.copy_, hu, hl, hs]
  rw [hq, hc]
  simp [goInt, h1]
theorem cpy_ok (hE : EnvOk P E) (ht : TR μ tm n tmps) {ty e : TypeId} {inf : TypeInfo} {sz : Nat} {x y : Operand} (hu : E.tt ty = some (inf, .slice e)) (hs : Eng.sizeT E e = some sz) {v : Value} {s' : St} {rest : List TypeId}
  (hv : runW tm s (.cpy sz (rp x) (rp y)) = some (v, s')) (h : R μ s w) (d t p f g) :
  DoneW P μ s w (execOp (rho tmps) ⟨d, .call ⟨.builtin .copy, ⟨[x, y]⟩, ⟨ty :: rest⟩⟩, t, p, f, g⟩) v s' := by
 simp only [runW] at hv
 split at hv
 case h_2 => cases hv
 rename_i xv yv hx hy
 unfold rCpy at hv
 split at hv
 case h_2 => cases hv
 rename_i base k c m hm
 simp only at hv
 split at hv
 ·cases hv
 rename_i l hl
 have h1 := rp_rel ht hx
 have h2 := rp_rel ht hy
 have hk : (bif Nat.ble m k then m else k) = Nat.min m k := by
  rw [natBle]
  by_cases hmk : m ≤ k
  ·rw [decide_eq_true hmk, cond_true]; exact (Nat.min_eq_left hmk).symm
  ·rw [decide_eq_false hmk, cond_false]; exact (Nat.min_eq_right (by omega)).symm
 rw [hk] at hl hv
 obtain ⟨l', h3, h4, h5⟩ := src_ok (P := P) h h2 hm (Nat.min_le_left m k) hl
 obtain ⟨h6, h7⟩ := h5 w rfl
 have hqe : min m k = Nat.min m k := rfl
 rw [hqe] at h4 h6
 generalize hq : Nat.min m k = q at hl hv h4 h6
 generalize hrx : rho tmps x = rx at h1
 have key : ∀ (base' : Option Addr) (c' : Nat) (w' : World), rx = .slice base' k c' → (∀ a, base' = some a → (storeCells a l').run P w = .ok () w') → (base' = none → w' = w) →
   (execOp (rho tmps) ⟨d, .call ⟨.builtin .copy, ⟨[x, y]⟩, ⟨ty :: rest⟩⟩, t, p, f, g⟩).run P w = .ok (.value (.int .i64 (.ofNat q))) w' := by
  intro base' c' w' he hst hn
  have hq6 : (Builtin.firstCells sz (Nat.min m k) (rho tmps y)).run P w = .ok ⟨l'⟩ w := by rw [hq]; exact h6
  have := run_copy (P := P) (c := c') (t := t) (rest := rest) (hE.under hu w) (hE.sizeT hs w) h7 hq6 hst hn
  simp only [execOp, resolve, Sem.run_bind, Sem.run_pure, Result.andThen_ok, invoke, builtin]
  have e1 : Array.map (rho tmps) ⟨[x, y]⟩ = #[.slice base' k c', rho tmps y] := by simp [hrx, he]
  rw [e1, this, hq]
  rfl
 cases h1 with
 | slN _ _ hc =>
  simp only at hv
  injection hv with hv; injection hv with e1 e2; subst e1; subst e2
  exact ⟨.value _, w, μ, key none c w rfl (fun a ha => by cases ha) (fun _ => rfl), h, .refl, .inr ⟨_, rfl, .int _ _⟩⟩
 | slE a a' c h0 =>
  have hl0 : l = [] := by
   have e : q = 0 := by rw [← hq]; exact Nat.min_eq_right (Nat.zero_le _)
   rw [e] at h4; simp at h4; exact h4
  subst hl0
  cases h3
  simp only at hv
  injection hv with hv; injection hv with e1 e2; subst e1; subst e2
  exact ⟨.value _, w, μ, key (some a') 0 w rfl (fun a ha => rfl) (fun _ => rfl), h, .refl, .inr ⟨_, rfl, .int _ _⟩⟩
 | sl id i _ _ c' g hg hc =>
  cases l with
  | nil =>
   cases h3
   simp only at hv
   injection hv with hv; injection hv with e1 e2; subst e1; subst e2
   exact ⟨.value _, w, μ, key _ c' w rfl (fun a ha => rfl) (fun _ => rfl), h, .refl, .inr ⟨_, rfl, .int _ _⟩⟩
  | cons a r =>
   simp only at hv
   split at hv
   case h_2 => cases hv
   rename_i s1 hw
   injection hv with hv; injection hv with e1 e2; subst e1; subst e2
   obtain ⟨w', b1, b2, b3⟩ := h.writeRow P hg hw h3
   exact ⟨.value _, w', μ, key _ c' w' rfl (fun a ha => by injection ha with ha; subst ha; exact b1) (fun h0 => by cases h0), b2, b3, .inr ⟨_, rfl, .int _ _⟩⟩
end
end Go.Eng
end
section
namespace Go.Eng
section
variable {P : Program} {E : Env} {μ : Mu} {tm : Tr Value} {n : Nat} {tmps : Array Value} {s : St} {w : World}
theorem zeroCells_eq (z : Array Value) (m : Nat) : Builtin.zeroCells z m = ⟨repL z.toList m⟩ := by
 apply Array.toList_inj.1
 exact rep_eq z m
theorem mul48 {m b : Nat} (h : m ≤ 1073741824) (hb : b ≤ 65536) : ¬ ((2 : Int) ^ 48 < (m : Int) * (b : Int)) := by
 have h1 : m * b ≤ 70368744177664 := Nat.le_trans (Nat.mul_le_mul h hb) (by decide)
 have h2 : (m : Int) * (b : Int) ≤ 70368744177664 := by
  have := Int.ofNat_le.2 h1
  rw [Int.natCast_mul] at this
  exact this
 have : (2 : Int) ^ 48 = 281474976710656 := rfl
 omega
def NewIs (P : Program) (ofInt : Bool) (sz m : Nat) (zc : List Value) (x' : Value) (new' : List Value) (w : World) : Prop :=
 if ofInt then (∃ k, x' = .int k (.ofNat m)) ∧ m ≤ 1073741824 ∧ new' = repL zc m
 else ∀ w2 : World, w2.heap = w.heap → (Builtin.firstCells sz m x').run P w2 = .ok ⟨new'⟩ w2 ∧ (Builtin.lenOf x').run P w2 = .ok m w2
theorem new_ok (h : R μ s w) {z z' : List Value} (hz : LR μ z z') {ofInt : Bool} {x x' : Value} {m : Nat} {new : List Value} (hv : VR μ x x') (hn : newOf s z z.length ofInt x = some (m, new)) :
  ∃ new', LR μ new new' ∧ new.length = m * z.length ∧ NewIs P ofInt z.length m z' x' new' w := by
 unfold newOf at hn
 cases ofInt with
 | true =>
  rw [cond_true] at hn
  split at hn
  case h_2 => cases hn
  rename_i k mm
  rw [natBle] at hn
  by_cases hm : mm ≤ 1073741824
  ·rw [decide_eq_true hm, cond_true] at hn
   injection hn with hn; injection hn with e1 e2; subst e1; subst e2
   cases hv
   exact ⟨_, hz.rep mm, repL_length z mm, by unfold NewIs; rw [if_pos rfl]; exact ⟨⟨k, rfl⟩, hm, rfl⟩⟩
  ·rw [decide_eq_false hm, cond_false] at hn; cases hn
 | false =>
  rw [cond_false] at hn
  split at hn
  ·cases hn
  rename_i mm hm
  split at hn
  ·cases hn
  rename_i l hl
  injection hn with hn; injection hn with e1 e2; subst e1; subst e2
  obtain ⟨l', h3, h4, h5⟩ := src_ok (P := P) h hv hm (Nat.le_refl _) hl
  exact ⟨l', h3, h4, by unfold NewIs; rw [if_neg (by simp)]; exact h5⟩
structure AppArgs (P : Program) (w : World) (t0 t1 e : TypeId) (d1 : TypeDesc) (ofInt : Bool) (i : TypeInfo) (z : Value) (sz : Nat) : Prop where
 hu : ∀ w, (underlying t0).run P w = .ok (.slice e) w
 hx : ∀ w, (underlying t1).run P w = .ok d1 w
 hd : isIntD d1 = ofInt
 hq : appD d1 = true
 hs : ∀ w, (sizeOf e).run P w = .ok sz w
 hi : ∀ w, (typeInfo e).run P w = .ok i w
 hz : ∀ w, (zeroValue e).run P w = .ok z w
 hzc : z.cells.size = sz
 hb : i.bytes ≤ 65536
theorem run_append_in {t0 t1 e ty : TypeId} {d1 : TypeDesc} {ofInt : Bool} {i : TypeInfo} {z : Value} {sz : Nat} (A : AppArgs P w t0 t1 e d1 ofInt i z sz) {base : Option Addr} {k c m : Nat} {x : Value} {new' : List Value} {w' : World}
  (hnew : NewIs P ofInt sz m z.cells.toList x new' w) (hlen : new'.length = m * sz) (hroom : k + m ≤ c)
  (hst : ∀ a, base = some a → (storeCells (a.add (k * sz)) new').run P w = .ok () w') (hn : base = none → w' = w) :
  (Builtin.append_ #[t0, t1] ty #[.slice base k c, x]).run P w = .ok (.slice base (k + m) c) w' := by
 obtain ⟨hu, hx, hd, hq, hs, hi, hz, hzc, hb⟩ := A
 cases ofInt with
 | true =>
  unfold NewIs at hnew
  rw [if_pos rfl] at hnew
  obtain ⟨⟨kk, rfl⟩, hm, rfl⟩ := hnew
  have hw := wrap_small hm
  have c1 : ¬ ((m : Int) < 0) := by omega
  have c2 := mul48 hm hb
  cases d1 <;> first | cases hq | skip
  all_goals cases hd
  have c2' : ¬ (281474976710656 < (m : Int) * (i.bytes : Int)) := c2
  have hzl : m * sz = 0 → repL z.cells.toList m = [] := fun h0 => List.length_eq_zero_iff.1 (by rw [hlen]; exact h0)
  cases base with
  | none =>
   rw [hn rfl]
   by_cases h0 : m * sz = 0 <;> simp [Builtin.append_, hu, hx, hs, hi, hz, asInt, asIntOf, hw, c1, c2', hroom]
  | some a =>
   have h3 := hst a rfl
   by_cases h0 : m * sz = 0
   ·rw [hzl h0] at h3
    simp [storeCells] at h3
    simp [Builtin.append_, hu, hx, hs, hi, hz, asInt, asIntOf, hw, c1, c2', hroom, h0, storeCells, h3]
   ·simp [Builtin.append_, hu, hx, hs, hi, hz, asInt, asIntOf, hw, c1, c2', hroom, h0, zeroCells_eq, h3]
 | false =>
  unfold NewIs at hnew
  rw [if_neg (by simp)] at hnew
  obtain ⟨h1, h2⟩ := hnew w rfl
  cases d1 <;> first | cases hq | skip
  all_goals try cases hd
  all_goals cases base with
  | none =>
   rw [hn rfl]
   all_goals first
    | cases hd
    | simp [Builtin.append_, hu, hx, hs, hi, hz, hroom, h1, h2]
  | some a =>
   have h3 := hst a rfl
   all_goals first
    | cases hd
    | simp [Builtin.append_, hu, hx, hs, hi, hz, hroom, h1, h2, h3]
theorem run_append_out {t0 t1 e ty : TypeId} {d1 : TypeDesc} {ofInt : Bool} {i : TypeInfo} {z : Value} {sz : Nat} (A : AppArgs P w t0 t1 e d1 ofInt i z sz) {base : Option Addr} {k c m : Nat} {x : Value} {old' new' : List Value}
  (hnew : NewIs P ofInt sz m z.cells.toList x new' w) (hlen : new'.length = m * sz) (hroom : c < k + m) (hneed : k + m ≤ 1073741824)
  (hold : (Builtin.firstCells sz k (.slice base k c)).run P w.drew = .ok ⟨old'⟩ w.drew) :
  (Builtin.append_ #[t0, t1] ty #[.slice base k c, x]).run P w =
   .ok (.slice (some ⟨w.heap.size, 0, none⟩) (k + m) (grownCap w (k + m) c e)) (pushO w.drew (.cells ⟨(old' ++ new') ++ repL z.cells.toList (grownCap w (k + m) c e - (k + m))⟩ e)) := by
 obtain ⟨hu, hx, hd, hq, hs, hi, hz, hzc, hb⟩ := A
 have hn : ¬ (k + m ≤ c) := by omega
 have h63' : ¬ (9223372036854775807 < ((k : Int) + (m : Int))) := by omega
 have hm20 : m ≤ 1073741824 := by omega
 have hmb : (k + m) * i.bytes ≤ 70368744177664 := Nat.le_trans (Nat.mul_le_mul hneed hb) (by decide)
 have h48 := growslice_fits (need := k + m) (old := c) (bytes := i.bytes) hroom (by omega)
 have h48' : ¬ (281474976710656 < Builtin.nextslicecap (k + m) c * i.bytes) := by omega
 cases ofInt with
 | true =>
  unfold NewIs at hnew
  rw [if_pos rfl] at hnew
  obtain ⟨⟨kk, rfl⟩, hm, rfl⟩ := hnew
  have hw := wrap_small hm
  cases d1 <;> first | cases hq | skip
  all_goals cases hd
  have c1 : ¬ ((m : Int) < 0) := by omega
  have c2' : ¬ (281474976710656 < (m : Int) * (i.bytes : Int)) := mul48 hm hb
  have hzl : m * sz = 0 → repL z.cells.toList m = [] := fun h0 => List.length_eq_zero_iff.1 (by rw [hlen]; exact h0)
  by_cases h0 : m * sz = 0
  ·simp [Builtin.append_, hu, hx, hs, hi, hz, asInt, asIntOf, hw, c1, c2', hn, h63', h48', Question.forced, hold, newRow, grownCap, zeroCells_eq, hzl h0]
  ·simp [Builtin.append_, hu, hx, hs, hi, hz, asInt, asIntOf, hw, c1, c2', hn, h0, h63', h48', Question.forced, hold, newRow, grownCap, zeroCells_eq]
 | false =>
  unfold NewIs at hnew
  rw [if_neg (by simp)] at hnew
  obtain ⟨h1, h2⟩ := hnew w rfl
  obtain ⟨h3, h4⟩ := hnew w.drew rfl
  cases d1 <;> first | cases hq | skip
  all_goals try cases hd
  all_goals (simp [Builtin.append_, hu, hx, hs, hi, hz, hn, h2, h63', h48', Question.forced, h3, hold, newRow, grownCap, zeroCells_eq])
end
end Go.Eng
end
section
namespace Go.Eng
section
variable {P : Program} {E : Env} {μ : Mu} {tm : Tr Value} {n : Nat} {tmps : Array Value} {s : St} {w : World}
theorem R.move (h : R μ s w) (hf : μ s.nx = none) {id : Nat} {o : AO} {g g2 : Img} (ho : s.h.get id = some o) (hg : μ id = some g) (hbk : g2.blk = g.blk) {o2 : AO} {o2' : Obj} (hob : OB (μ.add s.nx g2) g2 o2 o2') (hno : ∀ cs e, o ≠ .cells cs e 1) :
  R (μ.add s.nx g2) (newO (delS s id) o2) (w.setBlk g.blk o2') ∧ Ext μ s w (μ.add s.nx g2) (newO (delS s id) o2) (w.setBlk g.blk o2') := by
 have hle := Mu.add_le g2 hf
 obtain ⟨o', hb1, _⟩ := h.block ho hg
 have hlt := lt_of_get hb1
 have hget : ∀ j p, (newO (delS s id) o2).h.get j = some p → (j = s.nx ∧ o2 = p) ∨ (j ≠ s.nx ∧ j ≠ id ∧ s.h.get j = some p) := fun j p hp => by
  rw [newO_h, delS_nx, delS_h] at hp
  rcases Tr.get_put _ _ _ _ _ hp with ⟨e, hv⟩ | ⟨e, hv⟩
  ·exact .inl ⟨e, Option.some.inj hv⟩
  ·rcases Tr.get_put _ _ _ _ _ hv with ⟨e2, hv2⟩ | ⟨e2, hv2⟩
   ·cases hv2
   ·exact .inr ⟨e, e2, hv2⟩
 have hmu : ∀ j gj, j ≠ s.nx → (μ.add s.nx g2) j = some gj → μ j = some gj := fun j gj hj hh => by
  unfold Mu.add at hh; rw [if_neg hj] at hh; exact hh
 have hnb : ∀ j p gj, j ≠ id → s.h.get j = some p → μ j = some gj → gj.blk ≠ g.blk := fun j p gj hj hp hgj he => hj (h.inj j id p o gj g hp ho hgj hg he)
 have hR : R (μ.add s.nx g2) (newO (delS s id) o2) (w.setBlk g.blk o2') := by
  refine ⟨?_, ?_, ?_⟩
  ·intro j p hp
   rcases hget j p hp with ⟨e, e2⟩ | ⟨hne, hni, e⟩
   ·subst e; subst e2
    exact ⟨g2, o2', by unfold Mu.add; rw [if_pos rfl], by rw [hbk, setBlk_get, if_pos rfl, if_pos hlt], hob⟩
   ·obtain ⟨gj, oj, a1, a2, a3⟩ := h.live j p e
    refine ⟨gj, oj, hle _ _ a1, ?_, a3.mono hle⟩
    rw [setBlk_get, if_neg (fun hb => hnb j p gj hni e a1 hb.symm)]; exact a2
  ·intro j k p q gj gk hp hq hj hk hb
   rcases hget j p hp with ⟨e, _⟩ | ⟨e, ei, e2⟩ <;> rcases hget k q hq with ⟨f, _⟩ | ⟨f, fi, f2⟩
   ·rw [e, f]
   ·subst e
    unfold Mu.add at hj; rw [if_pos rfl] at hj; injection hj with hj; subst hj
    exact absurd (hb.symm.trans hbk) (hnb k q gk fi f2 (hmu k gk f hk))
   ·subst f
    unfold Mu.add at hk; rw [if_pos rfl] at hk; injection hk with hk; subst hk
    exact absurd (hb.trans hbk) (hnb j p gj ei e2 (hmu j gj e hj))
   ·exact h.inj j k p q gj gk e2 f2 (hmu j gj e hj) (hmu k gk f hk) hb
  ·intro j p hp
   rw [newO_nx, delS_nx]
   rcases hget j p hp with ⟨e, _⟩ | ⟨_, _, e⟩
   ·omega
   ·have := h.nx j p e; omega
 refine ⟨hR, ⟨hle, ?_, by rw [newO_nx, delS_nx]; omega, rfl, rfl, rfl, by rw [setBlk_size]; exact Nat.le_refl _, ?_, ?_, fun _ => hR.inj, fun _ id' cs e g' h2 h3 h4 => ?_⟩⟩
 ·intro j gj hj
  by_cases e : j = s.nx
  ·exact .inr ⟨by omega, by rw [newO_nx, delS_nx]; omega⟩
  ·exact .inl (hmu j gj e hj)
 ·intro b _ hfr
  rw [setBlk_get, if_neg (hfr id o g ho hg)]
 ·intro j p gj hp hj
  rcases hget j p hp with ⟨e, _⟩ | ⟨e, ei, e2⟩
  ·subst e
   unfold Mu.add at hj; rw [if_pos rfl] at hj; injection hj with hj; subst hj
   exact .inr ⟨id, o, g, ho, hg, hbk.symm⟩
  ·exact .inr ⟨j, p, gj, e2, hmu j gj e hj, rfl⟩
 ·have hne : id' ≠ id := fun e1 => by
   subst e1
   rw [show s.h.get id' = _ from h2] at ho
   injection ho with ho
   exact hno cs e ho.symm
  have hbk' : g.blk ≠ g'.blk := fun e1 => hne (h.inj id id' o _ g g' ho h2 hg h3 e1).symm
  refine ⟨by rw [setBlk_get, if_neg hbk'], fun j p gj h5 h6 h7 => ?_⟩
  rcases hget j p h5 with ⟨e1, _⟩ | ⟨e1, e2, e3⟩
  ·subst e1
   unfold Mu.add at h6; rw [if_pos rfl] at h6; injection h6 with h6; subst h6
   exact absurd (hbk.symm.trans h7) hbk'
  ·have := h.inj j id' p _ gj g' e3 h2 (hmu j gj e1 h6) h3 h7
   subst this
   rw [show s.h.get j = _ from h2] at e3
   injection e3 with e3
   exact ⟨rfl, e3.symm⟩
theorem cap_new {sz need : Nat} (h : need ≤ 1073741824) : big ≤ big + sz * qq + need ∧ lowCap (big + sz * qq + need) = need ∧ esCap (big + sz * qq + need) = sz := by
 have hq : need < qq := by unfold qq; omega
 have hb : big ≤ big + sz * qq + need := by omega
 refine ⟨hb, ?_, ?_⟩
 ·rw [lowCap_big hb, show big + sz * qq + need - big = sz * qq + need by omega, Nat.mul_comm, Nat.mul_add_mod, Nat.mod_eq_of_lt hq]
 ·unfold esCap
  rw [show big + sz * qq + need - big = sz * qq + need by omega, Nat.mul_comm, Nat.mul_add_div qq_pos, Nat.div_eq_of_lt hq, Nat.add_zero]
theorem R.drewn (h : R μ s w) : R μ s w.drew := ⟨h.live, h.inj, h.nx⟩
theorem R.grown (h : R μ s w) (hf : μ s.nx = none) {cs cs' : List Value} (hr : LR μ cs cs') (e : TypeId) (rest : List Value) (hrest : ∀ v' ∈ rest, ∃ v, VR μ v v') (sz : Nat) :
  let g : Img := ⟨w.heap.size, 0, Nat.succ sz, (cs' ++ rest).length⟩
  R (μ.add s.nx g) (newO s (.cells cs e (Nat.succ sz))) (pushO w.drew (.cells ⟨cs' ++ rest⟩ e)) ∧
  Ext μ s w (μ.add s.nx g) (newO s (.cells cs e (Nat.succ sz))) (pushO w.drew (.cells ⟨cs' ++ rest⟩ e)) := by
 intro g
 refine h.make hf (o' := .cells ⟨cs' ++ rest⟩ e) (by show (w.heap.push _)[w.heap.size]? = _; simp) (by show w.heap.size ≤ (w.heap.push _).size; simp) rfl rfl rfl ?_ ?_ (Nat.le_refl _) ?_
 ·intro b hb _
  show (w.heap.push _)[b]? = _
  rw [Array.getElem?_push_lt hb, Array.getElem?_eq_getElem hb]
 ·intro id p gp hp hg he
  obtain ⟨o', h1, _⟩ := h.block hp hg
  have := lt_of_get h1
  have he : gp.blk = w.heap.size := he
  omega
 ·refine .cells cs e (Nat.succ sz) (cs' ++ rest) (0, 0) rfl rfl (fun h0 => by cases h0) ?_ ?_ (fun _ => .inl rfl) (fun _ v' hv' => by
   rcases List.mem_append.1 hv' with hv' | hv'
   ·exact (hr.mem v' hv').imp fun _ k => k.mono (Mu.add_le _ hf)
   ·exact (hrest v' hv').imp fun _ k => k.mono (Mu.add_le _ hf))
  ·show 0 + cs.length ≤ _
   rw [List.length_append, hr.length]; omega
  ·have := hr.mono (Mu.add_le g hf)
   show LR _ cs (((cs' ++ rest).drop 0).take cs.length)
   rw [List.drop_zero, ← hr.length, List.take_left]
   exact this
theorem app_ok (hE : EnvOk P E) (ht : TR μ tm n tmps) {t0 t1 e : TypeId} {i0 i1 i : TypeInfo} {d1 de : TypeDesc} {z : Value} {x y : Operand} (hu : E.tt t0 = some (i0, .slice e)) (hx1 : E.tt t1 = some (i1, d1)) (he : E.tt e = some (i, de))
  (hz : Eng.zeroT E e = some z) (hby : i.bytes ≤ 65536) (hsz1 : 1 ≤ i.size) (hq : appD d1 = true) {v : Value} {s' : St}
  (hv : runW tm s (.app e (cellsL z) (isIntD d1) (rp x) (rp y)) = some (v, s')) (h : R μ s w) (hf : s.nx < s'.nx → μ s.nx = none) (d t p f g) :
  DoneW P μ s w (execOp (rho tmps) ⟨d, .call ⟨.builtin .append, ⟨[x, y]⟩, ⟨[t0, t1]⟩⟩, t, p, f, g⟩) v s' := by
 obtain ⟨hz1, hz2, hz3⟩ := hE.zeroT hz
 have hzr := (plainZ_rel μ hz1).cells
 have hzc : z.cells.size = (cellsL z).length := by rw [← hzr.length, Array.length_toList]
 have A : AppArgs P w t0 t1 e d1 (isIntD d1) i z (cellsL z).length := ⟨hE.under hu, hE.under hx1, rfl, hq, hE.sizeT hz3, hE.info he, hz2, hzc, hby⟩
 have hszp : 1 ≤ (cellsL z).length := by
  have : Eng.sizeT E e = some i.size := by unfold Eng.sizeT; rw [he]
  rw [this] at hz3; injection hz3 with hz3; omega
 simp only [runW] at hv
 split at hv
 case h_2 => cases hv
 rename_i xv yv hx hy
 unfold rApp at hv
 split at hv
 case h_2 => cases hv
 rename_i base k c
 simp only at hv
 split at hv
 ·cases hv
 rename_i m new hnew
 have h1 := rp_rel ht hx
 have h2 := rp_rel ht hy
 obtain ⟨new', n1, n2, n3⟩ := new_ok (P := P) h hzr h2 hnew
 have n4 : new'.length = m * (cellsL z).length := by rw [n1.length, n2]
 generalize hszv : (cellsL z).length = sz at *
 generalize hrx : rho tmps x = rx at h1
 have hargs : ∀ base' c', rx = .slice base' k c' → Array.map (rho tmps) ⟨[x, y]⟩ = #[.slice base' k c', rho tmps y] := by
  intro base' c' he; simp [hrx, he]
 have kin : ∀ (base' : Option Addr) (c' : Nat) (w' : World), rx = .slice base' k c' → k + m ≤ c' → (∀ a, base' = some a → (storeCells (a.add (k * sz)) new').run P w = .ok () w') → (base' = none → w' = w) →
   (execOp (rho tmps) ⟨d, .call ⟨.builtin .append, ⟨[x, y]⟩, ⟨[t0, t1]⟩⟩, t, p, f, g⟩).run P w = .ok (.value (.slice base' (k + m) c')) w' := by
  intro base' c' w' he hroom hst hn
  simp only [execOp, resolve, Sem.run_bind, Sem.run_pure, Result.andThen_ok, invoke, builtin]
  rw [hargs base' c' he, run_append_in A n3 n4 hroom hst hn]
  rfl
 have kout : ∀ (base' : Option Addr) (c' : Nat) (old' : List Value), rx = .slice base' k c' → c' < k + m → k + m ≤ 1073741824 → (Builtin.firstCells sz k (.slice base' k c')).run P w.drew = .ok ⟨old'⟩ w.drew →
   (execOp (rho tmps) ⟨d, .call ⟨.builtin .append, ⟨[x, y]⟩, ⟨[t0, t1]⟩⟩, t, p, f, g⟩).run P w =
    .ok (.value (.slice (some ⟨w.heap.size, 0, none⟩) (k + m) (grownCap w (k + m) c' e))) (pushO w.drew (.cells ⟨(old' ++ new') ++ repL z.cells.toList (grownCap w (k + m) c' e - (k + m))⟩ e)) := by
  intro base' c' old' he hroom hneed hold
  simp only [execOp, resolve, Sem.run_bind, Sem.run_pure, Result.andThen_ok, invoke, builtin]
  rw [hargs base' c' he, run_append_out A n3 n4 hroom hneed hold]
  rfl
 have hadd : Nat.add k m = k + m := rfl
 rw [hadd, natBle] at hv
 by_cases hroom : k + m ≤ lowCap c
 ·rw [decide_eq_true hroom, cond_true] at hv
  unfold appIn at hv
  cases h1 with
  | slN _ _ hc =>
   simp only at hv
   injection hv with hv; injection hv with e1 e2; subst e1; subst e2
   rw [lowCap_small hc] at hroom
   exact ⟨_, w, μ, kin none c w rfl hroom (fun a ha => by cases ha) (fun _ => rfl), h, .refl, .inr ⟨_, rfl, .slN _ _ hc⟩⟩
  | slE a a' c h0 =>
   have hm : m = 0 := by omega
   subst hm
   have hn0 : new = [] := List.length_eq_zero_iff.1 (by rw [n2]; simp)
   subst hn0
   cases n1
   simp only at hv
   injection hv with hv; injection hv with e1 e2; subst e1; subst e2
   exact ⟨_, w, μ, kin (some a') 0 w rfl (by omega) (fun a ha => rfl) (fun _ => rfl), h, .refl, .inr ⟨_, rfl, .slE a a' c h0⟩⟩
  | sl id j _ _ c' gi hg hc =>
   have hroom' : k + m ≤ c' := by
    rcases hc with ⟨a, b⟩ | ⟨a, b, _⟩
    ·rw [lowCap_small a] at hroom; omega
    ·omega
   cases new with
   | nil =>
    cases n1
    simp only at hv
    injection hv with hv; injection hv with e1 e2; subst e1; subst e2
    exact ⟨_, w, μ, kin _ c' w rfl hroom' (fun a ha => rfl) (fun _ => rfl), h, .refl, .inr ⟨_, rfl, .sl id j _ _ c' gi hg hc⟩⟩
   | cons a r =>
    simp only at hv
    split at hv
    case h_2 => cases hv
    rename_i s1 hw
    injection hv with hv; injection hv with e1 e2; subst e1; subst e2
    obtain ⟨w', b1, b2, b3⟩ := h.writeRow P hg hw n1
    refine ⟨_, w', μ, kin _ c' w' rfl hroom' (fun a ha => ?_) (fun h0 => by cases h0), b2, b3, .inr ⟨_, rfl, .sl id j _ _ c' gi hg hc⟩⟩
    injection ha with ha; subst ha
    rw [add_at]
    have : gi.off + j + k * sz = gi.off + (j + k * sz) := by omega
    rw [this]; exact b1
 ·rw [decide_eq_false hroom, cond_false] at hv
  unfold appOut at hv
  rw [natBle] at hv
  by_cases hneed : k + m ≤ 1073741824
  case neg => rw [decide_eq_false hneed, cond_false] at hv; cases hv
  rw [decide_eq_true hneed, cond_true] at hv
  split at hv
  ·cases hv
  rename_i old hold
  split at hv
  ·cases hv
  rename_i s1 hs1
  injection hv with hv; injection hv with e1 e2; subst e1; subst e2
  obtain ⟨k1, k2, k3⟩ := cap_new (sz := sz) hneed
  have h1' : VR μ (.slice base k c) rx := h1
  obtain ⟨old', o1, o2, o3⟩ := src_ok (P := P) h h1' (m := k) rfl (Nat.le_refl _) hold
  have o4 : old'.length = k * sz := by rw [o1.length, o2]
  have hon := o1.append n1
  have hfc : ∀ base' c', rx = .slice base' k c' → (Builtin.firstCells sz k (.slice base' k c')).run P w.drew = .ok ⟨old'⟩ w.drew := fun base' c' he => by
   have := (o3 w.drew rfl).1
   rw [he] at this; exact this
  have grow : ∀ base' c', rx = .slice base' k c' → c' < k + m → R μ s1 w → Ext μ s w μ s1 w → s1.nx = s.nx →
    DoneW P μ s w (execOp (rho tmps) ⟨d, .call ⟨.builtin .append, ⟨[x, y]⟩, ⟨[t0, t1]⟩⟩, t, p, f, g⟩) (.slice (some ⟨s1.nx, 0, none⟩) (k + m) (big + sz * qq + (k + m))) (newO s1 (.cells (old ++ new) e (Nat.succ sz))) := by
   intro base' c' he hc' hR hX hnx
   have hge := grownCap_ge w (k + m) c' e
   obtain ⟨b1, b2⟩ := hR.grown (by rw [hnx]; exact hf (by rw [newO_nx, hnx]; omega)) hon e (repL z.cells.toList (grownCap w (k + m) c' e - (k + m))) (hzr.rep _).mem sz
   refine ⟨_, _, _, kout base' c' old' he hc' hneed (hfc base' c' he), b1, hX.trans b2, .inr ⟨_, rfl, .sl s1.nx 0 _ _ _ _ (add_at_nx _) (.inr ⟨k1, by rw [k2]; exact hge, ?_⟩)⟩⟩
   rw [k3]
   simp only [List.length_append, o4, n4, repL_length, Array.length_toList, hzc]
   rw [← Nat.add_mul, ← Nat.add_mul]
   have : k + m + (grownCap w (k + m) c' e - (k + m)) = grownCap w (k + m) c' e := by omega
   rw [this]; omega
  cases hbig : Nat.ble big c with
  | false =>
   rw [hbig, cond_false] at hs1
   have hcb : c < big := by
    rcases Nat.lt_or_ge c big with h' | h'
    ·exact h'
    ·rw [natBle, decide_eq_true h'] at hbig; cases hbig
   rw [lowCap_small hcb] at hroom
   have hs : s1 = s := by
    cases hcc : Nat.ble c 1073741824 with
    | true => rw [hcc, cond_true] at hs1; injection hs1 with hs1; exact hs1.symm
    | false => rw [hcc, cond_false] at hs1; cases hs1
   subst hs
   cases h1 with
   | slN _ _ hc => exact grow none c rfl (by omega) h .refl rfl
   | slE a a' c h0 => exact grow (some a') 0 rfl (by omega) h .refl rfl
   | sl id j _ _ c' gi hg hc =>
    have : c' = c := by rcases hc with ⟨_, b⟩ | ⟨a, _⟩ <;> omega
    exact grow _ c' rfl (by omega) h .refl rfl
  | true =>
   rw [hbig, cond_true] at hs1
   have hcb : big ≤ c := Nat.le_of_ble_eq_true hbig
   cases hes : (Nat.beq (esCap c) sz && new.all oneCellB) with
   | false => rw [hes, cond_false] at hs1; cases hs1
   | true =>
   rw [hes, cond_true] at hs1
   simp only [Bool.and_eq_true] at hes
   have hesz := Nat.eq_of_beq_eq_true hes.1
   unfold dropB at hs1
   cases h1 with
   | slN _ _ hc => omega
   | slE a a' c h0 =>
    simp only at hs1
    split at hs1
    case h_2 => cases hs1
    rename_i cs1 ee el ho
    cases hel : Nat.beq el (Nat.succ sz) with
    | false => rw [hel, cond_false] at hs1; cases hs1
    | true =>
    rw [hel, cond_true] at hs1
    injection hs1 with hs1; subst hs1
    obtain ⟨r1, r2⟩ := h.drop a.block
    exact grow (some a') 0 rfl (by omega) r1 r2 (delS_nx _ _)
   | sl id j _ _ c' gi hg hc =>
    simp only at hs1
    split at hs1
    case h_2 => cases hs1
    rename_i cs1 ee el ho
    cases hel : Nat.beq el (Nat.succ sz) with
    | false => rw [hel, cond_false] at hs1; cases hs1
    | true =>
    rw [hel, cond_true] at hs1
    injection hs1 with hs1; subst hs1
    rcases Nat.lt_or_ge c' (k + m) with hlt | hge
    ·obtain ⟨r1, r2⟩ := h.drop id
     exact grow _ c' rfl hlt r1 r2 (delS_nx _ _)
    · -- in place
     have hcc : lowCap c ≤ c' ∧ gi.off + j + c' * esCap c ≤ gi.size := by
      rcases hc with ⟨a, _⟩ | ⟨_, b, c⟩
      ·omega
      ·exact ⟨b, c⟩
     obtain ⟨o', q1, q2⟩ := h.block ho hg
     cases q2 with
     | @cells _ _ _ ec' cs' fz hel' hsz hxx hbb hr hz' hpp =>
      rw [hesz] at hcc
      have hz' := hz' (by have := Nat.eq_of_beq_eq_true hel; omega)
      have hmul : (k + m) * sz ≤ c' * sz := Nat.mul_le_mul_right _ hge
      have hkm : k * sz + m * sz = (k + m) * sz := (Nat.add_mul k m sz).symm
      have hfit : gi.off + j + k * sz + new'.length ≤ cs'.length := by rw [n4, ← hsz]; omega
      have hf := hf (by rw [newO_nx, delS_nx]; omega)
      have hst := run_storeCells_blk P gi.blk (gi.off + j + k * sz) _ fz new' 0 cs' w q1 (by omega) (noFrz hz') (n1.oneCell hes.2)
      have hrow : ((cs'.drop (gi.off + j)).take ((k + m) * sz)).take (k * sz) = old' := by
       have e1 := (o3 w rfl).1
       have hl : ((cs'.drop (gi.off + j)).take (k * sz)).length = k * sz := by simp; omega
       have e2 := run_loadCells_list (P := P) w ⟨gi.blk, gi.off + j, none⟩ ((cs'.drop (gi.off + j)).take (k * sz)) (fun q u hu => by
        rw [add_at, cell_blk q1]
        rw [List.getElem?_take] at hu
        split at hu
        ·rw [List.getElem?_drop] at hu; exact hu
        ·cases hu)
       rw [hl] at e2
       have e3 : (Builtin.firstCells sz k (.slice (some ⟨gi.blk, gi.off + j, none⟩) k c')).run P w = (loadCells ⟨gi.blk, gi.off + j, none⟩ (k * sz)).run P w := rfl
       rw [e3, e2] at e1
       injection e1 with e1
       have e4 := congrArg Array.toList e1
       simp only at e4
       rw [List.take_take, Nat.min_eq_left (by omega)]
       exact e4
      have hob : OB (μ.add s.nx ⟨gi.blk, gi.off + j, Nat.succ sz, gi.size⟩) ⟨gi.blk, gi.off + j, Nat.succ sz, gi.size⟩ (.cells (old ++ new) e (Nat.succ sz))
        (.cells ⟨cs'.take (gi.off + j + k * sz) ++ (new' ++ cs'.drop (gi.off + j + k * sz + new'.length))⟩ ec' fz) := by
       have hln : (old ++ new).length = (k + m) * sz := by rw [List.length_append, o2, n2, hkm]
       refine .cells _ e (Nat.succ sz) _ fz rfl ?_ (fun h0 => by cases h0) ?_ ?_ ?_ (fun he1 v' hv' => ?_)
       ·show gi.size = _
        rw [hsz]; simp; omega
       ·show gi.off + j + _ ≤ _
        rw [hln]; simp; omega
       ·rw [hln]
        show LR _ (old ++ new) _
        rw [over_window cs' new' (gi.off + j) (k * sz) ((k + m) * sz) (by omega) (by omega), hrow]
        have : ((cs'.drop (gi.off + j)).take ((k + m) * sz)).drop (k * sz + new'.length) = [] := by
         apply List.drop_eq_nil_of_le
         simp; omega
        rw [this, List.append_nil]
        exact hon.mono (Mu.add_le _ hf)
       ·intro _
        rcases hz' with hz' | hz'
        ·exact .inl hz'
        ·right; simp; omega
       ·simp only [List.mem_append] at hv'
        rcases hv' with hv' | hv' | hv'
        ·exact (hpp (by rw [Nat.eq_of_beq_eq_true hel]; exact he1) _ (List.mem_of_mem_take hv')).imp fun _ k => k.mono (Mu.add_le _ hf)
        ·exact (n1.mem _ hv').imp fun _ k => k.mono (Mu.add_le _ hf)
        ·exact (hpp (by rw [Nat.eq_of_beq_eq_true hel]; exact he1) _ (List.mem_of_mem_drop hv')).imp fun _ k => k.mono (Mu.add_le _ hf)
      obtain ⟨b1, b2⟩ := h.move (g2 := ⟨gi.blk, gi.off + j, Nat.succ sz, gi.size⟩) hf ho hg rfl hob (fun cs1 e1 h0 => by
       injection h0 with _ _ h0
       have := Nat.eq_of_beq_eq_true hel
       omega)
      refine ⟨_, _, _, kin _ c' _ rfl hge (fun a ha => ?_) (fun h0 => by cases h0), b1, b2, .inr ⟨_, rfl, ?_⟩⟩
      ·injection ha with ha; subst ha
       rw [add_at]
       exact hst
      ·rw [delS_nx]
       exact .sl s.nx 0 _ _ _ _ (add_at_nx _) (.inr ⟨k1, by rw [k2]; exact hge, by rw [k3]; show gi.off + j + 0 + c' * sz ≤ gi.size; omega⟩)
theorem write_ok (hE : EnvOk P E) (ht : TR μ tm n tmps) {op : Op} {q : WO} (hc : compW E op = some q) {v : Value} {s' : St} (hv : runW tm s q = some (v, s')) (h : R μ s w) (hf : s.nx < s'.nx → μ s.nx = none) (d t p f g) :
  DoneW P μ s w (execOp (rho tmps) ⟨d, op, t, p, f, g⟩) v s' := by
 cases op with
 | store ty a x =>
  simp only [compW] at hc
  split at hc
  case h_2 => cases hc
  rename_i sz hs
  injection hc with hc; subst hc
  exact sto_ok hE ht hs hv h d t p f g
 | convert src dst x =>
  simp only [compW] at hc
  split at hc
  case h_2 => cases hc
  rename_i i1 e1 i2 e hs hd
  split at hc
  case h_2 => cases hc
  rename_i ie he
  cases hb : Nat.beq src dst with
  | false => rw [hb] at hc; cases hc
  | true =>
   rw [hb, cond_true] at hc
   have := Nat.eq_of_beq_eq_true hb
   subst this
   injection hc with hc; subst hc
   exact cvS_ok hE ht hs hd he hv h d t p f g
 | mapUpdate ty m k x =>
  simp only [compW] at hc
  split at hc
  case h_2 => cases hc
  rename_i inf kt et hu
  split at hc
  case h_2 => cases hc
  rename_i ik kd hk
  injection hc with hc; subst hc
  exact put_ok hE ht hu hk hv h d t p f g
 | call c =>
  obtain ⟨callee, ⟨args⟩, ⟨ats⟩⟩ := c
  simp only [compW] at hc
  split at hc
  case h_2 => cases hc
  split at hc
  ·split at hc
   case h_2 => cases hc
   rename_i i0 e i1 d1 hu hx1
   split at hc
   case h_2 => cases hc
   rename_i i de z he hz
   cases hb : (Nat.ble i.bytes 65536 && Nat.ble 1 i.size && appD d1) with
   | false => rw [hb] at hc; cases hc
   | true =>
    rw [hb, cond_true] at hc
    injection hc with hc; subst hc
    simp only [Bool.and_eq_true] at hb
    exact app_ok hE ht hu hx1 he hz (Nat.le_of_ble_eq_true hb.1.1) (Nat.le_of_ble_eq_true hb.1.2) hb.2 hv h hf d t p f g
  ·split at hc
   case h_2 => cases hc
   rename_i inf e hu
   split at hc
   case h_2 => cases hc
   rename_i sz hs
   injection hc with hc; subst hc
   exact cpy_ok hE ht hu hs hv h d t p f g
  ·split at hc
   case h_2 => cases hc
   rename_i inf kt et hu
   injection hc with hc; subst hc
   exact clr_ok hE ht hu hv h d t p f g
  ·split at hc
   case h_2 => cases hc
   rename_i inf kt et hu
   split at hc
   case h_2 => cases hc
   rename_i ik kd hk
   injection hc with hc; subst hc
   exact del_ok hE ht hu hk hv h d t p f g
  ·cases hc
 | _ => cases hc
end
end Go.Eng
end
