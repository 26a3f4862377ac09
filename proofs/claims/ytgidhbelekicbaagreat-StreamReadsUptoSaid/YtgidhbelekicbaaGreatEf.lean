/-
  Part of the proof of StreamReadsUptoSaid: Calls, defers, panics, loops over functions: the evaluator is sound.
-/
import Derived.Test.YtgidhbelekicbaaGreatEe
set_option linter.unusedVariables false
section
namespace Go.Eng
section
variable {P : Program} {E : Env} {rec : Task → Option Res}
theorem run_takeDeferred {w : World} {r : Nat} (h : w.heap[r]? = some (.deferred (some []))) : (Instr.takeDeferred r).run P w = .ok [] (w.setBlk r (.deferred none)) := by
 simp only [Instr.takeDeferred, Sem.run_bind, run_getObj (P := P) h (by simp), Result.andThen_ok, run_setObj (P := P) h (by simp)]
 rfl
theorem invoke_func {f : FuncId} {c a : List Value} (h : Enters P f) (w : World) : (invoke (.fn (.func f) ⟨c⟩) ⟨a⟩).run P w = .ok (.enter f ⟨a ++ c⟩) w := by
 have : (⟨a⟩ : Array Value) ++ ⟨c⟩ = ⟨a ++ c⟩ := by apply Array.toList_inj.1; simp
 simp only [invoke, this]
 exact h _ _
theorem defers_ok (hs : Sound P E rec) (hm : Mono rec) : ∀ (ds : List Deferred) {μ : Mu} {s s' : St} {w : World} {fr : Frame} {cs : List Frame}, runDefers E rec ds s = some s' → R μ s w → Fresh μ s.nx s'.nx → DfR μ ds fr.defers → fr.mode = .returning →
  ∃ μ' w', Steps P (lone fr cs w) (lone { fr with defers := [] } cs w') ∧ R μ' s' w' ∧ Ext μ s w μ' s' w'
 | [], μ, s, s', w, fr, cs, h, hR, _, hd, _ => by
  cases h
  have hd0 : fr.defers = [] := by generalize fr.defers = x at hd; cases hd; rfl
  have : ({ fr with defers := [] } : Frame) = fr := by rw [← hd0]
  rw [this]
  exact ⟨μ, w, .refl _ _, hR, .refl⟩
 | d :: ds, μ, s, s', w, fr, cs, h, hR, hF, hd, hmode => by
  generalize hfd : fr.defers = x at hd
  have hne : fr.mode ≠ .run := by rw [hmode]; simp
  simp only [runDefers] at h
  cases hd with
  | coll b g _ r' hg hr =>
   simp only at h
   split at h
   case h_2 => cases h
   rename_i ho
   obtain ⟨o', h1, h2⟩ := hR.block ho hg
   cases h2
   have hst := step_collected (P := P) (cs := cs) hne hfd rfl (run_takeDeferred h1)
   obtain ⟨b1, b2⟩ := hR.change ho hg (o2 := .defd false) (o2' := .deferred none) .defdF
   have hnx := setS_nx s b (.defd false)
   obtain ⟨μ', w', q1, q2, q3⟩ := defers_ok hs hm ds (fr := { fr with defers := [] ++ r' }) (cs := cs) h b1 (by rw [hnx]; exact hF) hr hmode
   exact ⟨μ', w', .head hst q1, q2, b2.trans q3⟩
  | fn f c c' a a' _ r' hc ha hr =>
   simp only at h
   split at h
   ·cases h
   rename_i hsm
   split at h
   case h_2 => cases h
   rename_i v s1 hrec
   obtain ⟨hen, hcall⟩ := hs.call _ _ _ _ _ hrec
   have hn1 := hm _ _ hrec
   have hn2 := runDefers_nx hm h
   have hst := step_defer (P := P) (cs := cs) hne hfd rfl (invoke_func hen w)
   obtain ⟨μ1, w1, v', frE, p1, p2, p3, p4, p5⟩ := hcall μ w (a' ++ c') .deferred ({ fr with defers := r' } :: cs) hR (hF.sub (Nat.le_refl _) hn2) (ha.append hc) (.inr ⟨rfl, hsm, _, _, rfl, .inl hmode⟩)
   obtain ⟨z1, z2, z3, z4, fn, z5, z6⟩ := p5
   have hback := step_going_returned (P := P) (c := { fr with defers := r' }) (cs := cs) z3 ⟨z1, z2, fn, by rw [z4]; exact z5, z6⟩
   have hset : ({ ({ fr with defers := r' } : Frame) with mode := settle ({ fr with defers := r' } : Frame).mode } : Frame) = { fr with defers := r' } := by
    simp [hmode, settle]
   rw [hset] at hback
   obtain ⟨μ2, w2, q1, q2, q3⟩ := defers_ok hs hm ds (fr := { fr with defers := r' }) (cs := cs) h p2 (p3.fresh hF) (hr.mono p3.mu) hmode
   exact ⟨μ2, w2, .head hst (p1.trans (.head hback q1)), q2, p3.trans q3⟩
theorem results_ok (hE : EnvOk P E) {μ : Mu} {fr : Fr} {s : St} {w : World} {b : Frame} {a : Act} (hR : R μ s w) (hfr : FR μ fr b a) : ∀ {rs : List ResultVar} {l : List Value}, resultsV E fr s rs = some l →
  ∃ l', LR μ l l' ∧ (rs.mapM (m := Sem) fun
   | .tmp t => pure (a.tmps.getD t undef)
   | .cell x t => do loadVar t (← asAddr (a.tmps.getD x undef))).run P w = .ok l' w
 | [], l, h => by cases h; exact ⟨[], .nil, rfl⟩
 | .tmp t :: rs, l, h => by
  simp only [resultsV] at h
  split at h
  case h_2 => cases h
  rename_i v l1 hv hl
  cases h
  obtain ⟨l', h1, h2⟩ := results_ok hE hR hfr hl
  refine ⟨a.tmps.getD t undef :: l', .cons _ _ _ _ (hfr.tm.2 _ _ hv).2 h1, ?_⟩
  simp only [List.mapM_cons, Sem.run_bind, Sem.run_pure, Result.andThen_ok, h2]
 | .cell x t :: rs, l, h => by
  simp only [resultsV] at h
  split at h
  case h_2 => cases h
  rename_i pp g l1 hv hg hl
  split at h
  case h_2 => cases h
  rename_i v hld
  cases h
  obtain ⟨l', h1, h2⟩ := results_ok hE hR hfr hl
  have hx := (hfr.tm.2 _ _ hv).2
  generalize hxx : a.tmps.getD x undef = xx at hx
  cases hx with
  | ptr id i gi hgi =>
   obtain ⟨v', h3, h4⟩ := ld_run hE hg hR hgi hld
   refine ⟨v' :: l', .cons _ _ _ _ h4 h1, ?_⟩
   have h5 : (asAddr (a.tmps.getD x undef)).run P w = .ok ⟨gi.blk, gi.off + i, none⟩ w := by rw [hxx]; rfl
   simp only [List.mapM_cons, Sem.run_bind, Sem.run_pure, Result.andThen_ok, h5, h3, h2]
theorem run_results (hE : EnvOk P E) {μ : Mu} {fr : Fr} {s : St} {w : World} {b : Frame} {a : Act} (hR : R μ s w) (hfr : FR μ fr b a) {fn : Func} {l : List Value} (h : resultsV E fr s fn.results.toList = some l) :
  ∃ v', (results fn a.tmps).run P w = .ok v' w ∧ VR μ (oneV l) v' := by
 obtain ⟨l', h1, h2⟩ := results_ok hE hR hfr h
 have hm : (fn.results.mapM (m := Sem) fun
   | .tmp t => pure (a.tmps.getD t undef)
   | .cell x t => do loadVar t (← asAddr (a.tmps.getD x undef))).run P w = .ok ⟨l'⟩ w := by
  rw [Array.mapM_eq_mapM_toList]
  simp only [map_eq_pure_bind, Sem.run_bind, Sem.run_pure]
  rw [h2]; rfl
 have hlen := h1.length
 refine ⟨if h : (⟨l'⟩ : Array Value).size = 1 then (⟨l'⟩ : Array Value)[0] else .tuple ⟨l'⟩, ?_, ?_⟩
 ·simp only [results, Sem.run_bind]
  erw [hm]
  rfl
 ·cases h1 with
  | nil => exact .tuple _ _ .nil
  | cons v v' l l' hv hr =>
   cases hr with
   | nil => exact hv
   | cons u u' m m' hu hr2 =>
    have : ¬ (⟨v' :: u' :: m'⟩ : Array Value).size = 1 := by simp
    rw [dif_neg this]
    exact .tuple _ _ (.cons _ _ _ _ hv (.cons _ _ _ _ hu hr2))
theorem argsT_get : ∀ (l : List Value) (i : Nat) (t : Tr Value) {j : Nat} {v : Value}, (argsT l i t).get j = some v → (i ≤ j ∧ l[j - i]? = some v) ∨ t.get j = some v
 | [], _, _, _, _, h => .inr h
 | u :: r, i, t, j, v, h => by
  have h' : (argsT r (Nat.succ i) (t.put (some u) i)).get j = some v := by
   simp only [argsT] at h
   split at h <;> (rename_i hp; rw [hp]; exact h)
  rcases argsT_get r (Nat.succ i) _ h' with ⟨h1, h2⟩ | h1
  ·left
   refine ⟨by omega, ?_⟩
   have : j - i = (j - Nat.succ i) + 1 := by omega
   rw [this, List.getElem?_cons_succ]; exact h2
  ·rcases Tr.get_put _ _ _ _ _ h1 with ⟨e, hv⟩ | ⟨_, hv⟩
   ·left
    subst e
    refine ⟨Nat.le_refl _, ?_⟩
    rw [Nat.sub_self, List.getElem?_cons_zero]; exact hv
   ·exact .inr hv
theorem args_rel {μ : Mu} {args args' : List Value} (h : LR μ args args') {n : Nat} (hn : args.length ≤ n) : TR μ (argsT args 0 .lf) n ((⟨args'⟩ : Array Value) ++ Array.replicate (n - args'.length) undef) := by
 have hl := h.length
 refine ⟨by simp; omega, fun t v hv => ?_⟩
 rcases argsT_get _ _ _ hv with ⟨_, h1⟩ | h1
 ·simp only [Nat.sub_zero] at h1
  obtain ⟨v', h2, h3⟩ := h.get h1
  have hlt : t < args'.length := (List.getElem?_eq_some_iff.1 h2).1
  refine ⟨by simp; omega, ?_⟩
  rw [Array.getD_eq_getD_getElem?, Array.getElem?_append_left (by simpa using hlt), List.getElem?_toArray, h2]
  exact h3
 ·rw [Tr.get_lf] at h1; cases h1
theorem enters_of (hE : EnvOk P E) {f : FuncId} {fn : Func} {c : Code} (hf : E.ft f = some fn) (hb : fn.body = some c) : Enters P f := by
 intro args w
 obtain ⟨h1, h2⟩ := hE.ft _ _ hf
 have h3 : ¬ fn.name = "runtime.NumGoroutine" := by simpa using h2
 simp [callFunc, h1, h3, hb]
theorem step_recover {b : Frame} {a : Act} {k : List Item} {c0 : Frame} {cs : List Frame} {w : World} {ops : Array Oper} {o : Oper} {i : Nat} {rest : List Nat} {c : Call} {v' : Value} (ho : ops[i]? = some o) (hw : Region.wanted o (yielded ops a.tmps) = true)
  (hop : o.op = .call c) (hcal : c.callee = .builtin .recover) (hro : b.roundOf = none) (hk : b.kind = .deferred) :
  step P (lone (b.atR a (.inRegion ops (i :: rest) :: k)) (panics c0 v' :: cs) w) = .next (lone (b.atR (a.put o.dst v') (.inRegion ops rest :: k)) ({ c0 with mode := .panicking [{ v := v', recovered := true }] } :: cs) w) := by
 have hnd : ∀ c, o.op ≠ .defer c := fun c h => by rw [h] at hop; cases hop
 have hfin : (b.atR a (.inRegion ops (i :: rest) :: k)).finish v' = b.atR (a.put o.dst v') (.inRegion ops rest :: k) := by
  rw [Frame.finish_atR, ho]; rfl
 refine step_lone_go ?_
 rw [stepGR_op ho hw, Oper.semAt_eq _ _ _ hnd, ← hfin]
 have hrun : (execOp a.eval o).run P w = .ok .recover w := by
  simp [execOp, hop, resolve, hcal, invoke, builtin]
 have hto : (b.atR a (.inRegion ops (i :: rest) :: k)).roundOf = none := hro
 have hki : (b.atR a (.inRegion ops (i :: rest) :: k)).kind = .deferred := hk
 simp [stepG.apply, hrun, hto, tryRecover, hki, panics]
theorem armed_ok (hE : EnvOk P E) (hs : Sound P E rec) (hm : Mono rec) {v : Value} {b : Frame} {c0 : Frame} {cs : List Frame} (hk : b.kind = .deferred) (hro : b.roundOf = none) :
  ∀ {c : Code} {fr fr' : Fr} {s s' : St} {e : Ex} {μ : Mu} {w : World} {a : Act} {k : List Item} {v' : Value}, armedC E rec v fr s c = some (.code e fr' s') → R μ s w → Fresh μ s.nx s'.nx → FR μ fr b a → VR μ v v' →
  ∃ μ' w' a' todo, Steps P (lone (b.atR a (.code c :: k)) (panics c0 v' :: cs) w) (lone (b.atR a' todo) ({ c0 with mode := .panicking [{ v := v', recovered := true }] } :: cs) w') ∧ R μ' s' w' ∧ Ext μ s w μ' s' w' ∧ FR μ' fr' b a' ∧ After e k todo
 | .seq x y, fr, fr', s, s', e, μ, w, a, k, v', h, hR, hF, hfr, hv => by
  simp only [armedC] at h
  have hcalm : Calm b ({ c0 with mode := .panicking [{ v := v', recovered := true }] } :: cs) := .inr ⟨hk, _, _, rfl, .inr ⟨v', rfl⟩⟩
  unfold thenC at h
  split at h
  ·rename_i fr1 s1 h1
   have hn1 : s1.nx ≤ s'.nx := hm _ _ h
   obtain ⟨μ1, w1, a1, t1, p1, p2, p3, p4, p5⟩ := armed_ok hE hs hm hk hro (k := .code y :: k) h1 hR (hF.sub (Nat.le_refl _) hn1) hfr hv
   have p5 : t1 = .code y :: k := p5
   subst p5
   obtain ⟨μ2, w2, a2, t2, q1, q2, q3, q4, q5⟩ := hs.code _ _ _ _ _ _ h μ1 w1 b a1 k _ _ p2 (p3.fresh hF) p4 hcalm (.inl rfl)
   exact ⟨μ2, w2, a2, t2, .head stepR_seq (p1.trans q1), q2, p3.trans q3, q4, q5⟩
  ·rename_i hn
   have hne : e ≠ .normal := fun he => by subst he; exact hn _ _ h
   obtain ⟨μ1, w1, a1, t1, p1, p2, p3, p4, p5⟩ := armed_ok hE hs hm hk hro (k := .code y :: k) h hR hF hfr hv
   exact ⟨μ1, w1, a1, t1, .head stepR_seq p1, p2, p3, p4, p5.push hne (fun _ _ => rfl)⟩
 | .region id ops draw, fr, fr', s, s', e, μ, w, a, k, v', h, hR, hF, hfr, hv => by
  simp only [armedC] at h
  have hcalm : Calm b ({ c0 with mode := .panicking [{ v := v', recovered := true }] } :: cs) := .inr ⟨hk, _, _, rfl, .inr ⟨v', rfl⟩⟩
  cases draw with
  | true => cases h
  | false =>
   simp only [cond_false] at h
   split at h
   ·cases h
   rename_i l hl
   unfold armedSeq at h
   split at h
   ·cases h
   rename_i x r
   split at h
   case h_2 => cases h
   rename_i hxo
   split at h
   ·cases h
   rename_i hxg
   split at h
   ·cases h
   rename_i fr1 hset
   generalize hos : ops.toList = os at hl
   rw [← hos] at hl
   cases os with
   | nil => rw [hos] at hl; cases hl
   | cons o os =>
   have hl0 := hl
   conv at hl0 => lhs; arg 3; rw [hos]
   simp only [compR] at hl0
   split at hl0
   ·cases hl0
   rename_i x0 hx0
   split at hl0
   ·cases hl0
   rename_i l1 hl1
   injection hl0 with hl0
   injection hl0 with e1 e2
   subst e1; subst e2
   obtain ⟨hg, hc, hd⟩ := compX_spec hx0
   rw [hxo] at hc
   obtain ⟨c, hop, hcal⟩ := compO_rcv hc
   have ho : ops[0]? = some o := by rw [← Array.getElem?_toList, hos]; rfl
   have hw : Region.wanted o (yielded ops a.tmps) = true := by
    rw [hxg] at hg
    exact want_ok hfr.tm hg rfl
   have hdr : ops.toList.drop 1 = os := by rw [hos]; rfl
   have hst := step_recover (P := P) (k := k) (cs := cs) (c0 := c0) (v' := v') (w := w) (rest := List.range' 1 os.length) ho hw hop hcal hro hk
   rw [hd] at hset
   have hfr1 := hfr.put hset hv
   obtain ⟨μ', w', a', h1, h2, h3, h4, h5⟩ := seq_ok (b := b) (k := k) hE hs hm os 1 hdr hl1 h hR hF hfr1 hcalm
   subst h5
   have hsz : List.range ops.size = 0 :: List.range' 1 os.length := by
    have : ops.size = os.length + 1 := by rw [← Array.length_toList, hos]; rfl
    rw [this, List.range_eq_range', List.range'_succ]
   refine ⟨μ', w', a', k, .head stepR_region ?_, h2, h3, h4, rfl⟩
   rw [hsz]
   exact .head hst (h1.trans (.one (stepR_region_end (ops := ops))))
 | .skip, _, _, _, _, _, _, _, _, _, _, h, _, _, _, _ => by simp only [armedC] at h; cases h
 | .cond _ _ _, _, _, _, _, _, _, _, _, _, _, h, _, _, _, _ => by simp only [armedC] at h; cases h
 | .block _ _, _, _, _, _, _, _, _, _, _, _, h, _, _, _, _ => by simp only [armedC] at h; cases h
 | .loop _, _, _, _, _, _, _, _, _, _, _, h, _, _, _, _ => by simp only [armedC] at h; cases h
 | .rangeFunc _ _ _ _, _, _, _, _, _, _, _, _, _, _, h, _, _, _, _ => by simp only [armedC] at h; cases h
 | .exit _, _, _, _, _, _, _, _, _, _, _, h, _, _, _, _ => by simp only [armedC] at h; cases h
 | .scope _, _, _, _, _, _, _, _, _, _, _, h, _, _, _, _ => by simp only [armedC] at h; cases h
 | .label _, _, _, _, _, _, _, _, _, _, _, h, _, _, _, _ => by simp only [armedC] at h; cases h
 | .goto _, _, _, _, _, _, _, _, _, _, _, h, _, _, _, _ => by simp only [armedC] at h; cases h
 | .ret, _, _, _, _, _, _, _, _, _, _, h, _, _, _, _ => by simp only [armedC] at h; cases h
 | .refuse _, _, _, _, _, _, _, _, _, _, _, h, _, _, _, _ => by simp only [armedC] at h; cases h
theorem ret_step {e : Ex} {b : Frame} {a1 : Act} {t1 : List Item} {cs : List Frame} {w1 : World} (hro : b.roundOf = none) (hne : ∀ id, e ≠ .exit id) (p5 : After e [] t1) :
  ∃ t2, step P (lone (b.atR a1 t1) cs w1) = .next (lone { b.atR a1 t2 with mode := .returning } cs w1) := by
 cases e with
 | normal =>
  have p5 : t1 = [] := p5
  subst p5
  exact ⟨[], stepR_end hro⟩
 | exit id => exact absurd rfl (hne id)
 | ret =>
  obtain ⟨j, p5⟩ := p5
  subst p5
  exact ⟨_, stepR_ret hro⟩
theorem rescue_ok (hE : EnvOk P E) (hs : Sound P E rec) (hm : Mono rec) {μ : Mu} {s s' : St} {w : World} {fr : Frame} {cs : List Frame} {g : FuncId} {fg : Func} {captured aa : List Value} {v v' : Value} (hft : E.ft g = some fg)
  (ha : armedF E rec g fg (aa ++ captured) v s = some s') (hR : R μ s w) (hF : Fresh μ s.nx s'.nx) (hd : DfR μ [⟨.fn (.func g) ⟨captured⟩, ⟨aa⟩⟩] fr.defers) (hv : VR μ v v') :
  ∃ μ' w', Steps P (lone (panics fr v') cs w) (lone { fr with defers := [], mode := .returning } cs w') ∧ R μ' s' w' ∧ Ext μ s w μ' s' w' := by
 obtain ⟨c, e, fr1, l, hb, hle, harm, hne, hdefs, hres⟩ := armedF_spec ha
 obtain ⟨hfn, _⟩ := hE.ft _ _ hft
 generalize hfd : fr.defers = x at hd
 cases hd with
 | fn _ _ c1 _ a1 _ r' hc haa hr =>
 cases hr
 have hst := step_defer (P := P) (fr := panics fr v') (cs := cs) (d := ⟨.fn (.func g) ⟨c1⟩, ⟨a1⟩⟩) (ds := []) (fun h => by cases h) hfd rfl (invoke_func (enters_of hE hft hb) w)
 let b : Frame := { (default : Frame) with fn := g, kind := .deferred }
 let a : Act := { tmps := (⟨a1 ++ c1⟩ : Array Value) ++ Array.replicate (fg.ntmps - (a1 ++ c1).length) undef, defers := [] }
 have henter : Frame.enter P g ⟨a1 ++ c1⟩ .deferred = b.atR a [.code c] := by
  simp [Frame.enter, Frame.atR, hfn, hb, b, a]
  rfl
 have hfr : FR μ ⟨g, argsT (aa ++ captured) 0 .lf, fg.ntmps, [], none⟩ b a := ⟨rfl, args_rel (haa.append hc) hle, .nil, .inl ⟨rfl, rfl⟩⟩
 obtain ⟨μ1, w1, a2, t1, p1, p2, p3, p4, p5⟩ := armed_ok (b := b) (c0 := { fr with defers := [] }) (cs := cs) hE hs hm rfl rfl (k := []) harm hR hF hfr hv
 obtain ⟨t2, hret⟩ := ret_step (P := P) (a1 := a2) (cs := { ({ fr with defers := [] } : Frame) with mode := .panicking [{ v := v', recovered := true }] } :: cs) (w1 := w1) (b := b) rfl hne p5
 obtain ⟨u, r1, r2⟩ := run_results hE p2 p4 hres
 have hdn : a2.defers = [] := by
  have := p4.df
  rw [hdefs] at this
  generalize a2.defers = y at this
  cases this; rfl
 have hback := step_going_returned (P := P) (fr := { b.atR a2 t2 with mode := .returning }) (c := { ({ fr with defers := [] } : Frame) with mode := .panicking [{ v := v', recovered := true }] }) (cs := cs) (w := w1) (v := u) rfl
  ⟨rfl, hdn, fg, hfn, r1⟩
 refine ⟨μ1, w1, .head hst ?_, p2, p3⟩
 rw [henter]
 refine p1.trans (.head hret (.one ?_))
 rw [hback]
 simp [settle]
theorem enter_ok (hE : EnvOk P E) (hs : Sound P E rec) (hm : Mono rec) {f : FuncId} {fn : Func} {args : List Value} {s s' : St} {v : Value} (hf : E.ft f = some fn) (h : enterF E rec f fn args s = some (.val v s')) : CallOk P E f args s v s' := by
 unfold enterF at h
 split at h
 ·cases h
 rename_i c hb
 obtain ⟨hle, h⟩ := cond_some h
 have hle : args.length ≤ fn.ntmps := Nat.le_of_ble_eq_true hle
 obtain ⟨hfn, _⟩ := hE.ft _ _ hf
 refine ⟨enters_of hE hf hb, ?_⟩
 intro μ w args' kind cs hR hF hargs hkind
 let b : Frame := { (default : Frame) with fn := f, kind := kind }
 let a : Act := { tmps := (⟨args'⟩ : Array Value) ++ Array.replicate (fn.ntmps - args'.length) undef, defers := [] }
 have henter : Frame.enter P f ⟨args'⟩ kind = b.atR a [.code c] := by
  simp [Frame.enter, Frame.atR, hfn, hb, b, a]
  rfl
 have hfr : FR μ ⟨f, argsT args 0 .lf, fn.ntmps, [], none⟩ b a := ⟨rfl, args_rel hargs hle, .nil, .inl ⟨rfl, rfl⟩⟩
 have hcalm : Calm b cs := by
  rcases hkind with h | ⟨h, _, c, r, h1, h2⟩
  ·exact .inl h
  ·exact .inr ⟨h, c, r, h1, h2⟩
 split at h
 case h_3 => cases h
 ·rename_i e fr1 s1 hrec
  unfold endCall at h
  have hne : ∀ id, e ≠ .exit id := by
   intro id he; subst he; cases h
  have h2 : ∃ s2 l, runDefers E rec fr1.defs s1 = some s2 ∧ resultsV E fr1 s2 fn.results.toList = some l ∧ oneV l = v ∧ s2 = s' := by
   split at h
   ·cases h
   ·split at h
    ·cases h
    ·rename_i s2 hd
     split at h
     ·cases h
     ·rename_i l hl
      cases h
      exact ⟨_, l, hd, hl, rfl, rfl⟩
  obtain ⟨s2, l, hd, hl, rfl, rfl⟩ := h2
  have hn1 := hm _ _ hrec
  have hn2 := runDefers_nx hm hd
  obtain ⟨μ1, w1, a1, t1, p1, p2, p3, p4, p5⟩ := hs.code _ _ _ _ _ _ hrec μ w b a [] cs _ hR (hF.sub (Nat.le_refl _) hn2) hfr hcalm (.inl rfl)
  obtain ⟨t2, hret⟩ := ret_step (P := P) (a1 := a1) (cs := cs) (w1 := w1) (b := b) rfl hne p5
  obtain ⟨μ2, w2, q1, q2, q3⟩ := defers_ok hs hm fr1.defs (fr := { b.atR a1 t2 with mode := .returning }) (cs := cs) hd p2 (p3.fresh hF) p4.df rfl
  obtain ⟨v', r1, r2⟩ := run_results hE q2 (p4.mono q3.mu) hl
  refine ⟨μ2, w2, v', { ({ b.atR a1 t2 with mode := .returning } : Frame) with defers := [] }, ?_, q2, p3.trans q3, r2, rfl, rfl, rfl, rfl, fn, hfn, r1⟩
  rw [henter]
  exact p1.trans (.head hret q1)
 ·rename_i fr1 u s1 hrec
  rcases endPan_spec h with ⟨_, h0⟩ | ⟨g, captured, aa, fg, s2, l, hdefs, hsm, hft, harm, hl, h0⟩
  ·cases h0
  cases h0
  obtain ⟨captured⟩ := captured
  obtain ⟨aa⟩ := aa
  obtain ⟨c', e', fr', l', _, _, harm', _⟩ := armedF_spec harm
  have hn2 : s1.nx ≤ s'.nx := armedC_nx hm harm'
  have hn1 := hm _ _ hrec
  obtain ⟨μ1, w1, a1, t1, v1, p1, p2, p3, p4, p5⟩ := hs.pcode _ _ _ _ _ _ hrec μ w b a [] cs _ hR (hF.sub (Nat.le_refl _) hn2) hfr hcalm (.inl rfl)
  have hdf := p4.df
  rw [hdefs] at hdf
  obtain ⟨μ2, w2, q1, q2, q3⟩ := rescue_ok hE hs hm (fr := b.atR a1 t1) (cs := cs) hft harm p2 (p3.fresh hF) hdf p5
  obtain ⟨v', r1, r2⟩ := run_results hE q2 (p4.mono q3.mu) hl
  refine ⟨μ2, w2, v', { b.atR a1 t1 with defers := [], mode := .returning }, ?_, q2, p3.trans q3, r2, rfl, rfl, rfl, rfl, fn, hfn, r1⟩
  rw [henter]
  exact p1.trans q1
theorem enter_thr (hE : EnvOk P E) (hs : Sound P E rec) (hm : Mono rec) {f : FuncId} {fn : Func} {args : List Value} {s s' : St} {v : Value} (hf : E.ft f = some fn) (h : enterF E rec f fn args s = some (.thr v s')) : CallThr P f args s v s' := by
 unfold enterF at h
 split at h
 ·cases h
 rename_i c hb
 obtain ⟨hle, h⟩ := cond_some h
 have hle : args.length ≤ fn.ntmps := Nat.le_of_ble_eq_true hle
 obtain ⟨hfn, _⟩ := hE.ft _ _ hf
 refine ⟨enters_of hE hf hb, ?_⟩
 intro μ w args' cs hR hF hargs
 let b : Frame := { (default : Frame) with fn := f, kind := .normal }
 let a : Act := { tmps := (⟨args'⟩ : Array Value) ++ Array.replicate (fn.ntmps - args'.length) undef, defers := [] }
 have henter : Frame.enter P f ⟨args'⟩ .normal = b.atR a [.code c] := by
  simp [Frame.enter, Frame.atR, hfn, hb, b, a]
  rfl
 have hfr : FR μ ⟨f, argsT args 0 .lf, fn.ntmps, [], none⟩ b a := ⟨rfl, args_rel hargs hle, .nil, .inl ⟨rfl, rfl⟩⟩
 split at h
 case h_3 => cases h
 ·exfalso
  unfold endCall at h
  split at h
  ·cases h
  ·split at h
   ·cases h
   ·split at h <;> cases h
 ·rename_i fr1 u s1 hrec
  rcases endPan_spec h with ⟨hdefs, h0⟩ | ⟨g, captured, aa, fg, s2, l, hdefs, hsm, hft, harm, hl, h0⟩
  case inr => cases h0
  cases h0
  obtain ⟨μ1, w1, a1, t1, v1, p1, p2, p3, p4, p5⟩ := hs.pcode _ _ _ _ _ _ hrec μ w b a [] cs _ hR hF hfr (.inl rfl) (.inl rfl)
  have hdf := p4.df
  rw [hdefs] at hdf
  refine ⟨μ1, w1, v1, b.atR a1 t1, ?_, p2, p3, p5, ?_, fn, hfn⟩
  ·rw [henter]; exact p1
  ·show a1.defers = []
   generalize a1.defers = y at hdf
   cases hdf; rfl
end
end Go.Eng
end
section
namespace Go.Eng
section
variable {P : Program} {E : Env} {rec : Task → Option Res}
theorem valFunc_ok (hs : Sound P E rec) {g : FuncId} {first captured args : List Value} {s s' : St} {v : Value} (h : rec (.call g (first ++ (args ++ captured)) s) = some (.val v s')) :
  ValOk P (.func (.func g) ⟨first⟩ ⟨captured⟩) args s v s' := by
 obtain ⟨hen, hcall⟩ := hs.call _ _ _ _ _ h
 intro μ w f' args' c cs hR hF hf hargs
 cases hf with
 | func _ _ _ a' b' ha hb =>
  obtain ⟨μ1, w1, v', fr, p1, p2, p3, p4, z1, z2, z3, z4, fn, z5, z6⟩ := hcall μ w (a' ++ (args' ++ b')) .normal (c :: cs) hR hF (ha.append (hargs.append hb)) (.inl rfl)
  refine ⟨.enter g ⟨a' ++ (args' ++ b')⟩, _, μ1, w1, v', ?_, .inl ⟨_, _, rfl, rfl⟩, p1.trans (.one (step_leave_returned ⟨z1, z2, z3, fn, by rw [z4]; exact z5, z6⟩)), p2, p3, p4⟩
  have e1 : (⟨a'⟩ : Array Value) ++ ⟨args'⟩ = ⟨a' ++ args'⟩ := by apply Array.toList_inj.1; simp
  have := invoke_func (P := P) (c := b') (a := a' ++ args') hen w
  rw [List.append_assoc] at this
  simp only [applyV, Deferred.ofValue, e1, Sem.run_bind, Sem.run_pure, Result.andThen_ok]
  exact this
theorem valFunc_thr (hs : Sound P E rec) {g : FuncId} {first captured args : List Value} {s s' : St} {v : Value} (h : rec (.call g (first ++ (args ++ captured)) s) = some (.thr v s')) :
  ValThr P (.func (.func g) ⟨first⟩ ⟨captured⟩) args s v s' := by
 obtain ⟨hen, hcall⟩ := hs.pcall _ _ _ _ _ h
 intro μ w f' args' c cs hR hF hf hargs hc
 cases hf with
 | func _ _ _ a' b' ha hb =>
  obtain ⟨μ1, w1, v', fr, p1, p2, p3, p4, z1, z2⟩ := hcall μ w (a' ++ (args' ++ b')) (c :: cs) hR hF (ha.append (hargs.append hb))
  have hst := step_going_panicked (P := P) (fr := panics fr v') (c := c) (cs := cs) (w := w1) (chain := [{ v := v', recovered := false }]) ⟨rfl, z1, z2⟩
  rw [hc] at hst
  refine ⟨.enter g ⟨a' ++ (args' ++ b')⟩, _, μ1, w1, v', ?_, .inl ⟨_, _, rfl, rfl⟩, p1.trans (.one hst), p2, p3, p4⟩
  have e1 : (⟨a'⟩ : Array Value) ++ ⟨args'⟩ = ⟨a' ++ args'⟩ := by apply Array.toList_inj.1; simp
  have := invoke_func (P := P) (c := b') (a := a' ++ args') hen w
  rw [List.append_assoc] at this
  simp only [applyV, Deferred.ofValue, e1, Sem.run_bind, Sem.run_pure, Result.andThen_ok]
  exact this
theorem endR_thr {l : Nat} {e : Ex} {s s' : St} {v : Value} (h : endR l e s = some (.thr v s')) : False := by
 unfold endR at h
 split at h
 ·split at h <;> cases h
 ·cases h
theorem roundV_thr {l : Nat} {args : List Value} {s s' : St} {v : Value} (h : roundV rec l args s = some (.thr v s')) : False := by
 unfold roundV at h
 split at h
 ·split at h
  ·cases h
  ·split at h
   ·unfold midR at h
    split at h
    ·split at h
     ·exact endR_thr h
     ·cases h
    ·cases h
   ·cases h
 ·cases h
theorem run_getLoop {w : World} {l : Nat} {r : Loop} (h : w.heap[l]? = some (.loop r)) : (Instr.getLoop l).run P w = .ok r w := by
 simp only [Instr.getLoop, Sem.run_bind, run_getObj (P := P) h (by simp), Result.andThen_ok]
 rfl
theorem par_ok {μ : Mu} : ∀ {ps : List Tmp} {vs vs' : List Value} {fr fr' : Fr} {tmps : Array Value}, parT ps vs fr = some fr' → LR μ vs vs' → TR μ fr.tm fr.n tmps →
  vs'.length = ps.length ∧ TR μ fr'.tm fr'.n ((ps.zip vs').foldl (fun t (x : Tmp × Value) => t.setIfInBounds x.1 x.2) tmps) ∧ fr'.fn = fr.fn ∧ fr'.defs = fr.defs ∧ fr'.rd = fr.rd
 | [], [], _, fr, fr', tmps, h, .nil, ht => by cases h; exact ⟨rfl, ht, rfl, rfl, rfl⟩
 | p :: ps, v :: vs, _, fr, fr', tmps, h, .cons _ v' _ vs' hv hvs, ht => by
  simp only [parT] at h
  split at h
  ·cases h
  rename_i fr1 h1
  obtain ⟨h2, h3⟩ := setT_spec h1
  subst h3
  obtain ⟨q1, q2, q3, q4, q5⟩ := par_ok h hvs (ht.put h2 hv)
  exact ⟨by simp [q1], q2, q3, q4, q5⟩
 | [], _ :: _, _, _, _, _, h, _, _ => by cases h
 | _ :: _, [], _, _, _, _, h, _, _ => by cases h
theorem round_ok (hs : Sound P E rec) (hm : Mono rec) {l : Nat} {args : List Value} {s s' : St} {v : Value} (h : roundV rec l args s = some (.val v s')) : ValOk P (.func (.yield l) #[] #[]) args s v s' := by
 intro μ w f' args' c cs hR hF hf hargs
 cases hf with
 | yield _ g hg =>
 unfold roundV at h
 split at h
 case h_2 => cases h
 rename_i pend fn tm n params assign body d ho
 split at h
 ·cases h
 rename_i fr hpar
 split at h
 case h_2 => cases h
 rename_i fr1 s1 hassign
 have hn1 := hm _ _ hassign
 have hn2 := midR_nx hm h
 unfold midR at h
 split at h
 case h_2 => cases h
 rename_i pend1 fn1 tm1 nn1 params1 assign1 body1 d1 ho1
 split at h
 case h_2 => cases h
 rename_i e frx s2 hbody
 have hn3 := hm _ _ hbody
 have hn4 := endR_nx h
 simp only [Task.st, Res.st, setS_nx] at hn1 hn2 hn3 hn4
 obtain ⟨o', k1, k2⟩ := hR.block ho hg
 cases k2 with
 | loop _ _ _ _ _ _ _ _ _ tmps gd ht hd =>
 obtain ⟨p1, p2, p3, p4, p5⟩ := par_ok (tmps := tmps) hpar hargs ht
 let tmps0 := (params.zip args').foldl (fun t (x : Tmp × Value) => t.setIfInBounds x.1 x.2) tmps
 let fr0 : Frame := Frame.round g.blk fn tmps0 assign body .normal
 have hyield : (applyV (.func (.yield g.blk) #[] #[]) ⟨args'⟩).run P w = .ok (.round g.blk fn tmps0 assign body) w := by
  simp only [applyV, Deferred.ofValue, Sem.run_bind, Sem.run_pure, Result.andThen_ok, invoke, Instr.yield, run_getLoop k1]
  have e1 : (#[] : Array Value) ++ ⟨args'⟩ = ⟨args'⟩ := by apply Array.toList_inj.1; simp
  rw [e1]
  have e2 : ¬ ((⟨args'⟩ : Array Value).size ≠ (⟨params⟩ : Array Tmp).size) := by simp [p1]
  simp only [Sem.run_ite]
  rw [if_neg e2]
  simp only [Sem.run_pure]
  congr 2
  rw [← Array.foldl_toList]
  simp [tmps0]
 let b : Frame := { (default : Frame) with fn := fn, kind := .normal, roundOf := some g.blk }
 have hfr0 : fr0 = b.atR { tmps := tmps0, defers := [] } [.code assign, .beginRound, .code body] := rfl
 have hfr : FR μ fr b { tmps := tmps0, defers := [] } := ⟨p3.symm, p2, by rw [p4]; exact .nil, .inr ⟨l, g, by rw [p5], hg, rfl⟩⟩
 have hcalm : Calm b (c :: cs) := .inl rfl
 obtain ⟨μ1, w1, a1, t1, q1, q2, q3, q4, q5⟩ := hs.code _ _ _ _ _ _ hassign μ w b _ [.beginRound, .code body] (c :: cs) _ hR (hF.sub (Nat.le_refl _) (by omega)) hfr hcalm (.inl rfl)
 have q5 : t1 = [.beginRound, .code body] := q5
 subst q5
 have hg1 := q3.mu _ _ hg
 obtain ⟨o1', m1, m2⟩ := q2.block ho1 hg1
 cases m2 with
 | loop _ _ _ _ _ _ _ _ _ tmps1 gd1 ht1 hd1 =>
 obtain ⟨c1, c2⟩ := q2.change ho1 hg1 (.loop .busy pend1 fn1 tm1 nn1 params1 assign1 body1 d1 tmps1 gd1 ht1 hd1)
 have hbegin : (Instr.beginRound g.blk).run P w1 = .ok () (w1.setBlk g.blk (.loop { state := .busy, pending := pend1, fn := fn1, tmps := tmps1, params := ⟨params1⟩, assign := assign1, body := body1, defers := gd1.blk })) := by
  simp only [Instr.beginRound, Sem.run_bind, run_getLoop m1, Result.andThen_ok, run_setObj (P := P) m1 (by simp)]
  rfl
 have hstb := stepR_beginRound (P := P) (b := b) (a := a1) (k := [.code body]) (cs := c :: cs) (l := g.blk) rfl hbegin
 have hF1 : Fresh μ1 s1.nx s'.nx := q3.fresh hF
 obtain ⟨μ2, w2, a2, t2, r1, r2, r3, r4, r5⟩ := hs.code _ _ _ _ _ _ hbody μ1 _ b a1 [] (c :: cs) _ c1 (by rw [setS_nx]; exact hF1.sub (Nat.le_refl _) (by omega)) q4 hcalm (.inl rfl)
 have hg2 := r3.mu _ _ hg1
 unfold endR at h
 split at h
 case h_2 => cases h
 rename_i st3 pend3 fn3 tm3 nn3 params3 assign3 body3 d3 ho3
 obtain ⟨o3', e1, e2⟩ := r2.block ho3 hg2
 cases e2 with
 | loop _ _ _ _ _ _ _ _ _ tmps3 gd3 ht3 hd3 =>
 have hEnd : ∀ (jump : Option Code), (Instr.endRound g.blk jump).run P w2 = .ok (.bool jump.isNone) (w2.setBlk g.blk (.loop { state := if jump.isNone then .ready else .done, pending := jump, fn := fn3, tmps := tmps3, params := ⟨params3⟩, assign := assign3, body := body3, defers := gd3.blk })) := by
  intro jump
  simp only [Instr.endRound, Sem.run_bind, run_getLoop e1, Result.andThen_ok, run_setObj (P := P) e1 (by simp)]
  rfl
 have hpre : ∀ {m : Machine}, Steps P (lone (b.atR a2 t2) (c :: cs) w2) m → Steps P (lone fr0 (c :: cs) w) m := fun hst => q1.trans (.head hstb (r1.trans hst))
 have hX : Ext μ s w μ2 s2 w2 := q3.trans (c2.trans r3)
 cases e with
 | normal =>
  cases h
  have r5 : t2 = [] := r5
  subst r5
  obtain ⟨x1, x2⟩ := r2.change ho3 hg2 (.loop .ready none fn3 tm3 nn3 params3 assign3 body3 d3 tmps3 gd3 ht3 hd3)
  exact ⟨_, fr0, μ2, _, .bool true, hyield, .inr ⟨_, _, _, _, _, rfl, rfl⟩, hpre (.one (stepR_round_end (l := g.blk) rfl rfl (hEnd none))), x1, hX.trans x2, .bool true⟩
 | exit id =>
  cases h
  obtain ⟨j, r5, r6⟩ := r5
  subst r5
  obtain ⟨x1, x2⟩ := r2.change ho3 hg2 (.loop .done (some (.exit id)) fn3 tm3 nn3 params3 assign3 body3 d3 tmps3 gd3 ht3 hd3)
  exact ⟨_, fr0, μ2, _, .bool false, hyield, .inr ⟨_, _, _, _, _, rfl, rfl⟩, hpre (.one (stepR_round_exit (l := g.blk) rfl rfl (by rw [List.append_nil]; exact r6) (hEnd (some (.exit id))))), x1, hX.trans x2, .bool false⟩
 | ret =>
  cases h
  obtain ⟨j, r5⟩ := r5
  subst r5
  obtain ⟨x1, x2⟩ := r2.change ho3 hg2 (.loop .done (some .ret) fn3 tm3 nn3 params3 assign3 body3 d3 tmps3 gd3 ht3 hd3)
  exact ⟨_, fr0, μ2, _, .bool false, hyield, .inr ⟨_, _, _, _, _, rfl, rfl⟩, hpre (.one (stepR_round_ret (l := g.blk) rfl rfl (hEnd (some .ret)))), x1, hX.trans x2, .bool false⟩
end
end Go.Eng
end
section
namespace Go.Eng
section
variable {P : Program} {E : Env} {rec : Task → Option Res}
theorem step_range {b : Frame} {a : Act} {k : List Item} {cs : List Frame} {w w₁ : World} {g : Operand} {ps : Array Tmp} {assign body : Code} {l : Nat} {mark : List Deferred} {nx : Next} {fr0 : Frame}
  (he : (Instr.enterLoop b.fn a.tmps ps assign body b.roundOf).run P w = .ok (l, mark) w₁)
  (hr : (applyV (rho a.tmps g) #[.func (.yield l) #[] #[]]).run P w₁ = .ok nx w₁) (hn : EntersAs P nx fr0) :
  step P (lone (b.atR a (.code (.rangeFunc g ps assign body) :: k)) cs w) =
   .next (lone fr0 (b.atR { a with defers := mark ++ a.defers } (.inRangeFunc l :: k) :: cs) w₁) :=
 step_lone_go (by
  have hev := Frame.eval_atR b { a with defers := mark ++ a.defers } (.inRangeFunc l :: k)
  simp only [Frame.atR] at hev
  have hev2 : ({ tmps := a.tmps, defers := mark ++ a.defers } : Act).eval = rho a.tmps := eval_rho _
  have hs : Sem.run P (do let d ← resolve ({ tmps := a.tmps, defers := mark ++ a.defers } : Act).eval { callee := .value g, args := #[.const (.func (.yield l) #[] #[])], argTypes := #[] } 0; invoke d.target d.args) w₁ = .ok nx w₁ := by
   have hrs : (resolve (rho a.tmps) { callee := .value g, args := #[.const (.func (.yield l) #[] #[])], argTypes := #[] } 0) = Deferred.ofValue (rho a.tmps g) #[.func (.yield l) #[] #[]] := by
    simp [resolve, rho]
   rw [hev2, hrs]; exact hr
  simp only [Sem.run_bind] at hs
  rcases hn with ⟨f, ar, rfl, rfl⟩ | ⟨l2, f, tmps, as, bo, rfl, rfl⟩ <;>
   simp [stepG, stepG.exec, Frame.atR, Sem.runT_eq, he, GStep.bare_after, stepG.apply, hev, Sem.run_bind, hs])
theorem range_ok (hs : Sound P E rec) (hm : Mono rec) {f : Operand} {ps : Array Tmp} {as bo : Code} {fr fr' : Fr} {s s' : St} {e : Ex} (h : rangeV rec (rp f) ps.toList as bo fr s = some (.code e fr' s')) :
  CodeOk P (.rangeFunc f ps as bo) fr s e fr' s' := by
 intro μ w b a k cs m hR hF hfr hcalm hb
 rcases hb with rfl | ⟨_, hb, _⟩
 case inr => cases hb
 unfold rangeV at h
 split at h
 ·cases h
 rename_i hrd
 split at h
 ·cases h
 rename_i g hg
 split at h
 case h_2 => cases h
 rename_i v s1 hrec
 have hn1 := hm _ _ hrec
 have hn2 := endRange_nx h
 simp only [Task.st, Res.st, newO_nx] at hn1 hn2
 have hro : b.roundOf = none := by
  rcases hfr.rd with ⟨_, h⟩ | ⟨l, g, h, _⟩
  ·exact h
  ·rw [hrd] at h; cases h
 have hnext : nextN s.nx = s.nx + 1 := nextN_eq _
 have hnb : ∀ (w : World) {μ : Mu} {s : St}, R μ s w → ∀ id p gp, s.h.get id = some p → μ id = some gp → gp.blk ≠ w.heap.size := by
  intro w μ s hR id p gp hp hg he
  obtain ⟨o', h1, _⟩ := hR.block hp hg
  have := lt_of_get h1
  omega
 obtain ⟨r1, x1⟩ := hR.make (hF s.nx (Nat.le_refl _) (by omega)) (o := .defd true) (o' := .deferred (some [])) (g := ⟨w.heap.size, 0, 0, 0⟩) (w' := pushO w (.deferred (some []))) (by simp) (by simp) rfl rfl rfl
  (fun b hb _ => by rw [Array.getElem?_push_lt hb, Array.getElem?_eq_getElem hb]) (hnb w hR) (Nat.le_refl _) .defdT
 have hf2 := x1.fresh hF
 have hs1 : (newO s (.defd true)).nx = s.nx + 1 := newO_nx _ _
 generalize hμ1 : μ.add s.nx ⟨w.heap.size, 0, 0, 0⟩ = μ1 at r1 x1 hf2
 have hd1 : μ1 s.nx = some ⟨w.heap.size, 0, 0, 0⟩ := by rw [← hμ1]; exact add_at_nx _
 have hfree : μ1 (newO s (.defd true)).nx = none := hf2 _ (Nat.le_refl _) (by rw [hs1]; omega)
 have hle2 := Mu.add_le (μ := μ1) (id := (newO s (.defd true)).nx) ⟨w.heap.size + 1, 0, 0, 0⟩ hfree
 have hsz1 : (pushO w (.deferred (some []))).heap.size = w.heap.size + 1 := by simp
 obtain ⟨r2, x2⟩ := r1.make hfree (o := .loop .ready none fr.fn fr.tm fr.n ps.toList as bo s.nx)
  (o' := .loop { state := .ready, pending := none, fn := b.fn, tmps := a.tmps, params := ps, assign := as, body := bo, defers := w.heap.size })
  (g := ⟨w.heap.size + 1, 0, 0, 0⟩)
  (w' := pushO (pushO w (.deferred (some []))) (.loop { state := .ready, pending := none, fn := b.fn, tmps := a.tmps, params := ps, assign := as, body := bo, defers := w.heap.size }))
  (by show (((w.heap.push _).push _)[w.heap.size + 1]? = _); rw [Array.getElem?_push]; simp) (by simp) rfl rfl rfl
  (fun b hb _ => by rw [Array.getElem?_push_lt hb, Array.getElem?_eq_getElem hb])
  (fun id p gp hp hg => by rw [← hsz1]; exact hnb _ r1 id p gp hp hg) (by rw [hsz1]; exact Nat.le_refl _)
  (by
   rw [hfr.fn]
   exact .loop .ready none fr.fn fr.tm fr.n ps.toList as bo s.nx a.tmps ⟨w.heap.size, 0, 0, 0⟩ ((hfr.tm.mono x1.mu).mono hle2) (hle2 _ _ hd1))
 generalize hμ2 : μ1.add (newO s (.defd true)).nx ⟨w.heap.size + 1, 0, 0, 0⟩ = μ2 at r2 x2
 have hl2 : μ2 (nextN s.nx) = some ⟨w.heap.size + 1, 0, 0, 0⟩ := by rw [← hμ2, hnext, ← hs1]; exact add_at_nx _
 have hd2 : μ2 s.nx = some ⟨w.heap.size, 0, 0, 0⟩ := x2.mu _ _ hd1
 have X := x1.trans x2
 have henter : (Instr.enterLoop b.fn a.tmps ps as bo b.roundOf).run P w = .ok (w.heap.size + 1, [{ target := .collected w.heap.size, args := #[] }])
   (pushO (pushO w (.deferred (some []))) (.loop { state := .ready, pending := none, fn := b.fn, tmps := a.tmps, params := ps, assign := as, body := bo, defers := w.heap.size })) := by
  rw [hro]
  simp [Instr.enterLoop]
 let a1 : Act := { a with defers := [{ target := .collected w.heap.size, args := #[] }] ++ a.defers }
 obtain ⟨nx, fr0, μ3, w3, v', q1, q2, q3, q4, q5, q6⟩ := hs.val _ _ _ _ _ hrec μ2 _ (rho a.tmps f) [.func (.yield (w.heap.size + 1)) #[] #[]] (b.atR a1 (.inRangeFunc (w.heap.size + 1) :: k)) cs r2
  ((X.fresh hF).sub (Nat.le_refl _) hn2) ((rp_rel hfr.tm hg).mono X.mu) (.cons _ _ _ _ (.yield _ _ hl2) .nil)
 have hst := step_range (P := P) (k := k) (cs := cs) henter q1 q2
 rw [finish_atR_inRangeFunc] at q3
 have hl3 := q5.mu _ _ hl2
 have hd3 := q5.mu _ _ hd2
 unfold endRange at h
 split at h
 case h_2 => cases h
 rename_i st pend fn tm n params assign body d ho
 obtain ⟨o', e1, e2⟩ := q4.block ho hl3
 cases e2 with
 | loop _ _ _ _ _ _ _ _ _ tmps3 gd3 ht3 hgd3 =>
 split at h
 ·cases h
 rename_i hbusy
 obtain ⟨y1, y2⟩ := q4.change ho hl3 (.loop .exhausted pend fn tm n params assign body d tmps3 gd3 ht3 hgd3)
 have hend : (Instr.endLoop (w.heap.size + 1)).run P w3 = .ok pend (w3.setBlk (w.heap.size + 1) (.loop { state := .exhausted, pending := pend, fn := fn, tmps := tmps3, params := ⟨params⟩, assign := assign, body := body, defers := gd3.blk })) := by
  have hne : (st == LoopState.busy) = false := by
   cases st <;> first | rfl | exact absurd rfl hbusy
  have e1' : w3.heap[w.heap.size + 1]? = some (.loop { state := st, pending := pend, fn := fn, tmps := tmps3, params := ⟨params⟩, assign := assign, body := body, defers := gd3.blk }) := e1
  simp only [Instr.endLoop, Sem.run_bind, run_getLoop e1', Result.andThen_ok, hne, Sem.run_ite]
  simp [run_setObj (P := P) e1' (by simp)]
 have hste := stepR_endRangeFunc (P := P) (b := b) (a := a1) (k := k) (cs := cs) hend
 have hfr3 : FR μ3 (pushD fr ⟨.collected s.nx, #[]⟩) b a1 := by
  obtain ⟨fn0, tm0, n0, defs0, rd0⟩ := fr
  have h3 := (hfr.mono X.mu).mono q5.mu
  exact ⟨h3.fn, h3.tm, .coll s.nx _ _ _ hd3 h3.df, h3.rd⟩
 have hX := X.trans (q5.trans y2)
 have hall : ∀ {m2 : Machine}, Steps P (lone (b.atR a1 ((pend.map Item.code).toList ++ k)) cs (w3.setBlk (w.heap.size + 1) (.loop { state := .exhausted, pending := pend, fn := fn, tmps := tmps3, params := ⟨params⟩, assign := assign, body := body, defers := gd3.blk }))) m2 →
   Steps P (lone (b.atR a (.code (.rangeFunc f ps as bo) :: k)) cs w) m2 := fun hz => .head hst (q3.trans (.head hste hz))
 unfold jumpC at h
 split at h
 ·cases h
  exact ⟨_, _, a1, k, hall (.refl _ _), y1, hX, hfr3, rfl⟩
 ·split at h
  ·cases h
   exact ⟨_, _, a1, _, hall (.refl _ _), y1, hX, hfr3, [], rfl, rfl⟩
  ·cases h
   exact ⟨_, _, a1, _, hall (.refl _ _), y1, hX, hfr3, k, rfl⟩
  ·cases h
end
end Go.Eng
end
section
namespace Go.Eng
def SumOk (P : Program) (E : Env) : Prop := ∀ f g args s v s', E.sm f = some g → g args s = some (v, s') → CallOk P E f args s v s'
def DrawOk (P : Program) (E : Env) : Prop := ∀ rec, Sound P E rec → Mono rec → ∀ (id : Nat) (ops : Array Oper) (fr : Fr) (s : St) (e : Ex) (fr' : Fr) (s' : St),
 regionT E rec ops.toList fr s = some (.code e fr' s') → CodeOk P (.region id ops true) fr s e fr' s'
def DrawPan (P : Program) (E : Env) : Prop := ∀ rec, Sound P E rec → Mono rec → ∀ (id : Nat) (ops : Array Oper) (fr : Fr) (s : St) (fr' : Fr) (v : Value) (s' : St),
 regionT E rec ops.toList fr s = some (.pan fr' v s') → PanOk P (.region id ops true) fr s fr' v s'
section
variable {P : Program} {E : Env} {rec : Task → Option Res}
theorem body_sound (hE : EnvOk P E) (hS : SumOk P E) (hD : DrawOk P E) (hP : DrawPan P E) (hm : Mono rec) (hs : Sound P E rec) : Sound P E (body E rec) where
 code := fun c fr s e fr' s' h => code_ok hE hs hm (hD rec hs hm) (fun _ _ _ _ _ _ _ _ _ h => range_ok hs hm h) h
 call := fun f args s v s' h => by
  simp only [body, callF] at h
  split at h
  ·rename_i g hg
   unfold sumF at h
   split at h
   ·rename_i hr
    cases h
    exact hS _ _ _ _ _ _ hg hr
   ·cases h
  ·split at h
   ·cases h
   ·rename_i hf
    exact enter_ok hE hs hm hf h
 val := fun f args s v s' h => by
  simp only [body, valF] at h
  split at h
  ·rename_i g first captured
   obtain ⟨first⟩ := first
   obtain ⟨captured⟩ := captured
   exact valFunc_ok hs h
  ·rename_i l a b
   intro μ w f' args' c cs hR hF hf hargs
   have h0 := round_ok hs hm h
   cases hf with
   | yield _ g hg => exact h0 μ w _ args' c cs hR hF (.yield l g hg) hargs
  ·cases h
 pcode := fun c fr s fr' v s' h => code_pan hE hs hm (hP rec hs hm) h
 pcall := fun f args s v s' h => by
  simp only [body, callF] at h
  split at h
  ·unfold sumF at h
   split at h <;> cases h
  ·split at h
   ·cases h
   ·rename_i hf
    exact enter_thr hE hs hm hf h
 pval := fun f args s v s' h => by
  simp only [body, valF] at h
  split at h
  ·rename_i g first captured
   obtain ⟨first⟩ := first
   obtain ⟨captured⟩ := captured
   exact valFunc_thr hs h
  ·exact (roundV_thr h).elim
  ·cases h
theorem ev_sound (hE : EnvOk P E) (hM : MonoE E) (hS : SumOk P E) (hD : DrawOk P E) (hP : DrawPan P E) : ∀ n, Sound P E (ev E n)
 | 0 => ⟨fun _ _ _ _ _ _ h => (by cases h), fun _ _ _ _ _ h => (by cases h), fun _ _ _ _ _ h => (by cases h), fun _ _ _ _ _ _ h => (by cases h), fun _ _ _ _ _ h => (by cases h), fun _ _ _ _ _ h => (by cases h)⟩
 | n + 1 => body_sound hE hS hD hP (ev_nx hM n) (ev_sound hE hM hS hD hP n)
end
end Go.Eng
end
