/-
  Part of the proof of StreamReadsUptoSaid: What functions do, told of what is known of memory.
-/
import Derived.Test.YtgidhbelekicbaaGreatEg
import Derived.Test.YtgidhbelekicbaaGreatEb
import Derived.Laws.StructEq
import Derived.ChangeKeysEq
set_option linter.unusedVariables false
section
namespace Go.Eng
abbrev oq (d : Nat) (o : RO) : RX := ⟨none, some (d, d), o⟩
abbrev om (d : Nat) (x : RP) : RX := ⟨none, some (d, d), .p (.mv x)⟩
abbrev Hp := Nat → Option AO
def upd (H : Hp) (b : Nat) (o : AO) : Hp := fun j => if j = b then some o else H j
def del (H : Hp) (b : Nat) : Hp := fun j => if j = b then none else H j
theorem upd_eq {H : Hp} {b : Nat} {o : AO} : upd H b o b = some o := by simp [upd]
theorem upd_ne {H : Hp} {b j : Nat} {o : AO} (h : j ≠ b) : upd H b o j = H j := by simp [upd, h]
theorem del_ne {H : Hp} {b j : Nat} (h : j ≠ b) : del H b j = H j := by simp [del, h]
abbrev TEnv := List (Nat × Value)
def look : TEnv → Nat → Option Value
 | [], _ => none
 | (a, v) :: r, t => bif Nat.beq a t then some v else look r t
def lookO (env : TEnv) : RP → Option Value
 | .t p => look env p
 | .v x => some x
 | .no => none
def lookL (env : TEnv) : List RP → Option (List Value)
 | [] => some []
 | x :: r => match lookO env x with
  | none => none
  | some v => match lookL env r with
   | none => none
   | some l => some (v :: l)
structure FOk (fr : Fr) (f n : Nat) (ds : List Deferred) (env : TEnv) : Prop where
 fn : fr.fn = f
 n : fr.n = n
 ds : fr.defs = ds
 rd : fr.rd = none
 tm : ∀ t v, look env t = some v → fr.tm.get t = some v
structure SOk (s : St) (H : Hp) (nx : Nat) : Prop where
 nx : s.nx = nx
 h : ∀ id o, H id = some o → s.h.get id = some o
def SubE (a b : TEnv) : Prop := ∀ t v, look a t = some v → look b t = some v
theorem SubE.nil (b : TEnv) : SubE [] b := fun _ _ h => by cases h
theorem SubE.cons {a b : TEnv} {t : Nat} {v : Value} (h : look b t = some v) (r : SubE a b) : SubE ((t, v) :: a) b := fun u x hx => by
 simp only [look] at hx
 cases hb : Nat.beq t u with
 | true => rw [hb] at hx; have := Nat.eq_of_beq_eq_true hb; subst this; injection hx with hx; subst hx; exact h
 | false => rw [hb] at hx; exact r u x hx
theorem SubE.refl (a : TEnv) : SubE a a := fun _ _ h => h
theorem FOk.sub {fr : Fr} {f n : Nat} {ds : List Deferred} {a b : TEnv} (h : FOk fr f n ds b) (hs : SubE a b) : FOk fr f n ds a := ⟨h.fn, h.n, h.ds, h.rd, fun t v hv => h.tm t v (hs t v hv)⟩
def HSub (A B : Hp) : Prop := ∀ id o, A id = some o → B id = some o
theorem SOk.sub {s : St} {A B : Hp} {nx : Nat} (h : SOk s B nx) (hs : HSub A B) : SOk s A nx := ⟨h.nx, fun id o ho => h.h id o (hs id o ho)⟩
theorem FOk.o {fr : Fr} {f n : Nat} {ds : List Deferred} {env : TEnv} (h : FOk fr f n ds env) {x : RP} {v : Value} (hx : lookO env x = some v) : evalO fr.tm x = some v := by
 cases x with
 | t p => exact h.tm p v hx
 | v y => exact hx
 | no => cases hx
theorem FOk.l {fr : Fr} {f n : Nat} {ds : List Deferred} {env : TEnv} (h : FOk fr f n ds env) : ∀ {l : List RP} {vs : List Value}, lookL env l = some vs → evalL fr.tm l = some vs
 | [], vs, hl => hl
 | x :: r, vs, hl => by
  simp only [lookL] at hl
  split at hl
  ·cases hl
  ·rename_i v hv
   split at hl
   ·cases hl
   ·rename_i l' hl'
    simp only [evalL, h.o hv, h.l hl']; exact hl
theorem put_not_lf {α : Type} {t : Tr α} {k : Nat} {v : α} : Tr.put (some v) k t ≠ .lf := fun h => by
 have := Tr.put_same v t k
 rw [h] at this; cases this
theorem setT_eq {fr : Fr} {d p : Nat} {v : Value} (h : d < fr.n) : setT fr (some (d, p)) v = some ⟨fr.fn, fr.tm.put (some v) p, fr.n, fr.defs, fr.rd⟩ := by
 obtain ⟨fn, tm, n, defs, rd⟩ := fr
 simp only [setT]
 have : Nat.ble (Nat.succ d) n = true := Nat.ble_eq_true_of_le h
 rw [this, cond_true]
 split
 ·rename_i hp; exact absurd hp put_not_lf
 ·rename_i hp; simp only [hp]
theorem FOk.put {fr : Fr} {f n : Nat} {ds : List Deferred} {env : TEnv} (h : FOk fr f n ds env) {d : Nat} (v : Value) : FOk ⟨fr.fn, fr.tm.put (some v) d, fr.n, fr.defs, fr.rd⟩ f n ds ((d, v) :: env) := by
 refine ⟨h.fn, h.n, h.ds, h.rd, fun t u hu => ?_⟩
 simp only [look] at hu
 cases hb : Nat.beq d t with
 | true =>
  rw [hb] at hu; have := Nat.eq_of_beq_eq_true hb; subst this
  injection hu with hu; subst hu
  exact Tr.put_same _ _ _
 | false =>
  rw [hb] at hu
  refine Tr.put_other _ _ _ _ _ (fun he => ?_) (h.tm t u hu)
  subst he; rw [show Nat.beq t t = true from Nat.beq_refl t] at hb; cases hb
theorem SOk.set {s : St} {H : Hp} {nx : Nat} (h : SOk s H nx) (b : Nat) (o : AO) : SOk (setS s b o) (upd H b o) nx := by
 refine ⟨by rw [setS_nx]; exact h.nx, fun id o' ho => ?_⟩
 rw [setS_h]
 by_cases hb : id = b
 ·subst hb; rw [upd_eq] at ho; injection ho with ho; subst ho; exact Tr.put_same _ _ _
 ·rw [upd_ne hb] at ho; exact Tr.put_other _ _ _ _ _ hb (h.h id o' ho)
theorem SOk.new {s : St} {H : Hp} {nx : Nat} (h : SOk s H nx) (o : AO) : SOk (newO s o) (upd H nx o) (nx + 1) := by
 refine ⟨by rw [newO_nx, h.nx], fun id o' ho => ?_⟩
 rw [newO_h, h.nx]
 by_cases hb : id = nx
 ·subst hb; rw [upd_eq] at ho; injection ho with ho; subst ho; exact Tr.put_same _ _ _
 ·rw [upd_ne hb] at ho; exact Tr.put_other _ _ _ _ _ hb (h.h id o' ho)
theorem SOk.del {s : St} {H : Hp} {nx : Nat} (h : SOk s H nx) (b : Nat) : SOk (delS s b) (del H b) nx := by
 refine ⟨by rw [delS_nx]; exact h.nx, fun id o' ho => ?_⟩
 rw [delS_h]
 by_cases hb : id = b
 ·subst hb; simp [Eng.del] at ho
 ·rw [del_ne hb] at ho; exact Tr.put_other _ _ _ _ _ hb (h.h id o' ho)
def Good (f n : Nat) (Q : Ex → TEnv → List Deferred → Hp → Nat → Prop) (P : Value → TEnv → List Deferred → Hp → Nat → Prop) : Res → Prop
 | .code e fr s => ∃ env ds H nx, FOk fr f n ds env ∧ SOk s H nx ∧ Q e env ds H nx
 | .pan fr v s => ∃ env ds H nx, FOk fr f n ds env ∧ SOk s H nx ∧ P v env ds H nx
 | _ => False
def GoodV (Q P : Value → Hp → Nat → Prop) : Res → Prop
 | .val v s => ∃ H nx, SOk s H nx ∧ Q v H nx
 | .thr v s => ∃ H nx, SOk s H nx ∧ P v H nx
 | _ => False
def WC (E : Env) (f n : Nat) (c : Code) (env : TEnv) (ds : List Deferred) (H : Hp) (nx : Nat) (Q : Ex → TEnv → List Deferred → Hp → Nat → Prop) (P : Value → TEnv → List Deferred → Hp → Nat → Prop) : Prop :=
 ∀ fr s, FOk fr f n ds env → SOk s H nx → ∃ N r, ev E N (.code c fr s) = some r ∧ Good f n Q P r
def WS (E : Env) (f n : Nat) (xs : List RX) (env : TEnv) (ds : List Deferred) (H : Hp) (nx : Nat) (K : TEnv → List Deferred → Hp → Nat → Prop) (P : Value → TEnv → List Deferred → Hp → Nat → Prop) : Prop :=
 ∀ fr s, FOk fr f n ds env → SOk s H nx → ∃ N r, seqOps (ev E N) E.mt xs fr s = some r ∧ Good f n (fun e env ds H nx => e = .normal ∧ K env ds H nx) P r
def FnOk (E : Env) (g : FuncId) (args : List Value) (H : Hp) (nx : Nat) (Q P : Value → Hp → Nat → Prop) : Prop :=
 ∀ s, SOk s H nx → ∃ N r, ev E N (.call g args s) = some r ∧ GoodV Q P r
def One (E : Env) (f n : Nat) (x : RX) (env : TEnv) (ds : List Deferred) (H : Hp) (nx : Nat) (K : Value → List Deferred → Hp → Nat → Option LD → Prop) (P : Value → Hp → Nat → Prop) : Prop :=
 ∀ fr s, FOk fr f n ds env → SOk s H nx → ∃ N, 
  (∃ v ds' H' nx' s' rd fr', oneX (ev E N) E.mt fr s x = .ok fr' s' rd ∧ setT ⟨fr.fn, fr.tm, fr.n, ds', fr.rd⟩ x.d v = some fr' ∧ SOk s' H' nx' ∧ K v ds' H' nx' rd) ∨
  (∃ v H' nx' s', oneX (ev E N) E.mt fr s x = .pan v s' ∧ SOk s' H' nx' ∧ P v H' nx')
section
variable {E : Env} {f n : Nat} {env : TEnv} {ds : List Deferred} {H : Hp} {nx : Nat} {Q : Ex → TEnv → List Deferred → Hp → Nat → Prop} {P : Value → TEnv → List Deferred → Hp → Nat → Prop}
theorem Good.mono {Q' : Ex → TEnv → List Deferred → Hp → Nat → Prop} {P' : Value → TEnv → List Deferred → Hp → Nat → Prop} {r : Res} (h : Good f n Q P r) (hq : ∀ e env ds H nx, Q e env ds H nx → Q' e env ds H nx)
  (hp : ∀ v env ds H nx, P v env ds H nx → P' v env ds H nx) : Good f n Q' P' r := by
 cases r with
 | code e fr s => obtain ⟨a, b, c, d, h1, h2, h3⟩ := h; exact ⟨a, b, c, d, h1, h2, hq _ _ _ _ _ h3⟩
 | pan fr v s => obtain ⟨a, b, c, d, h1, h2, h3⟩ := h; exact ⟨a, b, c, d, h1, h2, hp _ _ _ _ _ h3⟩
 | val v s => exact h
 | thr v s => exact h
theorem WC.weak {c : Code} {env' : TEnv} {H' : Hp} (h : WC E f n c env' ds H' nx Q P) (hs : SubE env' env) (hh : HSub H' H) : WC E f n c env ds H nx Q P :=
 fun fr s hf hS => h fr s (hf.sub hs) (hS.sub hh)
theorem WC.mono {c : Code} {Q' : Ex → TEnv → List Deferred → Hp → Nat → Prop} {P' : Value → TEnv → List Deferred → Hp → Nat → Prop} (h : WC E f n c env ds H nx Q P) (hq : ∀ e env ds H nx, Q e env ds H nx → Q' e env ds H nx)
  (hp : ∀ v env ds H nx, P v env ds H nx → P' v env ds H nx) : WC E f n c env ds H nx Q' P' := fun fr s hf hS => by
 obtain ⟨N, r, h1, h2⟩ := h fr s hf hS
 exact ⟨N, r, h1, h2.mono hq hp⟩
theorem FnOk.mono {g : FuncId} {args : List Value} {Q P Q' P' : Value → Hp → Nat → Prop} (h : FnOk E g args H nx Q P) (hq : ∀ v H nx, Q v H nx → Q' v H nx) (hp : ∀ v H nx, P v H nx → P' v H nx) : FnOk E g args H nx Q' P' := fun s hS => by
 obtain ⟨N, r, h1, h2⟩ := h s hS
 refine ⟨N, r, h1, ?_⟩
 cases r with
 | val v s => obtain ⟨a, b, h3, h4⟩ := h2; exact ⟨a, b, h3, hq _ _ _ h4⟩
 | thr v s => obtain ⟨a, b, h3, h4⟩ := h2; exact ⟨a, b, h3, hp _ _ _ h4⟩
 | code e fr s => exact h2
 | pan fr v s => exact h2
theorem WC.seq {a b : Code} (h : WC E f n a env ds H nx (fun e env ds H nx => match e with
  | .normal => WC E f n b env ds H nx Q P
  | e => Q e env ds H nx) P) : WC E f n (.seq a b) env ds H nx Q P := by
 intro fr s hf hS
 obtain ⟨N, r, h1, h2⟩ := h fr s hf hS
 cases r with
 | code e fr1 s1 =>
  obtain ⟨env1, ds1, H1, nx1, k1, k2, k3⟩ := h2
  cases e with
  | normal =>
   obtain ⟨M, r2, h3, h4⟩ := k3 fr1 s1 k1 k2
   refine ⟨Nat.max N M + 1, r2, ?_, h4⟩
   show thenC (ev E (Nat.max N M)) (ev E (Nat.max N M) (.code a fr s)) b = some r2
   rw [ev_le E (Nat.le_max_left N M) _ _ h1]
   exact ev_le E (Nat.le_max_right N M) _ _ h3
  | exit id =>
   refine ⟨N + 1, .code (.exit id) fr1 s1, ?_, env1, ds1, H1, nx1, k1, k2, k3⟩
   show thenC (ev E N) (ev E N (.code a fr s)) b = _
   rw [h1]; rfl
  | ret =>
   refine ⟨N + 1, .code .ret fr1 s1, ?_, env1, ds1, H1, nx1, k1, k2, k3⟩
   show thenC (ev E N) (ev E N (.code a fr s)) b = _
   rw [h1]; rfl
 | pan fr1 v s1 =>
  refine ⟨N + 1, .pan fr1 v s1, ?_, h2⟩
  show thenC (ev E N) (ev E N (.code a fr s)) b = _
  rw [h1]; rfl
 | val v s1 => exact h2.elim
 | thr v s1 => exact h2.elim
theorem WC.skip (h : Q .normal env ds H nx) : WC E f n .skip env ds H nx Q P := fun fr s hf hS => ⟨1, _, rfl, env, ds, H, nx, hf, hS, h⟩
theorem WC.label {l : Nat} (h : Q .normal env ds H nx) : WC E f n (.label l) env ds H nx Q P := fun fr s hf hS => ⟨1, _, rfl, env, ds, H, nx, hf, hS, h⟩
theorem WC.exit {id : Nat} (h : Q (.exit id) env ds H nx) : WC E f n (.exit id) env ds H nx Q P := fun fr s hf hS => ⟨1, _, rfl, env, ds, H, nx, hf, hS, h⟩
theorem WC.ret (h : Q .ret env ds H nx) : WC E f n .ret env ds H nx Q P := fun fr s hf hS => ⟨1, _, rfl, env, ds, H, nx, hf, hS, h⟩
theorem WC.scope {c : Code} (h : WC E f n c env ds H nx Q P) : WC E f n (.scope c) env ds H nx Q P := fun fr s hf hS => by
 obtain ⟨N, r, h1, h2⟩ := h fr s hf hS
 exact ⟨N + 1, r, h1, h2⟩
theorem WC.block {id : Nat} {c : Code} (h : WC E f n c env ds H nx (fun e env ds H nx => match e with
  | .exit j => bif Nat.beq j id then Q .normal env ds H nx else Q (.exit j) env ds H nx
  | e => Q e env ds H nx) P) : WC E f n (.block id c) env ds H nx Q P := fun fr s hf hS => by
 obtain ⟨N, r, h1, h2⟩ := h fr s hf hS
 have key : ev E (N + 1) (.code (.block id c) fr s) = blockC (ev E N (.code c fr s)) id := rfl
 cases r with
 | code e fr1 s1 =>
  obtain ⟨env1, ds1, H1, nx1, k1, k2, k3⟩ := h2
  cases e with
  | normal => exact ⟨N + 1, .code .normal fr1 s1, by rw [key, h1]; rfl, env1, ds1, H1, nx1, k1, k2, k3⟩
  | ret => exact ⟨N + 1, .code .ret fr1 s1, by rw [key, h1]; rfl, env1, ds1, H1, nx1, k1, k2, k3⟩
  | exit j =>
   cases hb : Nat.beq j id with
   | true =>
    simp only [hb, cond_true] at k3
    exact ⟨N + 1, .code .normal fr1 s1, by rw [key, h1]; simp only [blockC, hb, cond_true], env1, ds1, H1, nx1, k1, k2, k3⟩
   | false =>
    simp only [hb, cond_false] at k3
    exact ⟨N + 1, .code (.exit j) fr1 s1, by rw [key, h1]; simp only [blockC, hb, cond_false], env1, ds1, H1, nx1, k1, k2, k3⟩
 | pan fr1 v s1 => exact ⟨N + 1, .pan fr1 v s1, by rw [key, h1]; rfl, h2⟩
 | val v s1 => exact h2.elim
 | thr v s1 => exact h2.elim
theorem WC.condB {c : Operand} {a b : Code} {t : Bool} (hc : lookO env (rp c) = some (.bool t)) (h1 : t = true → WC E f n a env ds H nx Q P) (h2 : t = false → WC E f n b env ds H nx Q P) : WC E f n (.cond c a b) env ds H nx Q P := fun fr s hf hS => by
 have key : ∀ N, ev E (N + 1) (.code (.cond c a b) fr s) = condC (ev E N) fr s (rp c) a b := fun _ => rfl
 cases t with
 | true =>
  obtain ⟨N, r, h3, h4⟩ := h1 rfl fr s hf hS
  exact ⟨N + 1, r, by rw [key]; unfold condC; rw [hf.o hc]; exact h3, h4⟩
 | false =>
  obtain ⟨N, r, h3, h4⟩ := h2 rfl fr s hf hS
  exact ⟨N + 1, r, by rw [key]; unfold condC; rw [hf.o hc]; exact h3, h4⟩
theorem WC.cond {c : Operand} {a b : Code} {p : Prop} [Decidable p] (hc : lookO env (rp c) = some (.bool (decide p))) (h1 : p → WC E f n a env ds H nx Q P) (h2 : ¬ p → WC E f n b env ds H nx Q P) : WC E f n (.cond c a b) env ds H nx Q P :=
 WC.condB hc (fun h => h1 (of_decide_eq_true h)) (fun h => h2 (of_decide_eq_false h))
theorem WC.loop {b : Code} (I : Nat → TEnv → List Deferred → Hp → Nat → Prop) (hs : ∀ m env ds H nx, I m env ds H nx → WC E f n b env ds H nx (fun e env ds H nx => match e with
  | .normal => ∃ m', m' < m ∧ I m' env ds H nx
  | e => Q e env ds H nx) P) {m : Nat} (h0 : I m env ds H nx) : WC E f n (.loop b) env ds H nx Q P := by
 induction m using Nat.strongRecOn generalizing env ds H nx with
 | _ m ih =>
 intro fr s hf hS
 obtain ⟨N, r, h1, h2⟩ := hs m env ds H nx h0 fr s hf hS
 have key : ∀ M, ev E (M + 1) (.code (.loop b) fr s) = thenC (ev E M) (ev E M (.code b fr s)) (.loop b) := fun _ => rfl
 cases r with
 | code e fr1 s1 =>
  obtain ⟨env1, ds1, H1, nx1, k1, k2, k3⟩ := h2
  cases e with
  | normal =>
   obtain ⟨m', hm, k3⟩ := k3
   obtain ⟨M, r2, h3, h4⟩ := ih m' hm k3 fr1 s1 k1 k2
   refine ⟨Nat.max N M + 1, r2, ?_, h4⟩
   rw [key, ev_le E (Nat.le_max_left N M) _ _ h1]
   exact ev_le E (Nat.le_max_right N M) _ _ h3
  | exit id => exact ⟨N + 1, .code (.exit id) fr1 s1, by rw [key, h1]; rfl, env1, ds1, H1, nx1, k1, k2, k3⟩
  | ret => exact ⟨N + 1, .code .ret fr1 s1, by rw [key, h1]; rfl, env1, ds1, H1, nx1, k1, k2, k3⟩
 | pan fr1 v s1 => exact ⟨N + 1, .pan fr1 v s1, by rw [key, h1]; rfl, h2⟩
 | val v s1 => exact h2.elim
 | thr v s1 => exact h2.elim
theorem WS.nil {K : TEnv → List Deferred → Hp → Nat → Prop} (h : K env ds H nx) : WS E f n [] env ds H nx K P := fun fr s hf hS => ⟨0, _, rfl, env, ds, H, nx, hf, hS, rfl, h⟩
def putE (d : Option (Nat × Nat)) (v : Value) (env : TEnv) : TEnv := match d with
 | none => env
 | some (_, p) => (p, v) :: env
theorem FOk.set {fr fr' : Fr} {ds' : List Deferred} {d : Option (Nat × Nat)} {v : Value} (h : FOk fr f n ds env) (hs : setT ⟨fr.fn, fr.tm, fr.n, ds', fr.rd⟩ d v = some fr') : FOk fr' f n ds' (putE d v env) := by
 cases d with
 | none => injection hs with hs; subst hs; exact ⟨h.fn, h.n, rfl, h.rd, h.tm⟩
 | some dp =>
  obtain ⟨d, p⟩ := dp
  obtain ⟨_, h2⟩ := setT_spec hs
  subst h2
  exact FOk.put (fr := ⟨fr.fn, fr.tm, fr.n, ds', fr.rd⟩) ⟨h.fn, h.n, rfl, h.rd, h.tm⟩ v
theorem WS.cons {x : RX} {xs : List RX} {K : TEnv → List Deferred → Hp → Nat → Prop} (h : One E f n x env ds H nx (fun v ds' H' nx' _ => WS E f n xs (putE x.d v env) ds' H' nx' K P) (fun v H' nx' => P v env ds H' nx')) : WS E f n (x :: xs) env ds H nx K P := by
 intro fr s hf hS
 obtain ⟨N, ⟨v, ds', H', nx', s', rd, fr', h1, h2, h3, h4⟩ | ⟨v, H', nx', s', h1, h2, h3⟩⟩ := h fr s hf hS
 ·obtain ⟨M, r, h5, h6⟩ := h4 fr' s' (hf.set h2) h3
  refine ⟨Nat.max N M, r, ?_, h6⟩
  simp only [seqOps, oneX_le (ev_le E (Nat.le_max_left N M)) h1 (by simp)]
  exact seqOps_le (ev_le E (Nat.le_max_right N M)) h5
 ·refine ⟨N, .pan fr v s', ?_, env, ds, H', nx', hf, h2, h3⟩
  simp only [seqOps, h1]
theorem WC.region {id : Nat} {ops : Array Oper} {xs : List RX} (hc : compR E ops.toList ops.toList = some xs) (h : WS E f n xs env ds H nx (fun env ds H nx => Q .normal env ds H nx) P) : WC E f n (.region id ops false) env ds H nx Q P := by
 intro fr s hf hS
 obtain ⟨N, r, h1, h2⟩ := h fr s hf hS
 refine ⟨N + 1, r, ?_, h2.mono (fun e _ _ _ _ hh => by rw [hh.1]; exact hh.2) (fun _ _ _ _ _ h => h)⟩
 show regionF E (ev E N) ops.toList fr s = _
 unfold regionF
 rw [hc]; exact h1
theorem WC.seqR {id : Nat} {ops : Array Oper} {xs : List RX} {b : Code} (hc : compR E ops.toList ops.toList = some xs) (h : WS E f n xs env ds H nx (fun env ds H nx => WC E f n b env ds H nx Q P) P) : WC E f n (.seq (.region id ops false) b) env ds H nx Q P :=
 WC.seq (WC.region hc h)
end
end Go.Eng
end
section
namespace Go.Eng
noncomputable def bldE (env : TEnv) (cells : List Value) : List (Nat × Nat × RP) → Option (List Value)
 | [] => some cells
 | (off, sz, x) :: r => match lookO env x with
  | none => none
  | some v => let l := cellsL v
   bif Nat.beq l.length sz && l.all oneCellB then (match layL cells off l with
    | some cs => bldE env cs r
    | none => none) else none
def bndE (env : TEnv) (y : Nat) (x : Option RP) (d : Nat) : Option Nat := match x with
 | none => some d
 | some x => match lookO env x with
  | some (.int _ i) => natBelow i y
  | _ => none
def dOk (n : Nat) : Option (Nat × Nat) → Bool
 | none => true
 | some (d, _) => Nat.ble (Nat.succ d) n
section
variable {E : Env} {f n : Nat} {env : TEnv} {ds : List Deferred} {H : Hp} {nx : Nat} {K : Value → List Deferred → Hp → Nat → Option LD → Prop} {P : Value → Hp → Nat → Prop} {d : Option (Nat × Nat)}
theorem setT_ok {fr : Fr} {ds' : List Deferred} (v : Value) (h : fr.n = n) (hd : dOk n d = true) : ∃ fr', setT ⟨fr.fn, fr.tm, fr.n, ds', fr.rd⟩ d v = some fr' := by
 cases d with
 | none => exact ⟨_, rfl⟩
 | some dp =>
  obtain ⟨d, p⟩ := dp
  have hd : d < n := Nat.le_of_ble_eq_true hd
  exact ⟨_, setT_eq (by show d < fr.n; omega)⟩
theorem One.pure {q : PO} {v : Value} (hv : ∀ fr : Fr, FOk fr f n ds env → runP fr.tm q = some v) (hd : dOk n d = true) (hk : K v ds H nx none) : One E f n ⟨none, d, .p q⟩ env ds H nx K P := by
 intro fr s hf hS
 obtain ⟨fr', h1⟩ := setT_ok (ds' := ds) v hf.n hd
 refine ⟨0, .inl ⟨v, ds, H, nx, s, none, fr', ?_, h1, hS, hk⟩⟩
 have h2 : (⟨fr.fn, fr.tm, fr.n, ds, fr.rd⟩ : Fr) = fr := by rw [← hf.ds]
 rw [h2] at h1
 simp only [oneX, wantB, oneOp, opP, hv fr hf, putF, h1]
theorem One.mv {x : RP} {v : Value} (hx : lookO env x = some v) (hd : dOk n d = true) (hk : K v ds H nx none) : One E f n ⟨none, d, .p (.mv x)⟩ env ds H nx K P :=
 One.pure (fun fr hf => hf.o hx) hd hk
theorem One.pick {c x y : RP} {t : Bool} {v : Value} (hc : lookO env c = some (.bool t)) (hv : (bif t then lookO env x else lookO env y) = some v) (hd : dOk n d = true) (hk : K v ds H nx none) : One E f n ⟨none, d, .p (.pick c x y)⟩ env ds H nx K P :=
 One.pure (fun fr hf => by
  simp only [runP, rPick, hf.o hc]
  cases t <;> exact hf.o hv) hd hk
theorem One.pickT {c x y : RP} {p : Prop} [Decidable p] {v : Value} (hc : lookO env c = some (.bool (decide p))) (hp : p) (hv : lookO env x = some v) (hd : dOk n d = true) (hk : K v ds H nx none) : One E f n ⟨none, d, .p (.pick c x y)⟩ env ds H nx K P :=
 One.pick hc (by rw [decide_eq_true hp]; exact hv) hd hk
theorem One.pickF {c x y : RP} {p : Prop} [Decidable p] {v : Value} (hc : lookO env c = some (.bool (decide p))) (hp : ¬ p) (hv : lookO env y = some v) (hd : dOk n d = true) (hk : K v ds H nx none) : One E f n ⟨none, d, .p (.pick c x y)⟩ env ds H nx K P :=
 One.pick hc (by rw [decide_eq_false hp]; exact hv) hd hk
theorem bldE_ok {fr : Fr} (hf : FOk fr f n ds env) : ∀ {pl : List (Nat × Nat × RP)} {z cs : List Value}, bldE env z pl = some cs → rBldF fr.tm z pl = some cs
 | [], z, cs, h => h
 | (off, sz, x) :: r, z, cs, h => by
  simp only [bldE] at h
  simp only [rBldF]
  split at h
  ·cases h
  ·rename_i v hv
   rw [hf.o hv]
   simp only
   cases hb : (Nat.beq (cellsL v).length sz && (cellsL v).all oneCellB) with
   | false => rw [hb] at h; cases h
   | true =>
    rw [hb, cond_true] at h
    rw [cond_true]
    split at h
    ·rename_i c hc; rw [hc]; exact bldE_ok hf h
    ·cases h
theorem One.bld {pl : List (Nat × Nat × RP)} {z cs : List Value} (h : bldE env z pl = some cs) (hd : dOk n d = true) (hk : K (.agg ⟨cs⟩) ds H nx none) : One E f n ⟨none, d, .p (.bld pl z)⟩ env ds H nx K P :=
 One.pure (fun fr hf => by simp only [runP, rBld, bldE_ok hf h]) hd hk
theorem One.nilc {x : RP} {a : Addr} (hx : lookO env x = some (.pointer (some a))) (hd : dOk n d = true) (hk : K (.pointer (some a)) ds H nx none) : One E f n ⟨none, d, .p (.nilc x)⟩ env ds H nx K P :=
 One.pure (fun fr hf => by simp only [runP, rNilc, hf.o hx]) hd hk
theorem One.nilcF {x : RP} {g : FuncId} {a b : Array Value} (hx : lookO env x = some (.func (.func g) a b)) (hd : dOk n d = true) (hk : K (.func (.func g) a b) ds H nx none) : One E f n ⟨none, d, .p (.nilc x)⟩ env ds H nx K P :=
 One.pure (fun fr hf => by simp only [runP, rNilc, hf.o hx]) hd hk
theorem One.bin {op : BinOp} {k : TK} {con : Bool} {x y : RP} {a b v : Value} (hx : lookO env x = some a) (hy : lookO env y = some b) (hv : rBinV op k con a b = some v) (hd : dOk n d = true) (hk : K v ds H nx none) :
  One E f n ⟨none, d, .p (.bin op k con x y)⟩ env ds H nx K P :=
 One.pure (fun fr hf => by simp only [runP, rBin, hf.o hx, hf.o hy]; exact hv) hd hk
theorem One.sh {l : Bool} {x y : RP} {k j : IntKind} {a b : Int} {v : Value} (hx : lookO env x = some (.int k a)) (hy : lookO env y = some (.int j b)) (hv : (bif l then shiftI .shl k a b else shiftI .shr k a b) = some v) (hd : dOk n d = true) (hk : K v ds H nx none) :
  One E f n ⟨none, d, .p (.sh l x y)⟩ env ds H nx K P :=
 One.pure (fun fr hf => by simp only [runP, rSh, hf.o hx, hf.o hy]; exact hv) hd hk
theorem One.com {x : RP} {a v : Value} (hx : lookO env x = some a) (hv : rCom (Tr.put (some a) 0 .lf) (.t 0) = some v) (hd : dOk n d = true) (hk : K v ds H nx none) : One E f n ⟨none, d, .p (.com x)⟩ env ds H nx K P :=
 One.pure (fun fr hf => by
  have h0 : evalO (Tr.put (some a) 0 .lf) (.t 0) = some a := by show Tr.get (Tr.put (some a) 0 .lf) 0 = some a; exact Tr.put_same _ _ _
  simp only [rCom, h0] at hv
  simp only [runP, rCom, hf.o hx]; exact hv) hd hk
theorem One.neg {x : RP} {k : IntKind} {a : Int} (hx : lookO env x = some (.int k a)) (hd : dOk n d = true) (hk : K (.int k (k.wrap (0 - a))) ds H nx none) : One E f n ⟨none, d, .p (.neg x)⟩ env ds H nx K P :=
 One.pure (fun fr hf => by simp only [runP, rNeg, hf.o hx, wrapF_eq, subF_eq]) hd hk
theorem One.not {x : RP} {p : Prop} [Decidable p] (hx : lookO env x = some (.bool (decide p))) (hd : dOk n d = true) (hk : K (.bool (decide (¬ p))) ds H nx none) : One E f n ⟨none, d, .p (.not x)⟩ env ds H nx K P :=
 One.pure (fun fr hf => by simp only [runP, rNot, hf.o hx]; simp) hd hk
theorem One.notB {x : RP} {b : Bool} (hx : lookO env x = some (.bool b)) (hd : dOk n d = true) (hk : K (.bool (!b)) ds H nx none) : One E f n ⟨none, d, .p (.not x)⟩ env ds H nx K P :=
 One.pure (fun fr hf => by simp only [runP, rNot, hf.o hx]) hd hk
theorem One.cvI {x : RP} {k j : IntKind} {a c : Int} (hx : lookO env x = some (.int j a)) (hw : k.wrap a = c) (hd : dOk n d = true) (hk : K (.int k c) ds H nx none) : One E f n ⟨none, d, .p (.cvI k x)⟩ env ds H nx K P :=
 One.pure (fun fr hf => by simp only [runP, rCvI, hf.o hx, wrapF_eq, hw]) hd hk
theorem One.mkI {x : RP} {t : TypeId} {v : Value} (hx : lookO env x = some v) (hd : dOk n d = true) (hk : K (.iface t v) ds H nx none) : One E f n ⟨none, d, .p (.mkI t x)⟩ env ds H nx K P :=
 One.pure (fun fr hf => by simp only [runP, rMkI, hf.o hx]) hd hk
theorem One.mkF {g : Fn} {a b : List RP} {l m : List Value} (ha : lookL env a = some l) (hb : lookL env b = some m) (hd : dOk n d = true) (hk : K (.func g ⟨l⟩ ⟨m⟩) ds H nx none) : One E f n ⟨none, d, .p (.mkF g a b)⟩ env ds H nx K P :=
 One.pure (fun fr hf => by simp only [runP, rMkF, hf.l ha, hf.l hb]) hd hk
theorem One.fad {x : RP} {b o off : Nat} (hx : lookO env x = some (.pointer (some ⟨b, o, none⟩))) (hd : dOk n d = true) (hk : K (.pointer (some ⟨b, o + off, none⟩)) ds H nx none) : One E f n ⟨none, d, .p (.fad x off)⟩ env ds H nx K P :=
 One.pure (fun fr hf => by simp only [runP, rFad, hf.o hx]; rfl) hd hk
theorem One.fld {x : RP} {g : Option Nat} {off : Nat} {cs : List Value} {v : Value} (hx : lookO env x = some (.agg ⟨cs⟩)) (hv : partL g cs off = some v) (hd : dOk n d = true) (hk : K v ds H nx none) : One E f n ⟨none, d, .p (.fld x g off)⟩ env ds H nx K P :=
 One.pure (fun fr hf => by simp only [runP, rFld, hf.o hx]; exact hv) hd hk
theorem One.iaS {x i : RP} {b o m c sz : Nat} {k : IntKind} {j : Nat} {jj : Int} (hx : lookO env x = some (.slice (some ⟨b, o, none⟩) m c)) (hi : lookO env i = some (.int k jj)) (hj : jj = (j : Int)) (hlt : j < m) (hd : dOk n d = true) (hk : K (.pointer (some ⟨b, o + j * sz, none⟩)) ds H nx none) :
  One E f n ⟨none, d, .p (.iaS sz x i)⟩ env ds H nx K P :=
 One.pure (fun fr hf => by
  subst hj
  have : Nat.ble (Nat.succ j) m = true := Nat.ble_eq_true_of_le hlt
  simp only [runP, rIaS, hf.o hx, hf.o hi]
  show (bif Nat.ble (Nat.succ j) m then _ else _) = _
  rw [this]; rfl) hd hk
theorem One.iaA {x i : RP} {b o m sz : Nat} {k : IntKind} {j : Nat} {jj : Int} (hx : lookO env x = some (.pointer (some ⟨b, o, none⟩))) (hi : lookO env i = some (.int k jj)) (hj : jj = (j : Int)) (hlt : j < m) (hd : dOk n d = true) (hk : K (.pointer (some ⟨b, o + j * sz, none⟩)) ds H nx none) :
  One E f n ⟨none, d, .p (.iaA m sz x i)⟩ env ds H nx K P :=
 One.pure (fun fr hf => by
  subst hj
  have : Nat.ble (Nat.succ j) m = true := Nat.ble_eq_true_of_le hlt
  simp only [runP, rIaA, hf.o hx, hf.o hi]
  show (bif Nat.ble (Nat.succ j) m then _ else _) = _
  rw [this]; rfl) hd hk
theorem One.idx {x i : RP} {m sz : Nat} {g : Bool} {cs : List Value} {k : IntKind} {j : Nat} {jj : Int} {v : Value} (hx : lookO env x = some (.agg ⟨cs⟩)) (hi : lookO env i = some (.int k jj)) (hj : jj = (j : Int)) (hlt : j < m) (hv : partL (bif g then some sz else none) cs (j * sz) = some v) (hd : dOk n d = true) (hk : K v ds H nx none) :
  One E f n ⟨none, d, .p (.idx m sz g x i)⟩ env ds H nx K P :=
 One.pure (fun fr hf => by
  subst hj
  have : Nat.ble (Nat.succ j) m = true := Nat.ble_eq_true_of_le hlt
  simp only [runP, rIdx, hf.o hx, hf.o hi]
  show (bif Nat.ble (Nat.succ j) m then _ else _) = _
  rw [this]; exact hv) hd hk
theorem One.taT {x : RP} {t : TypeId} {z v : Value} (hx : lookO env x = some (.iface t v)) (hd : dOk n d = true) (hk : K (.tuple #[v, .bool true]) ds H nx none) : One E f n ⟨none, d, .p (.ta t z x)⟩ env ds H nx K P :=
 One.pure (fun fr hf => by simp only [runP, rTa, hf.o hx]; rw [show Nat.beq t t = true from Nat.beq_refl t]; rfl) hd hk
theorem One.taN {x : RP} {t : TypeId} {z : Value} (hx : lookO env x = some .nilIface) (hd : dOk n d = true) (hk : K (.tuple #[z, .bool false]) ds H nx none) : One E f n ⟨none, d, .p (.ta t z x)⟩ env ds H nx K P :=
 One.pure (fun fr hf => by simp only [runP, rTa, hf.o hx]) hd hk
theorem One.ext {x : RP} {i : Nat} {vs : Array Value} {v : Value} (hx : lookO env x = some (.tuple vs)) (hv : vs.toList[i]? = some v) (hd : dOk n d = true) (hk : K v ds H nx none) : One E f n ⟨none, d, .p (.ext x i)⟩ env ds H nx K P :=
 One.pure (fun fr hf => by simp only [runP, rExt, hf.o hx, nth_eq]; exact hv) hd hk
theorem One.lenC {x : RP} {m : Nat} {v : Value} (hx : lookO env x = some v) (hd : dOk n d = true) (hk : K (.int .i64 (m : Int)) ds H nx none) : One E f n ⟨none, d, .p (.lenC m x)⟩ env ds H nx K P :=
 One.pure (fun fr hf => by simp only [runP, rLenC, hf.o hx]; rfl) hd hk
theorem One.len {x : RP} {a : Option Addr} {m c : Nat} (hx : lookO env x = some (.slice a m c)) (hd : dOk n d = true) (hk : K (.int .i64 (m : Int)) ds H nx none) : One E f n ⟨none, d, .p (.len x)⟩ env ds H nx K P :=
 One.pure (fun fr hf => by simp only [runP, rLen, hf.o hx]; rfl) hd hk
theorem One.mn {x y : RP} {k j : IntKind} {a b c : Int} (hx : lookO env x = some (.int k a)) (hy : lookO env y = some (.int j b)) (hv : c = if a ≤ b then a else b) (hd : dOk n d = true) (hk : K (.int k c) ds H nx none) : One E f n ⟨none, d, .p (.mn x y)⟩ env ds H nx K P :=
 One.pure (fun fr hf => by
  simp only [runP, rMn, hf.o hx, hf.o hy, leF_eq, hv]
  by_cases h : a ≤ b
  ·simp [h]
  ·simp [h]) hd hk
theorem One.mx {x y : RP} {k j : IntKind} {a b c : Int} (hx : lookO env x = some (.int k a)) (hy : lookO env y = some (.int j b)) (hv : c = if b ≤ a then a else b) (hd : dOk n d = true) (hk : K (.int k c) ds H nx none) : One E f n ⟨none, d, .p (.mx x y)⟩ env ds H nx K P :=
 One.pure (fun fr hf => by
  simp only [runP, rMx, hf.o hx, hf.o hy, leF_eq, hv]
  by_cases h : b ≤ a
  ·simp [h]
  ·simp [h]) hd hk
theorem bndE_ok {fr : Fr} (hf : FOk fr f n ds env) {y e : Nat} {x : Option RP} {m : Nat} (h : bndE env y x e = some m) : boundV fr.tm y x e = some m := by
 unfold bndE at h
 unfold boundV
 split at h
 ·exact h
 ·split at h
  ·rename_i hx; simp only [hf.o hx]; exact h
  ·cases h
theorem natBelow_eq {i m y : Nat} : natBelow (i : Int) y = some m ↔ i = m ∧ i ≤ y := by
 show (bif Nat.ble i y then some i else none) = some m ↔ _
 rw [natBle]
 by_cases h : i ≤ y
 ·simp [h]
 ·simp [h]
theorem bnd_int {y e : Nat} {x : RP} {k : IntKind} {ii : Int} {i : Nat} (hx : lookO env x = some (.int k ii)) (hi : ii = (i : Int)) (h : i ≤ y) : bndE env y (some x) e = some i := by
 subst hi
 simp only [bndE, hx]
 exact natBelow_eq.2 ⟨rfl, h⟩
theorem bnd_none {y e : Nat} : bndE env y none e = some e := rfl
theorem One.slS {x : RP} {lo hi : Option RP} {b o m c sz l h : Nat} (hx : lookO env x = some (.slice (some ⟨b, o, none⟩) m c)) (hc : (Nat.ble big c && !(Nat.beq (esCap c) sz)) = false) (hh : bndE env (lowCap c) hi m = some h) (hhc : h ≤ lowCap c) (hl : bndE env h lo 0 = some l) (hd : dOk n d = true)
  (hk : K (if c = l then .slice (some ⟨b, o, none⟩) (h - l) (c - l) else .slice (some ⟨b, o + l * sz, none⟩) (h - l) (c - l)) ds H nx none) : One E f n ⟨none, d, .p (.slS sz x lo hi none)⟩ env ds H nx K P :=
 One.pure (fun fr hf => by
  have h1 : runP fr.tm (.slS sz x lo hi none) = rCut fr.tm ⟨b, o, none⟩ m c sz lo hi none := by simp only [runP, rSlS, hf.o hx]
  rw [h1]
  unfold rCut
  simp only [capM, bndE_ok hf hh, bndE_ok hf hl]
  rw [hc, cond_false, show Nat.ble h (lowCap c) = true from Nat.ble_eq_true_of_le hhc, cond_true, natBeq]
  by_cases hcl : c = l
  ·rw [if_pos hcl, decide_eq_true hcl]; rfl
  ·rw [if_neg hcl, decide_eq_false hcl]; rfl) hd hk
theorem One.slN {x : RP} {lo hi : Option RP} {sz : Nat} (hx : lookO env x = some (.slice none 0 0)) (hh : bndE env 0 hi 0 = some 0) (hl : bndE env 0 lo 0 = some 0) (hd : dOk n d = true)
  (hk : K (.slice none 0 0) ds H nx none) : One E f n ⟨none, d, .p (.slS sz x lo hi none)⟩ env ds H nx K P :=
 One.pure (fun fr hf => by
  have h0 : boundV fr.tm 0 none 0 = some 0 := rfl
  simp only [runP, rSlS, hf.o hx, h0, bndE_ok hf hh, bndE_ok hf hl]) hd hk
theorem low_small {c : Nat} (h : c < big) : lowCap c = c := by
 unfold lowCap
 have : Nat.ble big c = false := by rw [natBle]; simp; omega
 rw [this]; rfl
theorem low_big (sz need : Nat) (h : need ≤ 1073741824) : lowCap (big + sz * qq + need) = need := (cap_new h).2.1
theorem es_small {c sz : Nat} (h : c < big) : (Nat.ble big c && !(Nat.beq (esCap c) sz)) = false := by
 have : Nat.ble big c = false := by rw [natBle]; simp; omega
 rw [this]; rfl
theorem es_big {sz need : Nat} (h : need ≤ 1073741824) : (Nat.ble big (big + sz * qq + need) && !(Nat.beq (esCap (big + sz * qq + need)) sz)) = false := by
 rw [(cap_new h).2.2, show Nat.beq sz sz = true from Nat.beq_refl sz]; simp
def rdC (H : Hp) (b o : Nat) : Option Value := match H b with
 | some (.cells cs _ _) => cs[o]?
 | _ => none
def rdR (H : Hp) (b o m : Nat) : Option (List Value) := match H b with
 | some (.cells cs _ _) => if o + m ≤ cs.length then some ((cs.drop o).take m) else none
 | _ => none
theorem rdC_ok {s : St} (hS : SOk s H nx) {b o : Nat} {v : Value} (h : rdC H b o = some v) : readCell s ⟨b, o, none⟩ = some v := by
 unfold rdC at h
 split at h
 ·rename_i ho; simp only [readCell, hS.h _ _ ho, nth_eq]; exact h
 ·cases h
theorem rdR_ok {s : St} (hS : SOk s H nx) {b o m : Nat} {l : List Value} (h : rdR H b o m = some l) : readRow s ⟨b, o, none⟩ m = some l := by
 unfold rdR at h
 split at h
 ·rename_i ho; simp only [readRow, hS.h _ _ ho, rowAt_eq]; exact h
 ·cases h
def ldE (H : Hp) (g : Option Nat) (b o : Nat) : Option Value := match g with
 | none => rdC H b o
 | some m => match rdR H b o m with
  | some l => some (.agg ⟨l⟩)
  | none => none
theorem ldE_ok {s : St} (hS : SOk s H nx) {g : Option Nat} {b o : Nat} {v : Value} (h : ldE H g b o = some v) : rLd s g ⟨b, o, none⟩ = some v := by
 cases g with
 | none => exact rdC_ok hS h
 | some m =>
  simp only [ldE] at h
  simp only [rLd]
  split at h
  ·rename_i hl; rw [rdR_ok hS hl]; exact h
  ·cases h
theorem One.read {q : LO} {ld : LD} {v : Value} (hq : ∀ fr : Fr, FOk fr f n ds env → toLD fr.tm q = some ld) (hv : ∀ s, SOk s H nx → evalLD s ld = some v) (hd : dOk n d = true) (hk : K v ds H nx (some ld)) : One E f n ⟨none, d, .l q⟩ env ds H nx K P := by
 intro fr s hf hS
 obtain ⟨fr', h1⟩ := setT_ok (ds' := ds) v hf.n hd
 refine ⟨0, .inl ⟨v, ds, H, nx, s, some ld, fr', ?_, h1, hS, hk⟩⟩
 have h2 : (⟨fr.fn, fr.tm, fr.n, ds, fr.rd⟩ : Fr) = fr := by rw [← hf.ds]
 rw [h2] at h1
 simp only [oneX, wantB, oneOp, opL, hq fr hf, hv s hS, putF, h1]
theorem One.ld {x : RP} {g : Option Nat} {b o : Nat} {v : Value} (hx : lookO env x = some (.pointer (some ⟨b, o, none⟩))) (hv : ldE H g b o = some v) (hd : dOk n d = true) (hk : K v ds H nx (some (.cell g ⟨b, o, none⟩))) : One E f n ⟨none, d, .l (.ld g x)⟩ env ds H nx K P :=
 One.read (ld := .cell g ⟨b, o, none⟩) (fun fr hf => by simp only [toLD, hf.o hx]) (fun s hS => ldE_ok hS hv) hd hk
def bytesE (H : Hp) : Value → Option (List UInt8)
 | .string b => some b.data.toList
 | .slice none _ _ => some []
 | .slice (some ⟨b, o, none⟩) m _ => if m = 0 then some [] else match rdR H b o m with
  | some l => bytesL l
  | none => none
 | _ => none
theorem bytesE_ok {s : St} (hS : SOk s H nx) {v : Value} {l : List UInt8} (h : bytesE H v = some l) : bytesV s v = some l := by
 unfold bytesE at h
 unfold bytesV
 split at h
 ·exact h
 ·exact h
 ·rename_i b o m c
  simp only [natBeq]
  by_cases hm : m = 0
  ·rw [if_pos hm] at h; rw [decide_eq_true hm, cond_true]; exact h
  ·rw [if_neg hm] at h; rw [decide_eq_false hm, cond_false]
   split at h
   ·rename_i l' hl; rw [rdR_ok hS hl]; exact h
   ·cases h
 ·cases h
theorem One.str {x : RP} {a : Option Addr} {m c : Nat} {bs : List UInt8} (hx : lookO env x = some (.slice a m c)) (hv : bytesE H (.slice a m c) = some bs) (hd : dOk n d = true) (hk : K (.string ⟨⟨bs⟩⟩) ds H nx (some (.str (.slice a m c)))) : One E f n ⟨none, d, .l (.str x)⟩ env ds H nx K P :=
 One.read (fun fr hf => by simp only [toLD, hf.o hx]) (fun s hS => by simp only [evalLD, rStr, bytesE_ok hS hv]) hd hk
theorem One.cmp {x y : RP} {a b : Value} {la lb : List UInt8} (hx : lookO env x = some a) (hy : lookO env y = some b) (ha : bytesE H a = some la) (hb : bytesE H b = some lb) (hd : dOk n d = true) (hk : K (.int .i64 (cmpU la lb)) ds H nx (some (.cmp a b))) : One E f n ⟨none, d, .l (.cmp x y)⟩ env ds H nx K P :=
 One.read (ld := .cmp a b) (fun fr hf => by simp only [toLD, hf.o hx, hf.o hy]) (fun s hS => by show rCmp s a b = _; unfold rCmp; rw [bytesE_ok hS ha, bytesE_ok hS hb]) hd hk
theorem One.make {q : MO} {ob : AO} {t : TM} (hq : ∀ fr : Fr, FOk fr f n ds env → toM fr.tm q = some (ob, t)) (hd : dOk n d = true) (hk : K (tellM nx t) ds (upd H nx ob) (nx + 1) none) : One E f n ⟨none, d, .m q⟩ env ds H nx K P := by
 intro fr s hf hS
 obtain ⟨fr', h1⟩ := setT_ok (ds' := ds) (tellM nx t) hf.n hd
 refine ⟨0, .inl ⟨tellM nx t, ds, upd H nx ob, nx + 1, newO s ob, none, fr', ?_, h1, hS.new ob, hk⟩⟩
 have h2 : (⟨fr.fn, fr.tm, fr.n, ds, fr.rd⟩ : Fr) = fr := by rw [← hf.ds]
 rw [h2] at h1
 simp only [oneX, wantB, oneOp, opM, hq fr hf, putF, hS.nx, h1]
theorem One.alc {cs : List Value} {t : TypeId} (hd : dOk n d = true) (hk : K (.pointer (some ⟨nx, 0, none⟩)) ds (upd H nx (.cells cs t 0)) (nx + 1) none) : One E f n ⟨none, d, .m (.alc cs t)⟩ env ds H nx K P :=
 One.make (t := .ptr) (fun fr hf => rfl) hd hk
theorem One.box {x : RP} {t : TypeId} {v : Value} (hx : lookO env x = some v) (ho : (cellsL v).all oneCellB = true) (hd : dOk n d = true) (hk : K (.pointer (some ⟨nx, 0, none⟩)) ds (upd H nx (.cells (cellsL v) t 0)) (nx + 1) none) : One E f n ⟨none, d, .m (.box t x)⟩ env ds H nx K P :=
 One.make (t := .ptr) (fun fr hf => by simp only [toM, hf.o hx, ho, cond_true]) hd hk
theorem One.sl {z cs : List Value} {e : TypeId} {m : Nat} {pl : List (Nat × Nat × RP)} (h : bldE env z pl = some cs) (hd : dOk n d = true) (hk : K (.slice (some ⟨nx, 0, none⟩) m m) ds (upd H nx (.cells cs e 0)) (nx + 1) none) : One E f n ⟨none, d, .m (.sl z e m pl)⟩ env ds H nx K P :=
 One.make (t := .sl m m) (fun fr hf => by simp only [toM, bldE_ok hf h]) hd hk
theorem One.mkS {z : List Value} {e : TypeId} {x y : RP} {k j : IntKind} {a b : Int} {la lb : Nat} (hx : lookO env x = some (.int k a)) (hy : lookO env y = some (.int j b)) (ha : a = (la : Int)) (hb : b = (lb : Int)) (h1 : la ≤ lb) (h2 : lb ≤ 1073741824) (hd : dOk n d = true)
  (hk : K (.slice (some ⟨nx, 0, none⟩) la lb) ds (upd H nx (.cells (repL z lb) e 0)) (nx + 1) none) : One E f n ⟨none, d, .m (.mk z e x y)⟩ env ds H nx K P :=
 One.make (t := .sl la lb) (fun fr hf => by
  subst ha; subst hb
  simp only [toM, hf.o hx, hf.o hy]
  show (bif Nat.ble la lb && Nat.ble lb 1073741824 then _ else _) = _
  rw [show Nat.ble la lb = true from Nat.ble_eq_true_of_le h1, show Nat.ble lb 1073741824 = true from Nat.ble_eq_true_of_le h2]; rfl) hd hk
theorem One.write {q : Eng.WO} {v : Value} {H' : Hp} {nx' : Nat} (hq : ∀ (fr : Fr) s, FOk fr f n ds env → SOk s H nx → ∃ s', runW fr.tm s q = some (v, s') ∧ SOk s' H' nx') (hd : dOk n d = true) (hk : K v ds H' nx' none) : One E f n ⟨none, d, .w q⟩ env ds H nx K P := by
 intro fr s hf hS
 obtain ⟨fr', h1⟩ := setT_ok (ds' := ds) v hf.n hd
 obtain ⟨s', h3, h4⟩ := hq fr s hf hS
 refine ⟨0, .inl ⟨v, ds, H', nx', s', none, fr', ?_, h1, h4, hk⟩⟩
 have h2 : (⟨fr.fn, fr.tm, fr.n, ds, fr.rd⟩ : Fr) = fr := by rw [← hf.ds]
 rw [h2] at h1
 simp only [oneX, wantB, oneOp, opW, h3, putF, h1]
theorem nbeq1 {el : Nat} (h : el ≠ 1) : Nat.beq el 1 = false := by
 cases hb : Nat.beq el 1 with
 | false => rfl
 | true => exact absurd (Nat.eq_of_beq_eq_true hb) h
theorem writeRow_ok {s : St} (hS : SOk s H nx) {b o : Nat} {vs cs cs' : List Value} {e : TypeId} {el : Nat} (hb : H b = some (.cells cs e el)) (hel : el ≠ 1) (h1 : vs.all oneCellB = true) (hl : layL cs o vs = some cs') :
  ∃ s', writeRow s ⟨b, o, none⟩ vs = some s' ∧ SOk s' (upd H b (.cells cs' e el)) nx :=
 ⟨_, by simp only [writeRow, hS.h _ _ hb, nbeq1 hel, cond_false, h1, cond_true, hl], hS.set b _⟩
theorem One.sto {a x : RP} {sz b o : Nat} {v : Value} {cs cs' : List Value} {e : TypeId} {el : Nat} (ha : lookO env a = some (.pointer (some ⟨b, o, none⟩))) (hx : lookO env x = some v) (hb : H b = some (.cells cs e el))
  (hsz : (cellsL v).length = sz) (h1 : (cellsL v).all oneCellB = true) (hl : layL cs o (cellsL v) = some cs') (hd : dOk n d = true) (hk : K undefV ds (upd H b (.cells cs' e el)) nx none) (hel : el ≠ 1 := by decide) : One E f n ⟨none, d, .w (.sto sz a x)⟩ env ds H nx K P :=
 One.write (fun fr s hf hS => by
  obtain ⟨s', h3, h4⟩ := writeRow_ok hS hb hel h1 hl
  refine ⟨s', ?_, h4⟩
  simp only [runW, hf.o ha, hf.o hx, rSto, hsz]
  rw [show Nat.beq sz sz = true from Nat.beq_refl sz, cond_true, h3]) hd hk
noncomputable def srcE (H : Hp) (sz m : Nat) : Value → Option (List Value)
 | .slice none _ _ => if m = 0 then some [] else none
 | .slice (some ⟨b, o, _⟩) _ _ => if m = 0 then some [] else rdR H b o (m * sz)
 | .string b => if sz = 1 then headL (strCells b.data.toList) m else none
 | _ => none
theorem srcE_ok {s : St} (hS : SOk s H nx) {sz m : Nat} {x : Value} {l : List Value} (h : srcE H sz m x = some l) (hsp : ∀ a p q, x = .slice (some a) p q → a.spot = none) : srcCells s sz m x = some l := by
 unfold srcE at h
 unfold srcCells
 split at h
 ·simp only [natBeq]
  by_cases hm : m = 0
  ·rw [if_pos hm] at h; rw [decide_eq_true hm, cond_true]; exact h
  ·rw [if_neg hm] at h; cases h
 ·rename_i b o sp p q
  have hsp' : sp = none := hsp _ _ _ rfl
  subst hsp'
  simp only [natBeq]
  by_cases hm : m = 0
  ·rw [if_pos hm] at h; rw [decide_eq_true hm, cond_true]; exact h
  ·rw [if_neg hm] at h; rw [decide_eq_false hm, cond_false]; exact rdR_ok hS h
 ·simp only [natBeq]
  by_cases hs1 : sz = 1
  ·rw [if_pos hs1] at h; simp [hs1]; exact h
  ·rw [if_neg hs1] at h; cases h
 ·cases h
def newE (H : Hp) (z : List Value) (sz : Nat) (ofInt : Bool) (x : Value) (m : Nat) (l : List Value) : Prop :=
 if ofInt then ∃ k, x = .int k (m : Int) ∧ m ≤ 1073741824 ∧ l = repL z m
 else lenV x = some m ∧ srcE H sz m x = some l ∧ ∀ a p q, x = .slice (some a) p q → a.spot = none
theorem newE_ok {s : St} (hS : SOk s H nx) {z : List Value} {sz : Nat} {i : Bool} {x : Value} {m : Nat} {l : List Value} (h : newE H z sz i x m l) : newOf s z sz i x = some (m, l) := by
 unfold newE at h
 unfold newOf
 cases i with
 | true =>
  obtain ⟨k, rfl, h2, rfl⟩ := h
  show (bif Nat.ble m 1073741824 then _ else _) = _
  rw [show Nat.ble m 1073741824 = true from Nat.ble_eq_true_of_le h2]; rfl
 | false =>
  obtain ⟨h1, h2, h3⟩ := h
  simp only [cond_false, h1, srcE_ok hS h2 h3]
theorem appOut_eq {s s1 : St} {e : TypeId} {sz n need cap : Nat} {sl : Value} {base : Option Addr} {old new : List Value} (h1 : Nat.ble need 1073741824 = true) (h2 : srcCells s sz n sl = some old)
  (h3 : (bif Nat.ble big cap then (bif Nat.beq (esCap cap) sz && new.all oneCellB then dropB s base sz else none) else bif Nat.ble cap 1073741824 then some s else none) = some s1) :
  appOut s e sz sl base n need cap new = some (.slice (some ⟨s1.nx, 0, none⟩) need (big + sz * qq + need), newO s1 (.cells (old ++ new) e (Nat.succ sz))) := by
 unfold appOut
 rw [h1, cond_true, h2]
 simp only
 rw [h3]
theorem One.appI {e : TypeId} {z : List Value} {i : Bool} {x y : RP} {b o m c : Nat} {w : Value} {k : Nat} {new cs cs' : List Value} {e' : TypeId} {el : Nat} (hx : lookO env x = some (.slice (some ⟨b, o, none⟩) m c)) (hy : lookO env y = some w)
  (hn : newE H z z.length i w k new) (hne : new ≠ []) (hroom : m + k ≤ lowCap c) (hb : H b = some (.cells cs e' el)) (h1 : new.all oneCellB = true) (hl : layL cs (o + m * z.length) new = some cs') (hd : dOk n d = true)
  (hk : K (.slice (some ⟨b, o, none⟩) (m + k) c) ds (upd H b (.cells cs' e' el)) nx none) (hel : el ≠ 1 := by decide) : One E f n ⟨none, d, .w (.app e z i x y)⟩ env ds H nx K P :=
 One.write (fun fr s hf hS => by
  obtain ⟨s', h3, h4⟩ := writeRow_ok hS hb hel h1 hl
  refine ⟨s', ?_, h4⟩
  simp only [runW, hf.o hx, hf.o hy, rApp, newE_ok hS hn]
  rw [show Nat.ble (Nat.add m k) (lowCap c) = true from Nat.ble_eq_true_of_le hroom, cond_true]
  have e1 : Nat.add m k = m + k := rfl
  rw [e1]
  cases new with
  | nil => exact absurd rfl hne
  | cons v0 r0 =>
   have e2 : addA ⟨b, o, none⟩ (Nat.mul m z.length) = ⟨b, o + m * z.length, none⟩ := rfl
   simp only [appIn, e2, h3]) hd hk
theorem One.app0 {e : TypeId} {z : List Value} {i : Bool} {x y : RP} {a : Option Addr} {m c : Nat} {w : Value} (hx : lookO env x = some (.slice a m c)) (hy : lookO env y = some w)
  (hn : newE H z z.length i w 0 []) (hroom : m ≤ lowCap c) (hd : dOk n d = true)
  (hk : K (.slice a m c) ds H nx none) : One E f n ⟨none, d, .w (.app e z i x y)⟩ env ds H nx K P :=
 One.write (fun fr s hf hS => by
  refine ⟨s, ?_, hS⟩
  simp only [runW, hf.o hx, hf.o hy, rApp, newE_ok hS hn]
  rw [show Nat.ble (Nat.add m 0) (lowCap c) = true from Nat.ble_eq_true_of_le hroom, cond_true]
  unfold appIn
  cases a <;> rfl) hd hk
theorem One.appO {e : TypeId} {z : List Value} {i : Bool} {x y : RP} {a : Option Addr} {m c : Nat} {w : Value} {k : Nat} {old new : List Value} (hx : lookO env x = some (.slice a m c)) (hy : lookO env y = some w) (hsp : ∀ a', a = some a' → a'.spot = none)
  (hn : newE H z z.length i w k new) (hc : c ≤ 1073741824) (hroom : c < m + k) (hneed : m + k ≤ 1073741824) (ho : srcE H z.length m (.slice a m c) = some old) (hd : dOk n d = true)
  (hk : K (.slice (some ⟨nx, 0, none⟩) (m + k) (big + z.length * qq + (m + k))) ds (upd H nx (.cells (old ++ new) e (z.length + 1))) (nx + 1) none) : One E f n ⟨none, d, .w (.app e z i x y)⟩ env ds H nx K P :=
 One.write (fun fr s hf hS => by
  refine ⟨_, ?_, hS.new _⟩
  simp only [runW, hf.o hx, hf.o hy, rApp, newE_ok hS hn]
  have hcb : c < big := Nat.lt_of_le_of_lt hc (by decide)
  have e1 : Nat.add m k = m + k := rfl
  have e2 : Nat.ble (m + k) c = false := by rw [natBle]; exact decide_eq_false (by omega)
  have e3 : Nat.ble (m + k) 1073741824 = true := Nat.ble_eq_true_of_le hneed
  have e4 : Nat.ble big c = false := by rw [natBle]; exact decide_eq_false (by omega)
  have e5 : Nat.ble c 1073741824 = true := Nat.ble_eq_true_of_le hc
  have e6 := srcE_ok hS ho (fun a' p q h => by injection h with h; exact hsp _ h)
  rw [low_small hcb, e1, e2, cond_false]
  unfold appOut
  rw [e3, cond_true, e6]
  simp only
  rw [e4, cond_false, e5, cond_true]
  simp only [hS.nx]) hd hk
theorem One.appG {e : TypeId} {z : List Value} {i : Bool} {x y : RP} {b o m q : Nat} {w : Value} {k : Nat} {old new cs : List Value} {e' : TypeId} (hx : lookO env x = some (.slice (some ⟨b, o, none⟩) m (big + z.length * qq + q))) (hy : lookO env y = some w)
  (hn : newE H z z.length i w k new) (hq : q ≤ 1073741824) (hroom : q < m + k) (hneed : m + k ≤ 1073741824) (h1 : new.all oneCellB = true) (ho : srcE H z.length m (.slice (some ⟨b, o, none⟩) m (big + z.length * qq + q)) = some old) (hb : H b = some (.cells cs e' (z.length + 1))) (hd : dOk n d = true)
  (hk : K (.slice (some ⟨nx, 0, none⟩) (m + k) (big + z.length * qq + (m + k))) ds (upd (del H b) nx (.cells (old ++ new) e (z.length + 1))) (nx + 1) none) : One E f n ⟨none, d, .w (.app e z i x y)⟩ env ds H nx K P :=
 One.write (fun fr s hf hS => by
  refine ⟨_, ?_, (hS.del b).new _⟩
  obtain ⟨g1, g2, g3⟩ := cap_new (sz := z.length) hq
  simp only [runW, hf.o hx, hf.o hy, rApp, newE_ok hS hn]
  have e1 : Nat.add m k = m + k := rfl
  have e2 : Nat.ble (m + k) q = false := by rw [natBle]; exact decide_eq_false (Nat.not_le_of_lt hroom)
  have e6 := srcE_ok hS ho (fun a' p q h => by injection h with h; injection h with h; subst h; rfl)
  rw [g2, e1, e2, cond_false, appOut_eq (s1 := delS s b) (Nat.ble_eq_true_of_le hneed) e6 (by
   rw [show Nat.ble big (big + z.length * qq + q) = true from Nat.ble_eq_true_of_le g1, cond_true, g3, h1, show Nat.beq z.length z.length = true from Nat.beq_refl _]
   simp only [Bool.and_self, cond_true, dropB, hS.h _ _ hb]
   rw [show Nat.beq (z.length + 1) (Nat.succ z.length) = true from Nat.beq_refl _]
   rfl), delS_nx, hS.nx]) hd hk
theorem One.cpy {sz : Nat} {x y : RP} {b o m c : Nat} {w : Value} {ls k : Nat} {l cs cs' : List Value} {e' : TypeId} {el : Nat} (hx : lookO env x = some (.slice (some ⟨b, o, none⟩) m c)) (hy : lookO env y = some w) (hls : lenV w = some ls)
  (hkk : k = if ls ≤ m then ls else m) (hs : srcE H sz k w = some l) (hsp : ∀ a p q, w = .slice (some a) p q → a.spot = none) (hne : l ≠ []) (hb : H b = some (.cells cs e' el)) (h1 : l.all oneCellB = true) (hl : layL cs o l = some cs') (hd : dOk n d = true)
  (hk : K (.int .i64 (k : Int)) ds (upd H b (.cells cs' e' el)) nx none) (hel : el ≠ 1 := by decide) : One E f n ⟨none, d, .w (.cpy sz x y)⟩ env ds H nx K P :=
 One.write (fun fr s hf hS => by
  obtain ⟨s', h3, h4⟩ := writeRow_ok hS hb hel h1 hl
  refine ⟨s', ?_, h4⟩
  simp only [runW, hf.o hx, hf.o hy, rCpy, hls]
  have : (bif Nat.ble ls m then ls else m) = k := by
   rw [natBle, hkk]
   by_cases h : ls ≤ m <;> simp [h]
  simp only [this, srcE_ok hS hs hsp]
  cases l with
  | nil => exact absurd rfl hne
  | cons v r => simp only [h3]; rfl) hd hk
theorem One.cpy0 {sz : Nat} {x y : RP} {a : Option Addr} {m c : Nat} {w : Value} {ls : Nat} (hx : lookO env x = some (.slice a m c)) (hy : lookO env y = some w) (hls : lenV w = some ls)
  (hkk : ls = 0 ∨ m = 0) (hs : srcE H sz 0 w = some []) (hsp : ∀ a p q, w = .slice (some a) p q → a.spot = none) (hd : dOk n d = true)
  (hk : K (.int .i64 0) ds H nx none) : One E f n ⟨none, d, .w (.cpy sz x y)⟩ env ds H nx K P :=
 One.write (fun fr s hf hS => by
  refine ⟨s, ?_, hS⟩
  simp only [runW, hf.o hx, hf.o hy, rCpy, hls]
  have : (bif Nat.ble ls m then ls else m) = 0 := by
   rw [natBle]
   by_cases h : ls ≤ m <;> simp [h] <;> omega
  simp only [this, srcE_ok hS hs hsp]
  cases a <;> rfl) hd hk
theorem One.cvS {x : RP} {b o m c : Nat} {cs : List Value} {e : TypeId} {el : Nat} (hx : lookO env x = some (.slice (some ⟨b, o, none⟩) m c)) (hb : H b = some (.cells cs e el)) (h : 1 ≤ m ∨ 1 ≤ lowCap c) (hel : el ≠ 1) (hd : dOk n d = true) (hk : K (.slice (some ⟨b, o, none⟩) m c) ds H nx none) : One E f n ⟨none, d, .w (.cvS x)⟩ env ds H nx K P :=
 One.write (fun fr s hf hS => by
  refine ⟨s, ?_, hS⟩
  simp only [runW, hf.o hx, rCvS, hS.h _ _ hb]
  have : (Nat.ble 1 m || Nat.ble 1 (lowCap c)) = true := by
   rw [natBle, natBle]; simp; exact h
  rw [this, nbeq1 hel]; rfl) hd hk
theorem One.gT {g : Nat} {want b : Bool} {o : RO} (hg : look env g = some (.bool b)) (hb : b = want) (h : One E f n ⟨none, d, o⟩ env ds H nx K P) : One E f n ⟨some (g, want), d, o⟩ env ds H nx K P := by
 subst hb
 intro fr s hf hS
 obtain ⟨N, h1⟩ := h fr s hf hS
 refine ⟨N, ?_⟩
 have hw : wantB fr.tm (some (g, b)) = some true := by
  simp only [wantB, hf.tm _ _ hg]; cases b <;> rfl
 have : oneX (ev E N) E.mt fr s ⟨some (g, b), d, o⟩ = oneX (ev E N) E.mt fr s ⟨none, d, o⟩ := by
  simp only [oneX, hw]; rfl
 rw [this]; exact h1
theorem One.gF {g : Nat} {want b : Bool} {o : RO} (hg : look env g = some (.bool b)) (hb : b = !want) (hd : dOk n d = true) (hk : K undefV ds H nx none) : One E f n ⟨some (g, want), d, o⟩ env ds H nx K P := by
 subst hb
 intro fr s hf hS
 obtain ⟨fr', h1⟩ := setT_ok (ds' := ds) undefV hf.n hd
 refine ⟨0, .inl ⟨undefV, ds, H, nx, s, none, fr', ?_, h1, hS, hk⟩⟩
 have h2 : (⟨fr.fn, fr.tm, fr.n, ds, fr.rd⟩ : Fr) = fr := by rw [← hf.ds]
 rw [h2] at h1
 have hw : wantB fr.tm (some (g, want)) = some false := by
  simp only [wantB, hf.tm _ _ hg]; cases want <;> rfl
 simp only [oneX, hw, putF, h1]
theorem One.gU {g : Nat} {want : Bool} {o : RO} (hg : look env g = some undefV) (hd : dOk n d = true) (hk : K undefV ds H nx none) : One E f n ⟨some (g, want), d, o⟩ env ds H nx K P := by
 intro fr s hf hS
 obtain ⟨fr', h1⟩ := setT_ok (ds' := ds) undefV hf.n hd
 refine ⟨0, .inl ⟨undefV, ds, H, nx, s, none, fr', ?_, h1, hS, hk⟩⟩
 have h2 : (⟨fr.fn, fr.tm, fr.n, ds, fr.rd⟩ : Fr) = fr := by rw [← hf.ds]
 rw [h2] at h1
 have hw : wantB fr.tm (some (g, want)) = some false := by
  simp only [wantB, hf.tm _ _ hg]; rfl
 simp only [oneX, hw, putF, h1]
theorem One.gPT {g : Nat} {p : Prop} [Decidable p] {o : RO} (hg : look env g = some (.bool (decide p))) (hp : p) (h : One E f n ⟨none, d, o⟩ env ds H nx K P) : One E f n ⟨some (g, true), d, o⟩ env ds H nx K P := One.gT hg (decide_eq_true hp) h
theorem One.gPF {g : Nat} {p : Prop} [Decidable p] {o : RO} (hg : look env g = some (.bool (decide p))) (hp : ¬ p) (hd : dOk n d = true) (hk : K undefV ds H nx none) : One E f n ⟨some (g, true), d, o⟩ env ds H nx K P := One.gF hg (decide_eq_false hp) hd hk
theorem One.gNT {g : Nat} {p : Prop} [Decidable p] {o : RO} (hg : look env g = some (.bool (decide p))) (hp : ¬ p) (h : One E f n ⟨none, d, o⟩ env ds H nx K P) : One E f n ⟨some (g, false), d, o⟩ env ds H nx K P := One.gT hg (decide_eq_false hp) h
theorem One.gNF {g : Nat} {p : Prop} [Decidable p] {o : RO} (hg : look env g = some (.bool (decide p))) (hp : p) (hd : dOk n d = true) (hk : K undefV ds H nx none) : One E f n ⟨some (g, false), d, o⟩ env ds H nx K P := One.gF hg (decide_eq_true hp) hd hk
theorem ev_val_func {g : FuncId} {a b : Array Value} {l : List Value} {s : St} {N : Nat} : ev E (N + 1) (.val (.func (.func g) a b) l s) = ev E N (.call g (a.toList ++ (l ++ b.toList)) s) := rfl
theorem One.call {x : RP} {args : List RP} {g : FuncId} {a b : List Value} {l : List Value} {Q T : Value → Hp → Nat → Prop} (hx : lookO env x = some (.func (.func g) ⟨a⟩ ⟨b⟩)) (hl : lookL env args = some l) (hs : FnOk E g (a ++ (l ++ b)) H nx Q T) (hd : dOk n d = true)
  (hk : ∀ v H' nx', Q v H' nx' → K v ds H' nx' none) (hp : ∀ v H' nx', T v H' nx' → P v H' nx') : One E f n ⟨none, d, .call x args⟩ env ds H nx K P := by
 intro fr s hf hS
 obtain ⟨N, r, h1, h2⟩ := hs s hS
 have h3 : ev E (N + 1) (.val (.func (.func g) ⟨a⟩ ⟨b⟩) l s) = some r := by rw [ev_val_func]; exact h1
 cases r with
 | val v s' =>
  obtain ⟨H', nx', h4, h5⟩ := h2
  obtain ⟨fr', h6⟩ := setT_ok (ds' := ds) v hf.n hd
  refine ⟨N + 1, .inl ⟨v, ds, H', nx', s', none, fr', ?_, h6, h4, hk _ _ _ h5⟩⟩
  have h7 : (⟨fr.fn, fr.tm, fr.n, ds, fr.rd⟩ : Fr) = fr := by rw [← hf.ds]
  rw [h7] at h6
  simp only [oneX, wantB, oneOp, opC, hf.o hx, hf.l hl, h3, putF, h6]
 | thr v s' =>
  obtain ⟨H', nx', h4, h5⟩ := h2
  refine ⟨N + 1, .inr ⟨v, H', nx', s', ?_, h4, hp _ _ _ h5⟩⟩
  simp only [oneX, wantB, oneOp, opC, hf.o hx, hf.l hl, h3]
 | code e fr s' => exact h2.elim
 | pan fr v s' => exact h2.elim
theorem One.inv {x : RP} {args : List RP} {name : String} {t : TypeId} {u : Value} {g : FuncId} {l : List Value} {Q T : Value → Hp → Nat → Prop} (hx : lookO env x = some (.iface t u)) (hm : E.mt t name = some g) (hl : lookL env args = some l) (hs : FnOk E g (u :: l) H nx Q T) (hd : dOk n d = true)
  (hk : ∀ v H' nx', Q v H' nx' → K v ds H' nx' none) (hp : ∀ v H' nx', T v H' nx' → P v H' nx') : One E f n ⟨none, d, .inv name x args⟩ env ds H nx K P := by
 intro fr s hf hS
 obtain ⟨N, r, h1, h2⟩ := hs s hS
 cases r with
 | val v s' =>
  obtain ⟨H', nx', h4, h5⟩ := h2
  obtain ⟨fr', h6⟩ := setT_ok (ds' := ds) v hf.n hd
  refine ⟨N, .inl ⟨v, ds, H', nx', s', none, fr', ?_, h6, h4, hk _ _ _ h5⟩⟩
  have h7 : (⟨fr.fn, fr.tm, fr.n, ds, fr.rd⟩ : Fr) = fr := by rw [← hf.ds]
  rw [h7] at h6
  simp only [oneX, wantB, oneOp, opI, hf.o hx, hf.l hl, hm, h1, putF, h6]
 | thr v s' =>
  obtain ⟨H', nx', h4, h5⟩ := h2
  refine ⟨N, .inr ⟨v, H', nx', s', ?_, h4, hp _ _ _ h5⟩⟩
  simp only [oneX, wantB, oneOp, opI, hf.o hx, hf.l hl, hm, h1]
 | code e fr s' => exact h2.elim
 | pan fr v s' => exact h2.elim
theorem One.dfr {x : RP} {args : List RP} {g : FuncId} {a b l : List Value} (hx : lookO env x = some (.func (.func g) ⟨a⟩ ⟨b⟩)) (hl : lookL env args = some l) (hd : dOk n d = true)
  (hk : K undefV (⟨.fn (.func g) ⟨b⟩, ⟨a ++ l⟩⟩ :: ds) H nx none) : One E f n ⟨none, d, .dfr x args⟩ env ds H nx K P := by
 intro fr s hf hS
 obtain ⟨fr', h1⟩ := setT_ok (ds' := ⟨.fn (.func g) ⟨b⟩, ⟨a ++ l⟩⟩ :: ds) undefV hf.n hd
 refine ⟨0, .inl ⟨undefV, _, H, nx, s, none, fr', ?_, h1, hS, hk⟩⟩
 obtain ⟨fn, tm, m, defs, rd⟩ := fr
 have hrd : rd = none := hf.rd
 have hds : defs = ds := hf.ds
 have ho := hf.o hx
 have hll := hf.l hl
 subst hrd; subst hds
 simp only at ho hll h1
 simp only [oneX, wantB, oneOp, opD, ho, hll, putF, pushD, h1]
theorem One.rcv (hd : dOk n d = true) (hk : K .nilIface ds H nx none) : One E f n ⟨none, d, .rcv⟩ env ds H nx K P := by
 intro fr s hf hS
 obtain ⟨fr', h1⟩ := setT_ok (ds' := ds) .nilIface hf.n hd
 refine ⟨0, .inl ⟨.nilIface, ds, H, nx, s, none, fr', ?_, h1, hS, hk⟩⟩
 have h2 : (⟨fr.fn, fr.tm, fr.n, ds, fr.rd⟩ : Fr) = fr := by rw [← hf.ds]
 rw [h2] at h1
 simp only [oneX, wantB, oneOp, opR, hf.rd, putF, h1]
theorem One.pnc {x : RP} {t : TypeId} {u : Value} (hx : lookO env x = some (.iface t u)) (hp : P (.iface t u) H nx) : One E f n ⟨none, d, .pnc x⟩ env ds H nx K P := by
 intro fr s hf hS
 refine ⟨0, .inr ⟨.iface t u, H, nx, s, ?_, hS, hp⟩⟩
 simp only [oneX, wantB, oneOp, opN, hf.o hx]
end
end Go.Eng
end
section
namespace Go.Eng
def memB (t : Nat) : List Nat → Bool
 | [] => false
 | a :: r => bif Nat.beq a t then true else memB t r
def envR (ts : List Nat) : TEnv → TEnv
 | [] => []
 | (t, v) :: r => bif memB t ts then (t, v) :: envR ts r else envR ts r
theorem memB_spec {t : Nat} : ∀ {ts : List Nat}, memB t ts = true → t ∈ ts
 | [], h => by cases h
 | a :: r, h => by
  simp only [memB] at h
  cases hb : Nat.beq a t with
  | true => have := Nat.eq_of_beq_eq_true hb; subst this; simp
  | false => rw [hb] at h; exact List.mem_cons_of_mem _ (memB_spec h)
theorem look_envR {ts : List Nat} : ∀ {env : TEnv} {t : Nat} {v : Value}, look (envR ts env) t = some v → t ∈ ts ∧ look env t = some v
 | [], _, _, h => by cases h
 | (a, u) :: r, t, v, h => by
  simp only [envR] at h
  simp only [look]
  cases hm : memB a ts with
  | true =>
   rw [hm, cond_true] at h
   simp only [look] at h
   cases hb : Nat.beq a t with
   | true => rw [hb] at h; have := Nat.eq_of_beq_eq_true hb; subst this; exact ⟨memB_spec hm, h⟩
   | false => rw [hb] at h; exact look_envR h
  | false =>
   rw [hm, cond_false] at h
   obtain ⟨h1, h2⟩ := look_envR h
   cases hb : Nat.beq a t with
   | true =>
    have := Nat.eq_of_beq_eq_true hb; subst this
    have : memB a ts = true := by
     clear h hm h2
     induction ts with
     | nil => cases h1
     | cons x ts ih =>
      simp only [memB]
      cases hx : Nat.beq x a with
      | true => rfl
      | false =>
       cases h1 with
       | head => rw [show Nat.beq a a = true from Nat.beq_refl a] at hx; cases hx
       | tail _ h1 => exact ih h1
    rw [this] at hm; cases hm
   | false => exact ⟨h1, h2⟩
theorem restr_keep (tm : Tr Value) : ∀ (ts : List Nat) (acc : Tr Value) (t : Nat) (v : Value), acc.get t = some v → tm.get t = some v → (restr tm ts acc).get t = some v
 | [], acc, t, v, h, _ => h
 | a :: r, acc, t, v, h, h2 => by
  simp only [restr]
  split
  ·exact restr_keep tm r acc t v h h2
  ·rename_i u hu
   have h3 : (acc.put (some u) a).get t = some v := by
    by_cases ht : t = a
    ·subst ht; rw [h2] at hu; injection hu with hu; subst hu; exact Tr.put_same _ _ _
    ·exact Tr.put_other _ _ _ _ _ ht h
   split
   ·rename_i hp; rw [hp] at h3; cases h3
   ·rename_i hp; rw [← hp]; exact restr_keep tm r _ t v h3 h2
theorem restr_mem (tm : Tr Value) : ∀ (ts : List Nat) (acc : Tr Value) (t : Nat) (v : Value), t ∈ ts → tm.get t = some v → (restr tm ts acc).get t = some v
 | a :: r, acc, t, v, hm, h2 => by
  simp only [restr]
  split
  ·rename_i hn
   cases hm with
   | head => rw [h2] at hn; cases hn
   | tail _ hm => exact restr_mem tm r acc t v hm h2
  ·rename_i u hu
   split
   ·rename_i hp; exact absurd hp put_not_lf
   ·rename_i hp
    rw [← hp]
    cases hm with
    | head => rw [h2] at hu; injection hu with hu; subst hu; exact restr_keep tm r _ _ _ (Tr.put_same _ _ _) h2
    | tail _ hm => exact restr_mem tm r _ t v hm h2
theorem FOk.seen {fr : Fr} {f n : Nat} {ds : List Deferred} {env : TEnv} (h : FOk fr f n ds env) (ts : List Nat) : FOk (seen fr ts) f n ds (envR ts env) :=
 ⟨h.fn, h.n, h.ds, h.rd, fun t v hv => by
  obtain ⟨h1, h2⟩ := look_envR hv
  exact restr_mem _ _ _ _ _ h1 (h.tm t v h2)⟩
theorem eqF_refl (a : Int) : eqF a a = true := by rw [eqF_eq]; simp
theorem veq_int (f : Nat) (k : IntKind) (a : Int) : veq f (.int k a) (.int k a) = true := by
 unfold veq; simp [eqF_refl]
theorem veq_bool (f : Nat) (b : Bool) : veq f (.bool b) (.bool b) = true := by unfold veq; cases b <;> rfl
theorem veq_ptrN (f : Nat) : veq f (.pointer none) (.pointer none) = true := by unfold veq; rfl
theorem veq_ptr (f b o : Nat) : veq f (.pointer (some ⟨b, o, none⟩)) (.pointer (some ⟨b, o, none⟩)) = true := by unfold veq; simp
theorem veq_slN (f m c : Nat) : veq f (.slice none m c) (.slice none m c) = true := by unfold veq; simp
theorem veq_sl (f b o m c : Nat) : veq f (.slice (some ⟨b, o, none⟩) m c) (.slice (some ⟨b, o, none⟩) m c) = true := by unfold veq; simp
theorem veq_nilI (f : Nat) : veq f .nilIface .nilIface = true := by unfold veq; rfl
theorem veq_str (f : Nat) (b : ByteArray) : veq f (.string b) (.string b) = true := by unfold veq; exact beq_self_eq_true _
theorem veq_go_refl (f : Nat) : ∀ {l : List Value}, (∀ v ∈ l, veq f v v = true) → veq.go f l l = true
 | [], _ => rfl
 | v :: r, h => by
  simp only [veq.go, Bool.and_eq_true]
  exact ⟨h v (by simp), veq_go_refl f (fun u hu => h u (by simp [hu]))⟩
theorem veq_agg (f : Nat) {l : List Value} (h : ∀ v ∈ l, veq f v v = true) : veq (f + 1) (.agg ⟨l⟩) (.agg ⟨l⟩) = true := by unfold veq; exact veq_go_refl f h
theorem veq_tup (f : Nat) {l : List Value} (h : ∀ v ∈ l, veq f v v = true) : veq (f + 1) (.tuple ⟨l⟩) (.tuple ⟨l⟩) = true := by unfold veq; exact veq_go_refl f h
def evE (h : Hp) : LD → Option Value
 | .cell g ⟨b, o, none⟩ => ldE h g b o
 | .str v => match bytesE h v with
  | some b => some (.string ⟨⟨b⟩⟩)
  | none => none
 | .cmp a b => match bytesE h a, bytesE h b with
  | some x, some y => some (.int .i64 (cmpU x y))
  | _, _ => none
 | _ => none
theorem evE_ok {s : St} {H : Hp} {nx : Nat} (hS : SOk s H nx) {ld : LD} {v : Value} (h : evE H ld = some v) : evalLD s ld = some v := by
 unfold evE at h
 split at h
 ·exact ldE_ok hS h
 ·split at h
  ·rename_i b hb; simp only [evalLD, rStr, bytesE_ok hS hb]; exact h
  ·cases h
 ·split at h
  ·rename_i x y hx hy; simp only [evalLD, rCmp, bytesE_ok hS hx, bytesE_ok hS hy]; exact h
  ·cases h
 ·cases h
def allE (ld : LD) (v : Value) : List Hp → Prop
 | [] => True
 | h :: r => evE h ld = some v ∧ allE ld v r
def readsE (ws : List (Nat × Nat)) (G : List Hp) : List (Nat × LD × Value) → Prop
 | [] => True
 | (i, ld, v) :: r => (veq 3 v v = true ∧ match ws[i]? with
  | some (lo, hi) => allE ld v ((G.drop lo).take (Nat.sub (Nat.succ hi) lo))
  | none => False) ∧ readsE ws G r
inductive GOk : List St → List Hp → Prop where
 | nil : GOk [] []
 | cons (s : St) (h : Hp) (nx : Nat) (gs : List St) (G : List Hp) (h1 : SOk s h nx) (h2 : GOk gs G) : GOk (s :: gs) (h :: G)
theorem GOk.append {a b : List St} {A B : List Hp} (h : GOk a A) (k : GOk b B) : GOk (a ++ b) (A ++ B) := by
 induction h with
 | nil => exact k
 | cons s h nx gs G h1 h2 ih => exact .cons _ _ _ _ _ h1 ih
theorem GOk.drop {a : List St} {A : List Hp} (h : GOk a A) (i : Nat) : GOk (a.drop i) (A.drop i) := by
 induction i generalizing a A with
 | zero => exact h
 | succ i ih => cases h with
  | nil => simp; exact .nil
  | cons s h nx gs G h1 h2 => simp; exact ih h2
theorem GOk.take {a : List St} {A : List Hp} (h : GOk a A) (i : Nat) : GOk (a.take i) (A.take i) := by
 induction i generalizing a A with
 | zero => simp; exact .nil
 | succ i ih => cases h with
  | nil => simp; exact .nil
  | cons s h nx gs G h1 h2 => simp; exact .cons _ _ _ _ _ h1 (ih h2)
theorem gaps_of {ld : LD} {v : Value} (hv : veq 3 v v = true) {a : List St} {A : List Hp} (h : GOk a A) (he : allE ld v A) : gapsOk ld v a = true := by
 induction h with
 | nil => rfl
 | cons s h nx gs G h1 h2 ih =>
  simp only [gapsOk, evE_ok h1 he.1, hv, ih he.2]; rfl
theorem reads_of {ws : List (Nat × Nat)} {gs : List St} {G : List Hp} (h : GOk gs G) : ∀ {L : List (Nat × LD × Value)}, readsE ws G L → readsOk ws gs L = true
 | [], _ => rfl
 | (i, ld, v) :: r, hr => by
  obtain ⟨⟨h1, h2⟩, h3⟩ := hr
  simp only [readsOk, reads_of h h3, Bool.and_true]
  split at h2
  ·rename_i lo hi hw; simp only [hw]; exact gaps_of h1 ((h.drop lo).take _) h2
  ·exact h2.elim
section
variable {E : Env} {f n : Nat}
def WD (E : Env) (f n : Nat) (ops : List Oper) (ws : List (Nat × Nat)) (xs : List (RX × List Nat)) (i : Nat) (env : TEnv) (ds : List Deferred) (H : Hp) (nx : Nat) (G : List Hp) (L : List (Nat × LD × Value)) (K : TEnv → Hp → Nat → Prop) (P : Value → Hp → Nat → Prop) : Prop :=
 ∀ fr s gs, FOk fr f n ds env → SOk s H nx → GOk gs G → ∃ N,
  (∃ fr' s' ls' gs' env' H' nx', drawOps (ev E N) E.mt xs i fr s L gs = .ok fr' s' ls' gs' ∧ readsOk ws gs' ls' = true ∧ FOk fr' f n ds env' ∧ SOk s' H' nx' ∧ K env' H' nx') ∨
  (∃ v s' ls' gs' j H' nx', drawOps (ev E N) E.mt xs i fr s L gs = .pan v s' ls' gs' j ∧ readsOk ws gs' ls' = true ∧ lastB ops j = true ∧ SOk s' H' nx' ∧ P v H' nx')
variable {ops : List Oper} {ws : List (Nat × Nat)} {xs : List (RX × List Nat)} {i : Nat} {env : TEnv} {ds : List Deferred} {H : Hp} {nx : Nat} {G : List Hp} {L : List (Nat × LD × Value)} {K : TEnv → Hp → Nat → Prop} {P : Value → Hp → Nat → Prop}
theorem WD.nil (hr : readsE ws G L) (h : K env H nx) : WD E f n ops ws [] i env ds H nx G L K P := fun fr s gs hf hS hG =>
 ⟨0, .inl ⟨fr, s, L, gs, env, H, nx, rfl, reads_of hG hr, hf, hS, h⟩⟩
theorem WD.cons {x : RX} {ts : List Nat} (h : One E f n x (envR ts env) ds H nx
  (fun v _ H' nx' rd => match rd with
   | none => WD E f n ops ws xs (i + 1) (putE x.d v env) ds H' nx' (bif x.o.loud then G ++ [H'] else G) L K P
   | some ld => x.d.isSome = true ∧ WD E f n ops ws xs (i + 1) (putE x.d v env) ds H' nx' G ((i, ld, v) :: L) K P)
  (fun v H' nx' => readsE ws G L ∧ lastB ops i = true ∧ P v H' nx')) : WD E f n ops ws ((x, ts) :: xs) i env ds H nx G L K P := by
 intro fr s gs hf hS hG
 obtain ⟨N, ⟨v, ds', H', nx', s', rd, fr1, h1, h2, h3, h4⟩ | ⟨v, H', nx', s', h1, h2, h3⟩⟩ := h (seen fr ts) s (hf.seen ts) hS
 ·have hD : ∃ fr2, (∀ M, N ≤ M → oneD (ev E M) E.mt ts fr s x = .ok fr2 s' rd) ∧ FOk fr2 f n ds (putE x.d v env) ∧ (∀ d p, x.d = some (d, p) → fr2.tm.get p = some v) := by
   obtain ⟨fn, tm, m, defs, rd0⟩ := fr
   cases hd : x.d with
   | none =>
    refine ⟨⟨fn, tm, m, defs, rd0⟩, fun M hM => ?_, hf, fun d p h => by cases h⟩
    have := oneX_le (ev_le E hM) h1 (by simp)
    simp only [seen] at this
    simp only [oneD, this, hd]
   | some dp =>
    obtain ⟨d, p⟩ := dp
    rw [hd] at h2
    obtain ⟨q1, q2⟩ := setT_spec h2
    have hlt : d < m := q1
    refine ⟨⟨fn, tm.put (some v) p, m, defs, rd0⟩, fun M hM => ?_, hf.put v, fun d' p' h => by injection h with h; injection h with h h'; subst h'; exact Tr.put_same _ _ _⟩
    have := oneX_le (ev_le E hM) h1 (by simp)
    simp only [seen] at this
    have hg : fr1.tm.get p = some v := by rw [q2]; exact Tr.put_same _ _ _
    have hset := setT_eq (fr := ⟨fn, tm, m, defs, rd0⟩) (d := d) (p := p) (v := v) hlt
    simp only [oneD, this, hd, hg, putF, hset]
  obtain ⟨fr2, k1, k2, k3⟩ := hD
  cases rd with
  | none =>
   have hG' : GOk (bif x.o.loud then gs ++ [s'] else gs) (bif x.o.loud then G ++ [H'] else G) := by
    cases x.o.loud with
    | true => exact hG.append (.cons _ _ _ _ _ h3 .nil)
    | false => exact hG
   obtain ⟨M, h5⟩ := h4 fr2 s' _ k2 h3 hG'
   refine ⟨Nat.max N M, ?_⟩
   have e1 := k1 (Nat.max N M) (Nat.le_max_left N M)
   have e2 : drawOps (ev E (Nat.max N M)) E.mt ((x, ts) :: xs) i fr s L gs = drawOps (ev E (Nat.max N M)) E.mt xs (Nat.succ i) fr2 s' L (bif x.o.loud then gs ++ [s'] else gs) := by
    simp only [drawOps, e1]
   rw [e2]
   rcases h5 with ⟨a, b, c, d, e, H2, nx2, h6, h7⟩ | ⟨a, b, c, d, e, H2, nx2, h6, h7⟩
   ·exact .inl ⟨a, b, c, d, e, H2, nx2, drawOps_le (ev_le E (Nat.le_max_right N M)) h6 (by simp), h7⟩
   ·exact .inr ⟨a, b, c, d, e, H2, nx2, drawOps_le (ev_le E (Nat.le_max_right N M)) h6 (by simp), h7⟩
  | some ld =>
   obtain ⟨hds, h4⟩ := h4
   cases hd : x.d with
   | none => rw [hd] at hds; cases hds
   | some dp =>
    obtain ⟨d, p⟩ := dp
    obtain ⟨M, h5⟩ := h4 fr2 s' gs k2 h3 hG
    refine ⟨Nat.max N M, ?_⟩
    have e1 := k1 (Nat.max N M) (Nat.le_max_left N M)
    have e2 : drawOps (ev E (Nat.max N M)) E.mt ((x, ts) :: xs) i fr s L gs = drawOps (ev E (Nat.max N M)) E.mt xs (Nat.succ i) fr2 s' ((i, ld, v) :: L) gs := by
     simp only [drawOps, e1, readOf, hd, k3 d p hd]
    rw [e2]
    rcases h5 with ⟨a, b, c, d, e, H2, nx2, h6, h7⟩ | ⟨a, b, c, d, e, H2, nx2, h6, h7⟩
    ·exact .inl ⟨a, b, c, d, e, H2, nx2, drawOps_le (ev_le E (Nat.le_max_right N M)) h6 (by simp), h7⟩
    ·exact .inr ⟨a, b, c, d, e, H2, nx2, drawOps_le (ev_le E (Nat.le_max_right N M)) h6 (by simp), h7⟩
 ·refine ⟨N, .inr ⟨v, s', L, gs, i, H', nx', ?_, reads_of hG h3.1, h3.2.1, h2, h3.2.2⟩⟩
  obtain ⟨fn, tm, m, defs, rd0⟩ := fr
  simp only [seen] at h1
  simp only [drawOps, oneD, h1]
def dropE (env : TEnv) (ts : List Nat) : TEnv := match env with
 | [] => []
 | (t, v) :: r => bif memB t ts then dropE r ts else (t, v) :: dropE r ts
theorem dropT_keep : ∀ (ts : List Nat) (tm : Tr Value) {t : Nat} {v : Value}, t ∉ ts → tm.get t = some v → (dropT tm ts).get t = some v
 | [], tm, t, v, _, h => h
 | a :: r, tm, t, v, hn, h => by
  simp only [List.mem_cons, not_or] at hn
  exact dropT_keep r _ hn.2 (Tr.put_other _ _ _ _ _ hn.1 h)
theorem memB_mem {t : Nat} : ∀ {ts : List Nat}, t ∈ ts → memB t ts = true
 | x :: ts, h => by
  simp only [memB]
  cases hx : Nat.beq x t with
  | true => rfl
  | false =>
   cases h with
   | head => rw [show Nat.beq t t = true from Nat.beq_refl t] at hx; cases hx
   | tail _ h => exact memB_mem h
theorem look_dropE {ts : List Nat} : ∀ {env : TEnv} {t : Nat} {v : Value}, look (dropE env ts) t = some v → t ∉ ts ∧ look env t = some v
 | [], _, _, h => by cases h
 | (a, u) :: r, t, v, h => by
  simp only [dropE] at h
  cases hm : memB a ts with
  | true =>
   rw [hm, cond_true] at h
   obtain ⟨h1, h2⟩ := look_dropE h
   refine ⟨h1, ?_⟩
   simp only [look]
   cases hb : Nat.beq a t with
   | true => have := Nat.eq_of_beq_eq_true hb; subst this; exact absurd (memB_spec hm) h1
   | false => exact h2
  | false =>
   rw [hm, cond_false] at h
   simp only [look] at h ⊢
   cases hb : Nat.beq a t with
   | true =>
    rw [hb] at h; have := Nat.eq_of_beq_eq_true hb; subst this
    exact ⟨(fun hh => by rw [memB_mem hh] at hm; cases hm), h⟩
   | false => rw [hb] at h; exact look_dropE h
theorem WC.regionT {id : Nat} {ops : Array Oper} {l : List RX} {ws : List (Nat × Nat)} {xs : List (RX × List Nat)} {Q : Ex → TEnv → List Deferred → Hp → Nat → Prop} {P : Value → TEnv → List Deferred → Hp → Nat → Prop} (hc : compD E ops.toList = some (l, ws)) (hx : l.zip (ops.toList.map (opTmps ops.toList)) = xs)
  (h : WD E f n ops.toList ws xs 0 env ds H nx [H] [] (fun env H nx => Q .normal env ds H nx) (fun v H' nx' => P v (dropE env (ops.toList.filterMap (·.dst))) ds H' nx')) : WC E f n (.region id ops true) env ds H nx Q P := by
 intro fr s hf hS
 obtain ⟨N, h⟩ := h fr s [s] hf hS (.cons _ _ _ _ _ hS .nil)
 have key : ev E (N + 1) (.code (.region id ops true) fr s) = Go.Eng.regionT E (ev E N) ops.toList fr s := rfl
 rcases h with ⟨fr', s', ls', gs', env', H', nx', h1, h2, h3, h4, h5⟩ | ⟨v, s', ls', gs', j, H', nx', h1, h2, h3, h4, h5⟩
 ·refine ⟨N + 1, .code .normal fr' s', ?_, env', ds, H', nx', h3, h4, h5⟩
  rw [key]; unfold Go.Eng.regionT; rw [hc]; simp only [hx, h1, h2, cond_true]
 ·refine ⟨N + 1, .pan (dropF fr (ops.toList.filterMap (·.dst))) v s', ?_, _, ds, H', nx', ?_, h4, h5⟩
  ·rw [key]; unfold Go.Eng.regionT; rw [hc]; simp only [hx, h1, h2, h3, Bool.and_self, cond_true]
  ·obtain ⟨fn, tm, m, defs, rd0⟩ := fr
   refine ⟨hf.fn, hf.n, hf.ds, hf.rd, fun t u hu => ?_⟩
   obtain ⟨q1, q2⟩ := look_dropE hu
   exact dropT_keep _ _ q1 (hf.tm t u q2)
theorem WC.seqT {id : Nat} {ops : Array Oper} {l : List RX} {ws : List (Nat × Nat)} {xs : List (RX × List Nat)} {b : Code} {Q : Ex → TEnv → List Deferred → Hp → Nat → Prop} {P : Value → TEnv → List Deferred → Hp → Nat → Prop} (hc : compD E ops.toList = some (l, ws)) (hx : l.zip (ops.toList.map (opTmps ops.toList)) = xs)
  (h : WD E f n ops.toList ws xs 0 env ds H nx [H] [] (fun env H nx => WC E f n b env ds H nx Q P) (fun v H' nx' => P v (dropE env (ops.toList.filterMap (·.dst))) ds H' nx')) : WC E f n (.seq (.region id ops true) b) env ds H nx Q P :=
 WC.seq (WC.regionT hc hx h)
def argE : List Value → Nat → TEnv
 | [], _ => []
 | v :: r, i => (i, v) :: argE r (i + 1)
theorem argsT_keep : ∀ (l : List Value) (i : Nat) (t : Tr Value) {j : Nat} {v : Value}, j < i → t.get j = some v → (argsT l i t).get j = some v
 | [], _, _, _, _, _, h => h
 | u :: r, i, t, j, v, hj, h => by
  have h1 : (argsT r (Nat.succ i) (t.put (some u) i)).get j = some v := argsT_keep r _ _ (by omega) (Tr.put_other _ _ _ _ _ (by omega) h)
  simp only [argsT]
  split <;> (rename_i hp; rw [← hp]; exact h1)
theorem argsT_look : ∀ (l : List Value) (i : Nat) (t : Tr Value) {j : Nat} {v : Value}, look (argE l i) j = some v → (argsT l i t).get j = some v
 | [], _, _, _, _, h => by cases h
 | u :: r, i, t, j, v, h => by
  have h1 : (argsT r (Nat.succ i) (t.put (some u) i)).get j = some v := by
   simp only [argE, look] at h
   cases hb : Nat.beq i j with
   | true =>
    rw [hb] at h; have := Nat.eq_of_beq_eq_true hb; subst this
    injection h with h; subst h
    exact argsT_keep r _ _ (by omega) (Tr.put_same _ _ _)
   | false => rw [hb] at h; exact argsT_look r _ _ h
  simp only [argsT]
  split <;> (rename_i hp; rw [← hp]; exact h1)
theorem FOk.enter (g m : Nat) (args : List Value) : FOk ⟨g, argsT args 0 .lf, m, [], none⟩ g m [] (argE args 0) := ⟨rfl, rfl, rfl, rfl, fun _ _ h => argsT_look _ _ _ h⟩
def resE (E : Env) (env : TEnv) (H : Hp) : List ResultVar → Option (List Value)
 | [] => some []
 | .tmp t :: r => match look env t, resE E env H r with
  | some v, some l => some (v :: l)
  | _, _ => none
 | .cell a t :: r => match look env a, aggT E t, resE E env H r with
  | some (.pointer (some ⟨b, o, none⟩)), some g, some l => match ldE H g b o with
   | some v => some (v :: l)
   | none => none
  | _, _, _ => none
theorem resE_ok {fr : Fr} {s : St} {env : TEnv} (hf : FOk fr f n ds env) (hS : SOk s H nx) : ∀ {rs : List ResultVar} {l : List Value}, resE E env H rs = some l → resultsV E fr s rs = some l
 | [], l, h => h
 | .tmp t :: r, l, h => by
  simp only [resE] at h
  split at h
  ·rename_i v l' hv hl
   simp only [resultsV, hf.tm _ _ hv, resE_ok hf hS hl]; exact h
  ·cases h
 | .cell a t :: r, l, h => by
  simp only [resE] at h
  split at h
  ·rename_i b o g l' hv hg hl
   split at h
   ·rename_i v hld
    simp only [resultsV, hf.tm _ _ hv, hg, resE_ok hf hS hl, ldE_ok hS hld]; exact h
   ·cases h
  ·cases h
def Arm (E : Env) (g : FuncId) (args : List Value) (v : Value) (H : Hp) (nx : Nat) (Q : Hp → Nat → Prop) : Prop :=
 ∃ fg, E.ft g = some fg ∧ ∀ s, SOk s H nx → ∃ N s', armedF E (ev E N) g fg args v s = some s' ∧ ∃ H' nx', SOk s' H' nx' ∧ Q H' nx'
def EndOk (E : Env) (fn : Func) (Q : Value → Hp → Nat → Prop) (env : TEnv) (ds : List Deferred) (H : Hp) (nx : Nat) : Prop :=
 (ds = [] ∧ ∃ l, resE E env H fn.results.toList = some l ∧ ∃ H0, HSub H0 H ∧ Q (oneV l) H0 nx) ∨
 (∃ g c a, ds = [⟨.fn (.func g) ⟨c⟩, ⟨a⟩⟩] ∧ E.sm g = none ∧ FnOk E g (a ++ c) H nx (fun _ H' nx' => ∃ l, resE E env H' fn.results.toList = some l ∧ Q (oneV l) H' nx') (fun _ _ _ => False))
theorem HSub.refl (H : Hp) : HSub H H := fun _ _ h => h
theorem HSub.trans {A B C : Hp} (h : HSub A B) (k : HSub B C) : HSub A C := fun i o ho => k i o (h i o ho)
def HB (H : Hp) (nx : Nat) : Prop := ∀ id o, H id = some o → id < nx
theorem HB.mono {H : Hp} {n m : Nat} (h : HB H n) (hm : n ≤ m) : HB H m := fun i o ho => Nat.lt_of_lt_of_le (h i o ho) hm
theorem HB.upd {H : Hp} {n b : Nat} {o : AO} (h : HB H n) (hb : b < n) : HB (Eng.upd H b o) n := fun i o' ho => by
 by_cases hi : i = b
 ·omega
 ·rw [upd_ne hi] at ho; exact h i o' ho
theorem HB.new {H : Hp} {n : Nat} {o : AO} (h : HB H n) : HB (Eng.upd H n o) (n + 1) := (h.mono (Nat.le_succ n)).upd (Nat.lt_succ_self n)
theorem HB.del {H : Hp} {n b : Nat} (h : HB H n) : HB (Eng.del H b) n := fun i o' ho => by
 by_cases hi : i = b
 ·subst hi; simp [Eng.del] at ho
 ·rw [del_ne hi] at ho; exact h i o' ho
theorem HSub.new {H A : Hp} {n b : Nat} {o : AO} (h : HB H n) (hb : n ≤ b) (hs : HSub H A) : HSub H (Eng.upd A b o) := fun i o' ho => by
 have := h i o' ho
 rw [upd_ne (by omega)]; exact hs i o' ho
theorem HSub.del {H A : Hp} {n b : Nat} (h : HB H n) (hb : n ≤ b) (hs : HSub H A) : HSub H (Eng.del A b) := fun i o' ho => by
 have := h i o' ho
 rw [del_ne (by omega)]; exact hs i o' ho
theorem HSub.upd {A B : Hp} {b : Nat} {o : AO} (hs : HSub A B) : HSub (Eng.upd A b o) (Eng.upd B b o) := fun i o' ho => by
 by_cases hi : i = b
 ·subst hi; rw [upd_eq] at ho ⊢; exact ho
 ·rw [upd_ne hi] at ho ⊢; exact hs i o' ho
theorem EndOk.now {fn : Func} {Q : Value → Hp → Nat → Prop} {l : List Value} (hd : ds = []) (hl : resE E env H fn.results.toList = some l) (hq : Q (oneV l) H nx) : EndOk E fn Q env ds H nx := .inl ⟨hd, l, hl, H, HSub.refl H, hq⟩
theorem EndOk.less {fn : Func} {Q : Value → Hp → Nat → Prop} {l : List Value} {H0 : Hp} (hd : ds = []) (hl : resE E env H fn.results.toList = some l) (hs : HSub H0 H) (hq : Q (oneV l) H0 nx) : EndOk E fn Q env ds H nx := .inl ⟨hd, l, hl, H0, hs, hq⟩
def PanEnd (E : Env) (fn : Func) (Q P : Value → Hp → Nat → Prop) (v : Value) (env : TEnv) (ds : List Deferred) (H : Hp) (nx : Nat) : Prop :=
 (ds = [] ∧ P v H nx) ∨
 (∃ g c a, ds = [⟨.fn (.func g) ⟨c⟩, ⟨a⟩⟩] ∧ E.sm g = none ∧ Arm E g (a ++ c) v H nx (fun H' nx' => ∃ l, resE E env H' fn.results.toList = some l ∧ Q (oneV l) H' nx'))
theorem armedF_up {g : FuncId} {fg : Func} {args : List Value} {v : Value} {s s' : St} {N M : Nat} (h : N ≤ M) (ha : armedF E (ev E N) g fg args v s = some s') : armedF E (ev E M) g fg args v s = some s' := armedF_le (ev_le E h) ha
theorem FnOk.of {g : FuncId} {fn : Func} {c : Code} {args : List Value} {Q P : Value → Hp → Nat → Prop} (hsm : E.sm g = none) (hft : E.ft g = some fn) (hb : fn.body = some c) (hle : Nat.ble args.length fn.ntmps = true)
  (h : WC E g fn.ntmps c (argE args 0) [] H nx (fun e env ds H nx => match e with
   | .exit _ => False
   | _ => EndOk E fn Q env ds H nx) (PanEnd E fn Q P)) : FnOk E g args H nx Q P := by
 intro s hS
 obtain ⟨N, r, h1, h2⟩ := h _ s (FOk.enter g fn.ntmps args) hS
 have key : ∀ M, ev E (M + 1) (.call g args s) = (match ev E M (.code c ⟨g, argsT args 0 .lf, fn.ntmps, [], none⟩ s) with
   | some (.code e fr s) => endCall E (ev E M) fn e fr s
   | some (.pan fr v s) => endPan E (ev E M) fn fr v s
   | _ => none) := by
  intro M
  show callF E (ev E M) g args s = _
  simp only [callF, hsm, hft, enterF, hb, hle, cond_true]
  rfl
 cases r with
 | code e fr s1 =>
  obtain ⟨env1, ds1, H1, nx1, k1, k2, k3⟩ := h2
  have k3 : (∀ id, e ≠ .exit id) ∧ EndOk E fn Q env1 ds1 H1 nx1 := by
   cases e with
   | exit id => exact k3.elim
   | normal => exact ⟨fun _ => by simp, k3⟩
   | ret => exact ⟨fun _ => by simp, k3⟩
  obtain ⟨hne, k3⟩ := k3
  have hend : ∀ M, endCall E (ev E M) fn e fr s1 = (match runDefers E (ev E M) fr.defs s1 with
    | none => none
    | some s => match resultsV E fr s fn.results.toList with
     | none => none
     | some l => some (.val (oneV l) s)) := by
   intro M
   cases e with
   | exit id => exact absurd rfl (hne id)
   | normal => rfl
   | ret => rfl
  rcases k3 with ⟨hds, l, hl, H0, hsub, hq⟩ | ⟨g', c', a', hds, hsm', hsp⟩
  ·refine ⟨N + 1, .val (oneV l) s1, ?_, H0, nx1, k2.sub hsub, hq⟩
   rw [key, h1]
   simp only [hend, k1.ds, hds, runDefers, resE_ok k1 k2 hl]
  ·obtain ⟨M, r2, h3, h4⟩ := hsp s1 k2
   cases r2 with
   | val v2 s2 =>
    obtain ⟨H2, nx2, h5, l, hl, hq⟩ := h4
    refine ⟨Nat.max N M + 1, .val (oneV l) s2, ?_, H2, nx2, h5, hq⟩
    rw [key, ev_le E (Nat.le_max_left N M) _ _ h1]
    simp only [hend, k1.ds, hds, runDefers, hsm', ev_le E (Nat.le_max_right N M) _ _ h3, resE_ok k1 h5 hl]
   | thr v2 s2 => obtain ⟨_, _, _, h⟩ := h4; exact h.elim
   | code e2 fr2 s2 => exact h4.elim
   | pan fr2 v2 s2 => exact h4.elim
 | pan fr v s1 =>
  obtain ⟨env1, ds1, H1, nx1, k1, k2, k3⟩ := h2
  rcases k3 with ⟨hds, hp⟩ | ⟨g', c', a', hds, hsm', fg, hfg, harm⟩
  ·refine ⟨N + 1, .thr v s1, ?_, H1, nx1, k2, hp⟩
   rw [key, h1]
   simp only [endPan, k1.ds, hds]
  ·obtain ⟨M, s2, h3, H2, nx2, h5, l, hl, hq⟩ := harm s1 k2
   refine ⟨Nat.max N M + 1, .val (oneV l) s2, ?_, H2, nx2, h5, hq⟩
   rw [key, ev_le E (Nat.le_max_left N M) _ _ h1]
   simp only [endPan, k1.ds, hds, hsm', hfg, armedF_up (Nat.le_max_right N M) h3, resE_ok k1 h5 hl]
 | val v s1 => exact h2.elim
 | thr v s1 => exact h2.elim
theorem Arm.of {g : FuncId} {fg : Func} {id : Nat} {ops : Array Oper} {rest : Code} {d : Option (Nat × Nat)} {xs : List RX} {args : List Value} {v : Value} {Q : Hp → Nat → Prop} (hft : E.ft g = some fg) (hb : fg.body = some (.seq (.region id ops false) rest)) (hle : Nat.ble args.length fg.ntmps = true)
  (hc : compR E ops.toList ops.toList = some (⟨none, d, .rcv⟩ :: xs)) (hd : dOk fg.ntmps d = true)
  (h : WS E g fg.ntmps xs (putE d v (argE args 0)) [] H nx (fun env ds H nx => WC E g fg.ntmps rest env ds H nx (fun e env ds H nx => match e with
   | .exit _ => False
   | _ => ds = [] ∧ (∃ l, resE E env H fg.results.toList = some l) ∧ Q H nx) (fun _ _ _ _ _ => False)) (fun _ _ _ _ _ => False)) : Arm E g args v H nx Q := by
 refine ⟨fg, hft, fun s hS => ?_⟩
 have hf0 := FOk.enter g fg.ntmps args
 obtain ⟨fr1, hset⟩ := setT_ok (fr := ⟨g, argsT args 0 .lf, fg.ntmps, [], none⟩) (ds' := []) (n := fg.ntmps) (d := d) v rfl hd
 have hf1 := hf0.set hset
 obtain ⟨N, r, h1, h2⟩ := h fr1 s hf1 hS
 cases r with
 | code e fr2 s2 =>
  obtain ⟨env2, ds2, H2, nx2, k1, k2, rfl, k3⟩ := h2
  obtain ⟨M, r2, h3, h4⟩ := k3 fr2 s2 k1 k2
  cases r2 with
  | code e3 fr3 s3 =>
   obtain ⟨env3, ds3, H3, nx3, m1, m2, m3⟩ := h4
   have m3 : (∀ id, e3 ≠ .exit id) ∧ ds3 = [] ∧ (∃ l, resE E env3 H3 fg.results.toList = some l) ∧ Q H3 nx3 := by
    cases e3 with
    | exit id => exact m3.elim
    | normal => exact ⟨fun _ => by simp, m3⟩
    | ret => exact ⟨fun _ => by simp, m3⟩
   obtain ⟨hne, hds, ⟨l, hl⟩, hq⟩ := m3
   refine ⟨Nat.max N M, s3, ?_, H3, nx3, m2, hq⟩
   have e1 : armedC E (ev E (Nat.max N M)) v ⟨g, argsT args 0 .lf, fg.ntmps, [], none⟩ s (.seq (.region id ops false) rest) = some (.code e3 fr3 s3) := by
    simp only [armedC, cond_false, hc, armedSeq, hset, seqOps_le (ev_le E (Nat.le_max_left N M)) h1, thenC]
    exact ev_le E (Nat.le_max_right N M) _ _ h3
   simp only [armedF, hb, hle, cond_true, e1, endArmed]
   cases e3 with
   | exit id => exact absurd rfl (hne id)
   | normal => simp only [m1.ds, hds, resE_ok m1 m2 hl]
   | ret => simp only [m1.ds, hds, resE_ok m1 m2 hl]
  | pan fr3 v3 s3 => obtain ⟨_, _, _, _, _, _, h⟩ := h4; exact h.elim
  | val v3 s3 => exact h4.elim
  | thr v3 s3 => exact h4.elim
 | pan fr2 v2 s2 => obtain ⟨_, _, _, _, _, _, h⟩ := h2; exact h.elim
 | val v2 s2 => exact h2.elim
 | thr v2 s2 => exact h2.elim
theorem FnOk.sum {g : FuncId} {F : List Value → St → Option (Value × St)} {args : List Value} {Q P : Value → Hp → Nat → Prop} (hsm : E.sm g = some F) (h : ∀ s, SOk s H nx → ∃ v s' H' nx', F args s = some (v, s') ∧ SOk s' H' nx' ∧ Q v H' nx') : FnOk E g args H nx Q P := by
 intro s hS
 obtain ⟨v, s', H', nx', h1, h2, h3⟩ := h s hS
 refine ⟨1, .val v s', ?_, H', nx', h2, h3⟩
 show callF E (ev E 0) g args s = _
 simp only [callF, hsm, h1, sumF]
end
end Go.Eng
end
section
namespace Go.Eng
section
variable {P : Program}
theorem eqCells_append : ∀ {k1 k2 : List CK} {a b : List Value} {r : Bool}, eqCells (k1 ++ k2) a b = some r →
  ∃ r1 r2, eqCells k1 (a.take k1.length) (b.take k1.length) = some r1 ∧ eqCells k2 (a.drop k1.length) (b.drop k1.length) = some r2 ∧ r = (r1 && r2)
 | [], k2, a, b, r, h => ⟨true, r, by simp [eqCells], by simpa using h, by simp⟩
 | c :: k1, k2, [], b, r, h => by cases b <;> cases h
 | c :: k1, k2, x :: a, [], r, h => by cases h
 | c :: k1, k2, x :: a, y :: b, r, h => by
  simp only [List.cons_append, eqCells] at h
  cases hc : eqCell c x y with
  | none => rw [hc] at h; cases h
  | some t =>
   cases hr : eqCells (k1 ++ k2) a b with
   | none => rw [hc, hr] at h; cases h
   | some u =>
    rw [hc, hr] at h
    injection h with h
    obtain ⟨r1, r2, h1, h2, h3⟩ := eqCells_append hr
    refine ⟨t && r1, r2, ?_, ?_, ?_⟩
    ·simp only [List.length_cons, List.take_succ_cons, eqCells, hc, h1]
    ·simpa using h2
    ·rw [← h, h3, Bool.and_assoc]
theorem eqCells_len : ∀ {k : List CK} {a b : List Value} {r : Bool}, eqCells k a b = some r → a.length = k.length ∧ b.length = k.length
 | [], [], [], r, h => ⟨rfl, rfl⟩
 | [], _ :: _, _, r, h => by cases h
 | [], [], _ :: _, r, h => by cases h
 | _ :: _, [], _, r, h => by cases h
 | _ :: _, _ :: _, [], r, h => by cases h
 | c :: k, x :: a, y :: b, r, h => by
  simp only [eqCells] at h
  split at h
  ·cases h
  ·split at h
   ·cases h
   ·rename_i hr
    obtain ⟨h1, h2⟩ := eqCells_len hr
    simp [h1, h2]
def FlatAt (P : Program) (d : Nat) (t : TypeId) (ks : List CK) : Prop :=
 (∀ w, (sizeOf t).run P w = .ok ks.length w) ∧
 (((∀ w, (isAgg t).run P w = .ok true w) ∧ ∀ a b r w, eqCells ks a b = some r → (Op.equalIn d t (.agg ⟨a⟩) (.agg ⟨b⟩)).run P w = .ok r w) ∨
  ((∀ w, (isAgg t).run P w = .ok false w) ∧ ∃ c, ks = [c] ∧ ∀ x y r w, eqCell c x y = some r → (Op.equalIn d t x y).run P w = .ok r w))
theorem flat_int {t : TypeId} {i : TypeInfo} {k : IntKind} (d : Nat) (hi : P.info? t = some i) (hs : i.size = 1) (hu : P.underlying t = some (.int k)) : FlatAt P (d + 1) t [.i k] := by
 refine ⟨fun w => by simp [sizeOf, typeInfo, hi, hs], .inr ⟨fun w => by simp [isAgg, underlying, hu], .i k, rfl, ?_⟩⟩
 intro x y r w h
 cases x <;> first | cases h | skip
 rename_i k1 a
 cases y <;> first | cases h | skip
 rename_i k2 b
 obtain ⟨h1, h2⟩ : (Nat.beq (kNum k1) (kNum k) && Nat.beq (kNum k2) (kNum k)) = true ∧ eqF a b = r := by
  simp only [eqCell] at h
  cases hb : (Nat.beq (kNum k1) (kNum k) && Nat.beq (kNum k2) (kNum k)) with
  | false => rw [hb] at h; cases h
  | true => rw [hb] at h; injection h with h; exact ⟨rfl, h⟩
 simp only [Bool.and_eq_true] at h1
 have e1 := kNum_inj h1.1
 have e2 := kNum_inj h1.2
 subst e1; subst e2
 rw [run_equalIn_int w d t _ _ a b hu, ← h2, eqF_eq]
 by_cases hab : a = b
 ·subst hab; simp
 ·simp [hab]
theorem flat_bool {t : TypeId} {i : TypeInfo} (d : Nat) (hi : P.info? t = some i) (hs : i.size = 1) (hu : P.underlying t = some .bool) : FlatAt P (d + 1) t [.b] := by
 refine ⟨fun w => by simp [sizeOf, typeInfo, hi, hs], .inr ⟨fun w => by simp [isAgg, underlying, hu], .b, rfl, ?_⟩⟩
 intro x y r w h
 have key : ∃ a b, x = .bool a ∧ y = .bool b ∧ (bif a then b else !b) = r := by
  cases x <;> cases y <;> simp only [eqCell, Option.some.injEq, reduceCtorEq] at h
  exact ⟨_, _, rfl, rfl, h⟩
 obtain ⟨a, b, rfl, rfl, h2⟩ := key
 rw [run_equalIn_bool' w d t a b hu, ← h2]
 cases a <;> cases b <;> rfl
theorem run_part {d : Nat} {t : TypeId} {ks : List CK} (hf : FlatAt P d t ks) {a b : List Value} {o : Nat} {r : Bool} (h : eqCells ks ((a.drop o).take ks.length) ((b.drop o).take ks.length) = some r) (w : World) :
  ∃ x y, (part t ⟨a⟩ o).run P w = .ok x w ∧ (part t ⟨b⟩ o).run P w = .ok y w ∧ (Op.equalIn d t x y).run P w = .ok r w := by
 obtain ⟨h1, ⟨h2, h3⟩ | ⟨h2, c, h3, h4⟩⟩ := hf
 ·refine ⟨.agg ⟨(a.drop o).take ks.length⟩, .agg ⟨(b.drop o).take ks.length⟩, ?_, ?_, h3 _ _ _ _ h⟩
  ·simp only [part, Sem.run_bind, h2, Result.andThen_ok, if_true, h1, Sem.run_pure]
   congr 2
   apply Array.toList_inj.1
   simp [List.extract_eq_take_drop]
  ·simp only [part, Sem.run_bind, h2, Result.andThen_ok, if_true, h1, Sem.run_pure]
   congr 2
   apply Array.toList_inj.1
   simp [List.extract_eq_take_drop]
 ·subst h3
  obtain ⟨l1, l2⟩ := eqCells_len h
  simp only [List.length_cons, List.length_nil, List.length_take, List.length_drop] at l1 l2
  have ha : o < a.length := by omega
  have hb : o < b.length := by omega
  refine ⟨a[o], b[o], ?_, ?_, h4 _ _ _ _ ?_⟩
  ·simp only [part, Sem.run_bind, h2, Result.andThen_ok, Bool.false_eq_true, if_false]
   rw [List.getElem?_toArray, List.getElem?_eq_getElem ha]; rfl
  ·simp only [part, Sem.run_bind, h2, Result.andThen_ok, Bool.false_eq_true, if_false]
   rw [List.getElem?_toArray, List.getElem?_eq_getElem hb]; rfl
  ·rw [List.drop_eq_getElem_cons ha, List.drop_eq_getElem_cons hb] at h
   simp only [List.length_cons, List.length_nil, Nat.zero_add, List.take_succ_cons, List.take_zero, eqCells] at h
   split at h
   ·cases h
   ·rename_i u hu
    rw [hu]
    injection h with h
    simp at h
    rw [h]
def FieldsAt (P : Program) (d : Nat) : List Field → Nat → List CK → Prop
 | [], _, ks => ks = []
 | f :: fs, o, ks => f.name ≠ "_" ∧ f.offset = o ∧ ∃ k1 k2, ks = k1 ++ k2 ∧ FlatAt P d f.type k1 ∧ FieldsAt P d fs (o + k1.length) k2
theorem run_fields {d : Nat} {a b : List Value} : ∀ (fs : List Field) (o : Nat) (ks : List CK) {r : Bool} (w : World), FieldsAt P d fs o ks → eqCells ks (a.drop o) (b.drop o) = some r → (Op.eqFields d ⟨a⟩ ⟨b⟩ fs).run P w = .ok r w
 | [], o, ks, r, w, hf, h => by
  have hf : ks = [] := hf
  subst hf
  generalize a.drop o = x at h
  generalize b.drop o = y at h
  cases x <;> cases y <;> cases h
  rfl
 | f :: fs, o, ks, r, w, hf, h => by
  obtain ⟨h1, h2, k1, k2, rfl, h3, h4⟩ := hf
  obtain ⟨r1, r2, h5, h6, rfl⟩ := eqCells_append h
  obtain ⟨x, y, p1, p2, p3⟩ := run_part h3 h5 w
  rw [List.drop_drop, List.drop_drop] at h6
  have ih := run_fields fs (o + k1.length) k2 w h4 h6
  simp only [Op.eqFields, if_pos h1, h2, Sem.run_bind, p1, p2, p3, Result.andThen_ok, Sem.run_ite]
  cases r1
  ·simp
  ·simpa using ih
theorem flat_struct {t : TypeId} {i : TypeInfo} {fs : Array Field} {d : Nat} {ks : List CK} (hi : P.info? t = some i) (hs : i.size = ks.length) (hu : P.underlying t = some (.struct fs)) (hp : P.stoodInHeld t = false) (hf : FieldsAt P d fs.toList 0 ks) : FlatAt P (d + 1) t ks := by
 refine ⟨fun w => by simp [sizeOf, typeInfo, hi, hs], .inl ⟨fun w => by simp [isAgg, underlying, hu], ?_⟩⟩
 intro a b r w h
 have hfs : P.fieldsOf t = fs := by simp [Program.fieldsOf, hu]
 rw [run_equalIn_struct w d t _ _ (by rw [hfs]; exact hu) hp, hfs]
 exact run_fields fs.toList 0 ks w hf (by simpa using h)
theorem eqCells_rep {c : CK} : ∀ {n : Nat} {a b : List Value} {r : Bool}, eqCells (List.replicate (n + 1) c) a b = some r → eqCells ([c] ++ List.replicate n c) a b = some r := fun h => by
 rw [List.replicate_succ] at h; exact h
theorem run_items {d : Nat} {e : TypeId} {c : CK} (hf : FlatAt P d e [c]) {a b : List Value} : ∀ (n o : Nat) {r : Bool} (w : World), eqCells (List.replicate n c) (a.drop o) (b.drop o) = some r → (Op.eqItems d e 1 ⟨a⟩ ⟨b⟩ (List.range' o n)).run P w = .ok r w
 | 0, o, r, w, h => by
  simp only [List.replicate_zero] at h
  generalize a.drop o = x at h
  generalize b.drop o = y at h
  cases x <;> cases y <;> cases h
  rfl
 | n + 1, o, r, w, h => by
  obtain ⟨r1, r2, h5, h6, rfl⟩ := eqCells_append (eqCells_rep h)
  obtain ⟨x, y, p1, p2, p3⟩ := run_part hf h5 w
  rw [List.drop_drop, List.drop_drop] at h6
  have ih := run_items hf n (o + 1) w h6
  rw [List.range'_succ]
  simp only [Op.eqItems, Nat.mul_one, Sem.run_bind, p1, p2, p3, Result.andThen_ok]
  cases r1
  ·simp
  ·simpa using ih
theorem flat_array {t e : TypeId} {i ie : TypeInfo} {n d : Nat} {c : CK} (hi : P.info? t = some i) (hs : i.size = n) (hu : P.underlying t = some (.array n e)) (he : P.info? e = some ie) (hse : ie.size = 1) (hf : FlatAt P d e [c]) : FlatAt P (d + 1) t (List.replicate n c) := by
 refine ⟨fun w => by simp [sizeOf, typeInfo, hi, hs], .inl ⟨fun w => by simp [isAgg, underlying, hu], ?_⟩⟩
 intro a b r w h
 rw [run_equalIn_array w d _ _ hu he]
 have : P.cellsOf e = 1 := by simp [Program.cellsOf, he, hse]
 rw [this, List.range_eq_range']
 exact run_items hf n 0 w (by simpa using h)
theorem flat_ok {t : TypeId} {ks : List CK} (k : Nat) (hk : k ≤ 10000) (h : ∀ d, FlatAt P (d + k) t ks) (hagg : ∀ w, (isAgg t).run P w = .ok true w) : ∀ a b r w, eqCells ks a b = some r → (Op.equal t (.agg ⟨a⟩) (.agg ⟨b⟩)).run P w = .ok r w := by
 intro a b r w hr
 have h1 := h (10000 - k)
 rw [Nat.sub_add_cancel hk] at h1
 obtain ⟨_, ⟨_, h2⟩ | ⟨h2, _⟩⟩ := h1
 ·exact h2 a b r w hr
 ·have h3 := hagg w
  rw [h2 w] at h3
  cases h3
end
end Go.Eng
end
