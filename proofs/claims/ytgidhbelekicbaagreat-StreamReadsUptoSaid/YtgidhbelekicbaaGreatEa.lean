/-
  Part of the proof of StreamReadsUptoSaid: The evaluator.
-/
import GoSem.Step
set_option linter.unusedVariables false
section
namespace Go.Eng
inductive Tr (α : Type) where
 | lf
 | nd (l : Tr α) (x : Option α) (r : Tr α)
noncomputable def Tr.get {α : Type} (t : Tr α) : Nat → Option α :=
 Tr.rec (motive := fun _ => Nat → Option α) (fun _ => none)
  (fun _ x _ gl gr k => Bool.rec (motive := fun _ => Option α) (Bool.rec (motive := fun _ => Option α) (gl (Nat.div k 2)) (gr (Nat.div k 2)) (Nat.beq (Nat.mod k 2) 0)) x (Nat.beq k 0)) t
noncomputable def Tr.left {α : Type} (x : Option α) (r t : Tr α) : Tr α := Tr.rec (motive := fun _ => Tr α) (.nd .lf x r) (fun a y c _ _ => .nd (.nd a y c) x r) t
noncomputable def Tr.right {α : Type} (l : Tr α) (x : Option α) (t : Tr α) : Tr α := Tr.rec (motive := fun _ => Tr α) (.nd l x .lf) (fun a y c _ _ => .nd l x (.nd a y c)) t
noncomputable def Tr.one {α : Type} (v : Option α) (f : Nat) : Nat → Tr α :=
 Nat.rec (motive := fun _ => Nat → Tr α) (fun _ => .lf)
  (fun _ ih k => Bool.rec (motive := fun _ => Tr α)
   (Bool.rec (motive := fun _ => Tr α) (Tr.left none .lf (ih (Nat.div k 2))) (Tr.right .lf none (ih (Nat.div k 2))) (Nat.beq (Nat.mod k 2) 0))
   (.nd .lf v .lf) (Nat.beq k 0)) f
noncomputable def Tr.put {α : Type} (v : Option α) (k : Nat) (t : Tr α) : Tr α :=
 Tr.rec (motive := fun _ => Nat → Tr α) (fun k => Tr.one v (Nat.succ k) k)
  (fun l x r gl gr k => Bool.rec (motive := fun _ => Tr α)
   (Bool.rec (motive := fun _ => Tr α) (Tr.left x r (gl (Nat.div k 2))) (Tr.right l x (gr (Nat.div k 2))) (Nat.beq (Nat.mod k 2) 0))
   (.nd l v r) (Nat.beq k 0)) t k
def big : Nat := 4611686018427387904
def qq : Nat := 1125899906842624
def lowCap (c : Nat) : Nat := bif Nat.ble big c then (c - big) % qq else c
def esCap (c : Nat) : Nat := (c - big) / qq
inductive AO where
 | cells (cs : List Value) (elem : TypeId) (el : Nat)
 | map (es : List (Value × Value))
 | loop (st : LoopState) (pend : Option Code) (fn : FuncId) (tm : Tr Value) (n : Nat) (params : List Tmp) (assign body : Code) (defs : Nat)
 | defd (there : Bool)
structure St where
 h : Tr AO
 nx : Nat
structure Fr where
 fn : FuncId
 tm : Tr Value
 n : Nat
 defs : List Deferred
 rd : Option Nat
inductive CK where
 | b
 | i (k : IntKind)
structure Env where
 ft : Nat → Option Func
 tt : Nat → Option (TypeInfo × TypeDesc)
 sm : Nat → Option (List Value → St → Option (Value × St))
 mt : Nat → String → Option FuncId
 flat : Nat → Option (List CK)
 cmp : Nat → Bool
def undefV : Value := .tuple #[]
def cellsL : Value → List Value
 | .agg cs => cs.toList
 | v => [v]
def isAggD : TypeDesc → Bool
 | .struct _ => true
 | .array _ _ => true
 | _ => false
def appD : TypeDesc → Bool
 | .int _ => true
 | .slice _ => true
 | .string => true
 | _ => false
def isIntD : TypeDesc → Bool
 | .int _ => true
 | _ => false
def isConstO : Operand → Bool
 | .const _ => true
 | _ => false
def oneCellB : Value → Bool
 | .agg _ => false
 | .tuple _ => false
 | _ => true
def plain1 : Value → Bool
 | .bool _ => true
 | .int _ _ => true
 | .string _ => true
 | .pointer a => a.isNone
 | .slice a _ c => a.isNone && Nat.beq c 0
 | .map r => r.isNone
 | .nilFunc => true
 | .nilIface => true
 | _ => false
def plainZ (v : Value) : Bool := (cellsL v).all plain1
def kNum : IntKind → Nat
 | .i8 => 0 | .i16 => 1 | .i32 => 2 | .i64 => 3 | .u8 => 4 | .u16 => 5 | .u32 => 6 | .u64 => 7
def wrapF (k : IntKind) (n : Int) : Int := match k, n with
 | .i64, .ofNat m => bif Nat.ble m 9223372036854775807 then .ofNat m else IntKind.wrap .i64 (.ofNat m)
 | .i64, .negSucc m => bif Nat.ble m 9223372036854775807 then .negSucc m else IntKind.wrap .i64 (.negSucc m)
 | .u8, .ofNat m => .ofNat (Nat.mod m 256)
 | .u16, .ofNat m => .ofNat (Nat.mod m 65536)
 | .u32, .ofNat m => .ofNat (Nat.mod m 4294967296)
 | .u64, .ofNat m => .ofNat (Nat.mod m 18446744073709551616)
 | k, n => k.wrap n
def addF : Int → Int → Int
 | .ofNat a, .ofNat b => .ofNat (Nat.add a b)
 | a, b => Int.add a b
def subF : Int → Int → Int
 | .ofNat a, .ofNat b => bif Nat.ble b a then .ofNat (Nat.sub a b) else .negSucc (Nat.sub (Nat.sub b a) 1)
 | a, b => Int.sub a b
def mulF : Int → Int → Int
 | .ofNat a, .ofNat b => .ofNat (Nat.mul a b)
 | a, b => Int.mul a b
def eqF : Int → Int → Bool
 | .ofNat a, .ofNat b => Nat.beq a b
 | .negSucc a, .negSucc b => Nat.beq a b
 | _, _ => false
def leF : Int → Int → Bool
 | .ofNat a, .ofNat b => Nat.ble a b
 | .negSucc a, .negSucc b => Nat.ble b a
 | .negSucc _, .ofNat _ => true
 | .ofNat _, .negSucc _ => false
def arithI (op : BinOp) (k : IntKind) (x y : Int) : Option Value :=
 match op with
 | .add => some (.int k (wrapF k (addF x y)))
 | .sub => some (.int k (wrapF k (subF x y)))
 | .mul => some (.int k (wrapF k (mulF x y)))
 | .quo => match x, y with
  | .ofNat a, .ofNat (b + 1) => some (.int k (wrapF k (.ofNat (Nat.div a (b + 1)))))
  | _, _ => none
 | .rem => match x, y with
  | .ofNat a, .ofNat (b + 1) => some (.int k (.ofNat (Nat.mod a (b + 1))))
  | _, _ => none
 | .and => match x, y with
  | .ofNat a, .ofNat b => some (.int k (wrapF k (.ofNat (Nat.land a b))))
  | _, _ => none
 | .or => match x, y with
  | .ofNat a, .ofNat b => some (.int k (wrapF k (.ofNat (Nat.lor a b))))
  | _, _ => none
 | .xor => match x, y with
  | .ofNat a, .ofNat b => some (.int k (wrapF k (.ofNat (Nat.xor a b))))
  | _, _ => none
 | .eql => some (.bool (eqF x y))
 | .neq => some (.bool (not (eqF x y)))
 | .lss => some (.bool (not (leF y x)))
 | .leq => some (.bool (leF x y))
 | .gtr => some (.bool (not (leF x y)))
 | .geq => some (.bool (leF y x))
 | _ => none
def shiftI (op : BinOp) (k : IntKind) (x y : Int) : Option Value :=
 match x, y with
 | .ofNat a, .ofNat n => bif Nat.ble n k.bits then (match op with
  | .shl => some (.int k (wrapF k (.ofNat (Nat.mul a (Nat.pow 2 n)))))
  | .shr => some (.int k (.ofNat (Nat.div a (Nat.pow 2 n))))
  | _ => none) else none
 | _, _ => none
def eqCell : CK → Value → Value → Option Bool
 | .i c, .int k a, .int j b => bif Nat.beq (kNum k) (kNum c) && Nat.beq (kNum j) (kNum c) then some (eqF a b) else none
 | .b, .bool a, .bool b => some (bif a then b else not b)
 | _, _, _ => none
def eqCells : List CK → List Value → List Value → Option Bool
 | [], [], [] => some true
 | c :: s, a :: r, b :: q => match eqCell c a b with
  | none => none
  | some t => match eqCells s r q with
   | none => none
   | some u => some (and t u)
 | _, _, _ => none
inductive TK where
 | bool | ptr | slice | map | func | iface | str | other
 | flat (ks : List CK)
def eqB (a b : Value) : Option Bool := match a, b with
 | .bool a, .bool b => some (bif a then b else not b)
 | _, _ => none
def eqP (a b : Value) : Option Bool := match a, b with
 | .pointer none, .pointer b => some b.isNone
 | .pointer (some _), .pointer none => some false
 | _, _ => none
def eqSl (a b : Value) : Option Bool := match a, b with
 | .slice none _ _, .slice b _ _ => some b.isNone
 | .slice (some _) _ _, .slice none _ _ => some false
 | _, _ => none
def eqMp (a b : Value) : Option Bool := match a, b with
 | .map none, .map b => some b.isNone
 | .map (some _), .map none => some false
 | _, _ => none
def eqFn (a b : Value) : Option Bool := match a, b with
 | .nilFunc, .nilFunc => some true
 | .nilFunc, .func _ _ _ => some false
 | .func _ _ _, .nilFunc => some false
 | _, _ => none
def eqIf (con : Bool) (a b : Value) : Option Bool := match a, b with
 | .nilIface, .nilIface => bif con then some true else none
 | .nilIface, .iface _ _ => some false
 | .iface _ _, .nilIface => some false
 | _, _ => none
def eqFl (ks : List CK) (a b : Value) : Option Bool := match a, b with
 | .agg x, .agg y => eqCells ks x.toList y.toList
 | _, _ => none
def eqSt (a b : Value) : Option Bool := match a, b with
 | .string a, .string b => some (a.data.toList == b.data.toList)
 | _, _ => none
def eqK (con : Bool) (a b : Value) : TK → Option Bool
 | .bool => eqB a b
 | .ptr => eqP a b
 | .slice => eqSl a b
 | .map => eqMp a b
 | .func => eqFn a b
 | .iface => eqIf con a b
 | .flat ks => eqFl ks a b
 | .str => eqSt a b
 | .other => none
end Go.Eng
end
section
namespace Go.Eng
inductive RP where
 | t (p : Nat)
 | v (x : Value)
 | no
noncomputable section
def rp : Operand → RP
 | .tmp t => .t t
 | .const v => bif plain1 v then .v v else .no
 | .global _ => .no
 | .func f => .v (.func (.func f) #[] #[])
def rpL : List Operand → List RP
 | [] => []
 | x :: r => rp x :: rpL r
def rpO : Option Operand → Option RP
 | none => none
 | some x => some (rp x)
inductive PO where
 | mv (x : RP)
 | pick (c a b : RP)
 | bld (pl : List (Nat × Nat × RP)) (z : List Value)
 | nilc (x : RP)
 | bin (op : BinOp) (k : TK) (con : Bool) (x y : RP)
 | sh (left : Bool) (x y : RP)
 | neg (x : RP)
 | com (x : RP)
 | not (x : RP)
 | cvI (k : IntKind) (x : RP)
 | mkI (t : TypeId) (x : RP)
 | mkF (fn : Fn) (first captured : List RP)
 | slA (n sz : Nat) (x : RP) (lo hi mx : Option RP)
 | slS (sz : Nat) (x : RP) (lo hi mx : Option RP)
 | fad (x : RP) (off : Nat)
 | fld (x : RP) (agg : Option Nat) (off : Nat)
 | iaA (n sz : Nat) (x i : RP)
 | iaS (sz : Nat) (x i : RP)
 | idx (n sz : Nat) (agg : Bool) (x i : RP)
 | ta (t : TypeId) (z : Value) (x : RP)
 | ext (x : RP) (i : Nat)
 | lenC (n : Nat) (x : RP)
 | len (x : RP)
 | cap (x : RP)
 | mn (x y : RP)
 | mx (x y : RP)
inductive LO where
 | ld (agg : Option Nat) (x : RP)
 | look (z : Value) (ok : Bool) (m k : RP)
 | mlen (m : RP)
 | str (x : RP)
 | cmp (x y : RP)
inductive MO where
 | alc (cs : List Value) (t : TypeId)
 | box (t : TypeId) (x : RP)
 | sl (z : List Value) (e : TypeId) (len : Nat) (pl : List (Nat × Nat × RP))
 | map
 | mk (z : List Value) (e : TypeId) (l c : RP)
inductive WO where
 | sto (sz : Nat) (a x : RP)
 | put (m k x : RP)
 | app (e : TypeId) (z : List Value) (ofInt : Bool) (x y : RP)
 | cpy (sz : Nat) (x y : RP)
 | cvS (x : RP)
 | clr (m : RP)
 | del (m k : RP)
inductive RO where
 | p (q : PO)
 | l (q : LO)
 | m (q : MO)
 | w (q : WO)
 | call (f : RP) (args : List RP)
 | inv (name : String) (r : RP) (args : List RP)
 | dfr (f : RP) (args : List RP)
 | rcv
 | pnc (x : RP)
structure RX where
 g : Option (Nat × Bool)
 d : Option (Nat × Nat)
 o : RO
section
variable (E : Env)
def fieldsOf (t : TypeId) : Option (Array Field) := match E.tt t with | some (_, .struct fs) => some fs | _ => none
def sizeT (t : TypeId) : Option Nat := match E.tt t with | none => none | some (i, _) => some i.size
def aggT (t : TypeId) : Option (Option Nat) := match E.tt t with
 | none => none
 | some (i, d) => bif isAggD d then some (some i.size) else bif Nat.beq i.size 1 then some none else none
def zeroT (t : TypeId) : Option Value := match E.tt t with
 | some (i, _) => match i.zero with
  | some z => bif Nat.beq (cellsL z).length i.size && plainZ z then some z else none
  | none => none
 | _ => none
def placesOf : List Field → Option (List (Nat × Nat))
 | [] => some []
 | f :: r => match sizeT E f.type, placesOf r with
  | some n, some l => some ((f.offset, n) :: l)
  | _, _ => none
def plcF (pl : List (Nat × Nat)) : List (Nat × Operand) → Option (List (Nat × Nat × RP))
 | [] => some []
 | (i, x) :: r => match pl[i]?, plcF pl r with
  | some (off, sz), some l => some ((off, sz, rp x) :: l)
  | _, _ => none
def plcA (sz : Nat) : List (Nat × Operand) → List (Nat × Nat × RP)
 | [] => []
 | (i, x) :: r => (Nat.mul i sz, sz, rp x) :: plcA sz r
def repL (z : List Value) : Nat → List Value
 | 0 => []
 | n + 1 => z ++ repL z n
def kindT (t : TypeId) : TK := match E.flat t with
 | some ks => .flat ks
 | none => match E.tt t with
 | some (_, .bool) => .bool
 | some (_, .pointer _) => .ptr
 | some (_, .slice _) => .slice
 | some (_, .map _ _) => .map
 | some (_, .func _ _ _) => .func
 | some (_, .interface _) => .iface
 | some (_, .string) => .str
 | _ => .other
def compP : Op → Option PO
 | .move x => some (.mv (rp x))
 | .assign x => some (.mv (rp x))
 | .pick c a b => some (.pick (rp c) (rp a) (rp b))
 | .build t parts => match E.tt t, zeroT E t with
  | some (_, .struct fs), some z => match placesOf E fs.toList with
   | some pl => match plcF pl parts.toList with
    | some l => some (.bld l (cellsL z))
    | none => none
   | none => none
  | some (_, .array _ e), some z => match sizeT E e with
   | some sz => some (.bld (plcA sz parts.toList) (cellsL z))
   | none => none
  | _, _ => none
 | .nilCheck x => some (.nilc (rp x))
 | .binOp op t x y _ => match op with
  | .shl => some (.sh true (rp x) (rp y))
  | .shr => some (.sh false (rp x) (rp y))
  | _ => some (.bin op (kindT E t) (isConstO x || isConstO y) (rp x) (rp y))
 | .unOp op _ x => match op with
  | .neg => some (.neg (rp x))
  | .not => some (.not (rp x))
  | .xor => some (.com (rp x))
  | _ => none
 | .convert src dst x => match E.tt src, E.tt dst with
  | some (_, .int _), some (_, .int k) => some (.cvI k (rp x))
  | _, _ => none
 | .makeInterface t x => match E.tt t with
  | some (_, .interface _) => none
  | some (_, _) => some (.mkI t (rp x))
  | none => none
 | .makeFunc fn first captured => match fn with
  | .func f => some (.mkF (.func f) (rpL first.toList) (rpL captured.toList))
  | _ => none
 | .slice t x lo hi mx => match E.tt t with
  | some (_, .array n e) => match sizeT E e with
   | some sz => bif (mx.isSome && hi.isNone) || Nat.ble big n then none else some (.slA n sz (rp x) (rpO lo) (rpO hi) (rpO mx))
   | none => none
  | some (_, .slice e) => match sizeT E e with
   | some sz => bif mx.isSome && hi.isNone then none else some (.slS sz (rp x) (rpO lo) (rpO hi) (rpO mx))
   | none => none
  | _ => none
 | .fieldAddr s x f => match fieldsOf E s with
  | some fs => match fs.toList[f]? with
   | some fd => match sizeT E fd.type with
    | some n => bif Nat.beq n 0 then none else some (.fad (rp x) fd.offset)
    | none => none
   | none => none
  | none => none
 | .field s x f => match fieldsOf E s with
  | some fs => match fs.toList[f]? with
   | some fd => match aggT E fd.type with
    | some a => some (.fld (rp x) a fd.offset)
    | none => none
   | none => none
  | none => none
 | .indexAddr t x i => match E.tt t with
  | some (_, .array n e) => match sizeT E e with
   | some sz => some (.iaA n sz (rp x) (rp i))
   | none => none
  | some (_, .slice e) => match sizeT E e with
   | some sz => some (.iaS sz (rp x) (rp i))
   | none => none
  | _ => none
 | .index t x i => match E.tt t with
  | some (_, .array n e) => match aggT E e with
   | some none => some (.idx n 1 false (rp x) (rp i))
   | some (some sz) => some (.idx n sz true (rp x) (rp i))
   | none => none
  | _ => none
 | .typeAssert x _ t ok => bif ok then (match E.tt t, zeroT E t with
  | some (_, .interface _), _ => none
  | some (_, _), some z => some (.ta t z (rp x))
  | _, _ => none) else none
 | .extract x i => some (.ext (rp x) i)
 | .call c => match c.callee with
  | .builtin b => match b, c.args.toList, c.argTypes.toList with
   | .len, [x], [t] => match E.tt t with
    | some (_, .slice _) => some (.len (rp x))
    | some (_, .array n _) => some (.lenC n (rp x))
    | _ => none
   | .cap, [x], [t] => match E.tt t with
    | some (_, .slice _) => some (.cap (rp x))
    | _ => none
   | .min, [x, y], _ => some (.mn (rp x) (rp y))
   | .max, [x, y], _ => some (.mx (rp x) (rp y))
   | _, _, _ => none
  | _ => none
 | _ => none
def compL : Op → Option LO
 | .load t x => match aggT E t with
  | some a => some (.ld a (rp x))
  | none => none
 | .lookup t x i ok => match E.tt t with
  | some (_, .map k e) => match E.tt k, (match E.tt e with
    | some (i, _) => i.zero
    | none => none) with
   | some (_, .int _), some z => bif plainZ z then some (.look z ok (rp x) (rp i)) else none
   | _, _ => none
  | _ => none
 | .convert src dst x => match E.tt src, E.tt dst with
  | some (_, .slice e), some (_, .string) => match E.tt e with
   | some (_, .int .u8) => some (.str (rp x))
   | _ => none
  | _, _ => none
 | .call c => match c.callee with
  | .builtin b => match b, c.args.toList, c.argTypes.toList with
   | .len, [x], [t] => match E.tt t with
    | some (_, .map _ _) => some (.mlen (rp x))
    | _ => none
   | _, _, _ => none
  | .value fo => match fo, c.args.toList with
   | .func g, [x, y] => bif E.cmp g then some (.cmp (rp x) (rp y)) else none
   | _, _ => none
  | _ => none
 | _ => none
def compM : Op → Option MO
 | .alloc t => match zeroT E t with
  | some z => some (.alc (cellsL z) t)
  | none => none
 | .box t x => some (.box t (rp x))
 | .buildSlice t len parts => match E.tt t with
  | some (_, .slice e) => match zeroT E e with
   | some z => let sz := (cellsL z).length
    bif Nat.ble (Nat.mul len sz) 16777216 && Nat.ble 1 sz then some (.sl (repL (cellsL z) len) e len (plcA sz parts.toList)) else none
   | none => none
  | _ => none
 | .makeMap _ r => match r with
  | none => some .map
  | some _ => none
 | .makeSlice t l c => match E.tt t with
  | some (_, .slice e) => match E.tt e, zeroT E e with
   | some (i, _), some z => bif Nat.ble i.bytes 65536 && Nat.ble 1 i.size then some (.mk (cellsL z) e (rp l) (rp c)) else none
   | _, _ => none
  | _ => none
 | _ => none
def compW : Op → Option WO
 | .store t a x => match sizeT E t with
  | some sz => some (.sto sz (rp a) (rp x))
  | none => none
 | .convert src dst x => match E.tt src, E.tt dst with
  | some (_, .slice _), some (_, .slice e) => match E.tt e with
   | some (_, .int .u8) => bif Nat.beq src dst then some (.cvS (rp x)) else none
   | _ => none
  | _, _ => none
 | .mapUpdate t m k x => match E.tt t with
  | some (_, .map kt _) => match E.tt kt with
   | some (_, .int _) => some (.put (rp m) (rp k) (rp x))
   | _ => none
  | _ => none
 | .call c => match c.callee with
  | .builtin b => match b, c.args.toList, c.argTypes.toList with
   | .append, [x, y], [t0, t1] => match E.tt t0, E.tt t1 with
    | some (_, .slice e), some (_, d1) => match E.tt e, zeroT E e with
     | some (i, _), some z => bif Nat.ble i.bytes 65536 && Nat.ble 1 i.size && appD d1 then some (.app e (cellsL z) (isIntD d1) (rp x) (rp y)) else none
     | _, _ => none
    | _, _ => none
   | .copy, [x, y], t0 :: _ => match E.tt t0 with
    | some (_, .slice e) => match sizeT E e with
     | some sz => some (.cpy sz (rp x) (rp y))
     | none => none
    | _ => none
   | .clear, [x], [t] => match E.tt t with
    | some (_, .map _ _) => some (.clr (rp x))
    | _ => none
   | .delete, [x, k], t :: _ => match E.tt t with
    | some (_, .map kt _) => match E.tt kt with
     | some (_, .int _) => some (.del (rp x) (rp k))
     | _ => none
    | _ => none
   | _, _, _ => none
  | _ => none
 | _ => none
def compO (o : Op) : Option RO := match compP E o with
 | some q => some (.p q)
 | none => match compL E o with
  | some q => some (.l q)
  | none => match compM E o with
   | some q => some (.m q)
   | none => match compW E o with
    | some q => some (.w q)
    | none => match o with
     | .call c => match c.callee with
      | .value f => some (.call (rp f) (rpL c.args.toList))
      | .invoke r name => some (.inv name (rp r) (rpL c.args.toList))
      | .builtin b => match b with
       | .recover => some .rcv
       | _ => none
     | .defer c => match c.callee with
      | .value f => some (.dfr (rp f) (rpL c.args.toList))
      | _ => none
     | .panic x => some (.pnc (rp x))
     | _ => none
def guardT (ops : List Oper) (o : Oper) : Option (Option (Nat × Bool)) := match o.guard with
 | none => some none
 | some (j, want) => match ops[j]? with
  | some g => match g.dst with
   | some d => some (some (d, want))
   | none => none
  | none => none
def compX (ops : List Oper) (o : Oper) : Option RX := match guardT ops o, compO E o.op with
 | some g, some r => some ⟨g, (match o.dst with
  | none => none
  | some d => some (d, d)), r⟩
 | _, _ => none
def compR (ops : List Oper) : List Oper → Option (List RX)
 | [] => some []
 | o :: r => match compX E ops o with
  | none => none
  | some x => match compR ops r with
   | none => none
   | some l => some (x :: l)
def bit (m i : Nat) : Bool := Nat.beq (Nat.mod (Nat.shiftRight m i) 2) 1
def ancs : List Oper → List Nat → List Nat
 | [], acc => acc
 | o :: r, acc => ancs r (acc ++ [o.after.toList.foldl (fun m e => bif Region.binds .any e then Nat.lor m (Nat.lor (Nat.shiftLeft 1 e.on) (acc.getD e.on 0)) else m) 0])
def opTmps (ops : List Oper) (o : Oper) : List Tmp :=
 (o.op.operands.toList.filterMap fun | .tmp t => some t | _ => none) ++ (match o.guard with
  | some (j, _) => match ops[j]? with
   | some g => g.dst.toList
   | none => []
  | none => [])
def chainB (an : List Nat) : List Nat → Bool
 | a :: b :: r => bit (an.getD b 0) a && chainB an (b :: r)
 | _ => true
def RO.loud : RO → Bool
 | .p _ => false
 | .l _ => false
 | .m _ => false
 | .w _ => true
 | .call _ _ => true
 | .inv _ _ _ => true
 | .dfr _ _ => false
 | .rcv => false
 | .pnc _ => false
def RO.odd : RO → Bool
 | .dfr _ _ => true
 | .rcv => true
 | .pnc _ => true
 | _ => false
def RO.makes : RO → Bool
 | .m _ => true
 | _ => false
def windowOf (an louds : List Nat) (i : Nat) : Nat × Nat :=
 ((louds.filter fun x => bit (an.getD i 0) x).length, (louds.findIdx fun x => bit (an.getD x 0) i))
def planOf (ops : List Oper) (l : List RX) : Option (List (Nat × Nat)) :=
 let an := ancs ops []
 let n := ops.length
 let louds := (List.range n).filter fun i => match l[i]? with
  | some x => x.o.loud
  | none => false
 let dsts := ops.filterMap (·.dst)
 bif (l.all fun x => not x.o.odd) && chainB an louds && decide dsts.Nodup &&
  ((List.range n).all fun i => match ops[i]?, l[i]? with
   | some o, some x => (not x.o.makes || louds.all fun y => Nat.ble y i || bit (an.getD y 0) i) &&
    o.after.toList.all (fun e => not (Region.binds .any e) || Nat.ble (Nat.succ e.on) i) &&
    (opTmps ops o).all (fun t => (List.range n).all fun j => match ops[j]? with
     | some oj => match oj.dst with
      | some d => not (Nat.beq d t) || bit (an.getD i 0) j || bit (an.getD j 0) i
      | none => true
     | none => true)
   | _, _ => false)
 then some ((List.range n).map (windowOf an louds)) else none
def compD (ops : List Oper) : Option (List RX × List (Nat × Nat)) := match compR E ops ops with
 | none => none
 | some l => match planOf ops l with
  | none => none
  | some ws => some (l, ws)
end
end
end Go.Eng
end
section
namespace Go.Eng
noncomputable section
def evalO (tm : Tr Value) : RP → Option Value
 | .t p => tm.get p
 | .v x => some x
 | .no => none
def evalL (tm : Tr Value) : List RP → Option (List Value)
 | [] => some []
 | x :: r => match evalO tm x with
  | none => none
  | some v => match evalL tm r with
   | none => none
   | some l => some (v :: l)
def nth (l : List Value) (i : Nat) : Option Value :=
 Nat.rec (motive := fun _ => List Value → Option Value) (fun l => List.rec (motive := fun _ => Option Value) none (fun v _ _ => some v) l)
  (fun _ ih l => List.rec (motive := fun _ => Option Value) none (fun _ r _ => ih r) l) i l
def revA (a : List Value) : List Value → List Value :=
 List.rec (motive := fun _ => List Value → List Value) (fun b => b) (fun v _ ih b => ih (v :: b)) a
def headT (n : Nat) : List Value → List Value → Option (List Value) :=
 Nat.rec (motive := fun _ => List Value → List Value → Option (List Value)) (fun _ acc => some (revA acc []))
  (fun _ ih l acc => List.rec (motive := fun _ => Option (List Value)) none (fun v r _ => ih r (v :: acc)) l) n
def headL (l : List Value) (n : Nat) : Option (List Value) := headT n l []
def tailL (l : List Value) (n : Nat) : Option (List Value) :=
 Nat.rec (motive := fun _ => List Value → Option (List Value)) (fun l => some l)
  (fun _ ih l => List.rec (motive := fun _ => Option (List Value)) none (fun _ r _ => ih r) l) n l
def rowAt (l : List Value) (i n : Nat) : Option (List Value) := match tailL l i with
 | none => none
 | some r => headL r n
def overT (vs : List Value) : List Value → List Value → Option (List Value) :=
 List.rec (motive := fun _ => List Value → List Value → Option (List Value)) (fun cs acc => some (revA acc cs))
  (fun v _ ih cs acc => List.rec (motive := fun _ => Option (List Value)) none (fun _ r _ => ih r (v :: acc)) cs) vs
def layT (vs : List Value) (i : Nat) : List Value → List Value → Option (List Value) :=
 Nat.rec (motive := fun _ => List Value → List Value → Option (List Value)) (overT vs)
  (fun _ ih cs acc => List.rec (motive := fun _ => Option (List Value)) none (fun c r _ => ih r (c :: acc)) cs) i
def layL (cs : List Value) (i : Nat) (vs : List Value) : Option (List Value) := layT vs i cs []
def readRow (s : St) (a : Addr) (n : Nat) : Option (List Value) := match s.h.get a.block with
 | some (.cells cs _ _) => match a.spot with
  | none => rowAt cs a.off n
  | some _ => none
 | _ => none
def readCell (s : St) (a : Addr) : Option Value := match s.h.get a.block with
 | some (.cells cs _ _) => match a.spot with
  | none => nth cs a.off
  | some _ => none
 | _ => none
def setS (s : St) (id : Nat) (o : AO) : St := match s with
 | ⟨h, nx⟩ => match h.put (some o) id with
  | .lf => ⟨.lf, nx⟩
  | .nd a b c => ⟨.nd a b c, nx⟩
def writeRow (s : St) (a : Addr) (vs : List Value) : Option St := match s.h.get a.block with
 | some (.cells cs e el) => match a.spot with
  | none => bif Nat.beq el 1 then none else (bif vs.all oneCellB then (match layL cs a.off vs with
   | none => none
   | some r => some (setS s a.block (.cells r e el))) else none)
  | some _ => none
 | _ => none
def addA (a : Addr) (n : Nat) : Addr := ⟨a.block, Nat.add a.off n, none⟩
def natBelow (n : Int) (y : Nat) : Option Nat := match n with
 | .ofNat m => bif Nat.ble m y then some m else none
 | .negSucc _ => none
section
variable (tm : Tr Value)
def rPick (c a b : RP) : Option Value := match evalO tm c with
 | some (.bool t) => bif t then evalO tm a else evalO tm b
 | _ => none
def rBldF (cells : List Value) : List (Nat × Nat × RP) → Option (List Value)
 | [] => some cells
 | (off, sz, x) :: r => match evalO tm x with
  | none => none
  | some v => let l := cellsL v
   bif Nat.beq l.length sz && l.all oneCellB then (match layL cells off l with
    | some cs => rBldF cs r
    | none => none) else none
def rBld (pl : List (Nat × Nat × RP)) (z : List Value) : Option Value := match rBldF tm z pl with
 | some cs => some (.agg ⟨cs⟩)
 | none => none
def rNilc (x : RP) : Option Value := match evalO tm x with
 | some (.pointer (some a)) => some (.pointer (some a))
 | some (.func (.func f) a b) => some (.func (.func f) a b)
 | _ => none
def boolO : Option Bool → Option Value
 | some b => some (.bool b)
 | none => none
def notO : Option Bool → Option Value
 | some b => some (.bool (not b))
 | none => none
def rBinV (op : BinOp) (k : TK) (con : Bool) (a b : Value) : Option Value := match a, b with
 | .int k n, .int j m => bif Nat.beq (kNum k) (kNum j) then arithI op k n m else none
 | a, b => match op with
  | .eql => boolO (eqK con a b k)
  | .neq => notO (eqK con a b k)
  | _ => none
def rBin (op : BinOp) (k : TK) (con : Bool) (x y : RP) : Option Value := match evalO tm x, evalO tm y with
 | some a, some b => rBinV op k con a b
 | _, _ => none
def rSh (left : Bool) (x y : RP) : Option Value := match evalO tm x, evalO tm y with
 | some (.int k n), some (.int _ m) => bif left then shiftI .shl k n m else shiftI .shr k n m
 | _, _ => none
def rNeg (x : RP) : Option Value := match evalO tm x with
 | some (.int k n) => some (.int k (wrapF k (subF 0 n)))
 | _ => none
def rCom (x : RP) : Option Value := match evalO tm x with
 | some (.int k n) => match k with
  | .u8 => arithI .xor .u8 (.ofNat 255) n
  | .u16 => arithI .xor .u16 (.ofNat 65535) n
  | .u32 => arithI .xor .u32 (.ofNat 4294967295) n
  | .u64 => arithI .xor .u64 (.ofNat 18446744073709551615) n
  | _ => none
 | _ => none
def rNot (x : RP) : Option Value := match evalO tm x with
 | some (.bool b) => some (.bool (not b))
 | _ => none
def rCvI (k : IntKind) (x : RP) : Option Value := match evalO tm x with
 | some (.int _ n) => some (.int k (wrapF k n))
 | _ => none
def rMkI (t : TypeId) (x : RP) : Option Value := match evalO tm x with
 | some v => some (.iface t v)
 | _ => none
def rMkF (fn : Fn) (first captured : List RP) : Option Value := match evalL tm first, evalL tm captured with
 | some a, some b => some (.func fn ⟨a⟩ ⟨b⟩)
 | _, _ => none
def boundV (y : Nat) (x : Option RP) (d : Nat) : Option Nat := match x with
 | none => some d
 | some x => match evalO tm x with
  | some (.int _ i) => natBelow i y
  | _ => none
def capM (c : Nat) (mx : Option RP) : Option Nat := match mx with
 | none => some c
 | some x => match evalO tm x with
  | some (.int _ i) => match natBelow i (lowCap c) with
   | some m => bif Nat.ble big m then none else some m
   | none => none
  | _ => none
def rCut (a : Addr) (n c sz : Nat) (lo hi mx : Option RP) : Option Value := match capM tm c mx with
 | none => none
 | some m => bif Nat.ble big m && not (Nat.beq (esCap m) sz) then none else match boundV tm (lowCap m) hi n with
  | none => none
  | some h => bif Nat.ble h (lowCap m) then (match boundV tm h lo 0 with
   | none => none
   | some l => bif Nat.beq m l then some (.slice (some a) (h - l) (m - l))
     else some (.slice (some (addA a (Nat.mul l sz))) (h - l) (m - l))) else none
def rSlA (n sz : Nat) (x : RP) (lo hi mx : Option RP) : Option Value := match evalO tm x with
 | some (.pointer (some a)) => rCut tm a n n sz lo hi mx
 | _ => none
def rSlS (sz : Nat) (x : RP) (lo hi mx : Option RP) : Option Value := match evalO tm x with
 | some (.slice (some a) n c) => rCut tm a n c sz lo hi mx
 | some (.slice none 0 0) => match boundV tm 0 mx 0, boundV tm 0 hi 0, boundV tm 0 lo 0 with
  | some _, some _, some _ => some (.slice none 0 0)
  | _, _, _ => none
 | _ => none
def rFad (x : RP) (off : Nat) : Option Value := match evalO tm x with
 | some (.pointer (some a)) => some (.pointer (some (addA a off)))
 | _ => none
def partL (agg : Option Nat) (cs : List Value) (off : Nat) : Option Value := match agg with
 | none => nth cs off
 | some n => match rowAt cs off n with
  | some l => some (.agg ⟨l⟩)
  | none => none
def rFld (x : RP) (agg : Option Nat) (off : Nat) : Option Value := match evalO tm x with
 | some (.agg cs) => partL agg cs.toList off
 | _ => none
def atA (a : Addr) (n sz : Nat) (i : Value) : Option Value := match i with
 | .int _ (.ofNat m) => bif Nat.ble (Nat.succ m) n then some (.pointer (some (addA a (Nat.mul m sz)))) else none
 | _ => none
def rIaA (n sz : Nat) (x i : RP) : Option Value := match evalO tm x, evalO tm i with
 | some (.pointer (some a)), some v => atA a n sz v
 | _, _ => none
def rIaS (sz : Nat) (x i : RP) : Option Value := match evalO tm x, evalO tm i with
 | some (.slice (some a) n _), some v => atA a n sz v
 | _, _ => none
def rIdx (n sz : Nat) (agg : Bool) (x i : RP) : Option Value := match evalO tm x, evalO tm i with
 | some (.agg cs), some (.int _ (.ofNat m)) => bif Nat.ble (Nat.succ m) n then partL (bif agg then some sz else none) cs.toList (Nat.mul m sz) else none
 | _, _ => none
def rTa (t : TypeId) (z : Value) (x : RP) : Option Value := match evalO tm x with
 | some .nilIface => some (.tuple #[z, .bool false])
 | some (.iface u v) => bif Nat.beq u t then some (.tuple #[v, .bool true]) else none
 | _ => none
def rExt (x : RP) (i : Nat) : Option Value := match evalO tm x with
 | some (.tuple vs) => nth vs.toList i
 | _ => none
def rLenC (n : Nat) (x : RP) : Option Value := match evalO tm x with
 | some _ => some (.int .i64 (.ofNat n))
 | none => none
def rLen (x : RP) : Option Value := match evalO tm x with
 | some (.slice _ n _) => some (.int .i64 (.ofNat n))
 | _ => none
def rCap (x : RP) : Option Value := match evalO tm x with
 | some (.slice _ _ c) => bif Nat.ble big c then none else some (.int .i64 (.ofNat c))
 | _ => none
def rMn (x y : RP) : Option Value := match evalO tm x, evalO tm y with
 | some (.int k a), some (.int _ b) => some (.int k (bif leF a b then a else b))
 | _, _ => none
def rMx (x y : RP) : Option Value := match evalO tm x, evalO tm y with
 | some (.int k a), some (.int _ b) => some (.int k (bif leF b a then a else b))
 | _, _ => none
def runP : PO → Option Value
 | .mv x => evalO tm x
 | .pick c a b => rPick tm c a b
 | .bld pl z => rBld tm pl z
 | .nilc x => rNilc tm x
 | .bin op f c x y => rBin tm op f c x y
 | .sh l x y => rSh tm l x y
 | .neg x => rNeg tm x
 | .com x => rCom tm x
 | .not x => rNot tm x
 | .cvI k x => rCvI tm k x
 | .mkI t x => rMkI tm t x
 | .mkF f a b => rMkF tm f a b
 | .slA n sz x lo hi mx => rSlA tm n sz x lo hi mx
 | .slS sz x lo hi mx => rSlS tm sz x lo hi mx
 | .fad x o => rFad tm x o
 | .fld x a o => rFld tm x a o
 | .iaA n sz x i => rIaA tm n sz x i
 | .iaS sz x i => rIaS tm sz x i
 | .idx n sz a x i => rIdx tm n sz a x i
 | .ta t z x => rTa tm t z x
 | .ext x i => rExt tm x i
 | .lenC n x => rLenC tm n x
 | .len x => rLen tm x
 | .cap x => rCap tm x
 | .mn x y => rMn tm x y
 | .mx x y => rMx tm x y
end
inductive LD where
 | cell (agg : Option Nat) (a : Addr)
 | look (z : Value) (ok : Bool) (m : Option Nat) (k : Value)
 | mlen (m : Option Nat)
 | str (v : Value)
 | cmp (a b : Value)
def toLD (tm : Tr Value) : LO → Option LD
 | .ld g x => match evalO tm x with
  | some (.pointer (some a)) => some (.cell g a)
  | _ => none
 | .look z ok m k => match evalO tm m, evalO tm k with
  | some (.map r), some v => some (.look z ok r v)
  | _, _ => none
 | .mlen m => match evalO tm m with
  | some (.map r) => some (.mlen r)
  | _ => none
 | .str x => match evalO tm x with
  | some (.slice a n c) => some (.str (.slice a n c))
  | _ => none
 | .cmp x y => match evalO tm x, evalO tm y with
  | some a, some b => some (.cmp a b)
  | _, _ => none
def keyEq : Value → Value → Option Bool
 | .int k a, .int j b => bif Nat.beq (kNum k) (kNum j) then some (eqF a b) else none
 | _, _ => none
def findL (k : Value) : List (Value × Value) → Option (Option Value)
 | [] => some none
 | (a, v) :: r => match keyEq k a with
  | none => none
  | some t => bif t then some (some v) else findL k r
def putL (k v : Value) : List (Value × Value) → Option (List (Value × Value))
 | [] => some [(k, v)]
 | (a, u) :: r => match keyEq k a with
  | none => none
  | some t => bif t then some ((k, v) :: r) else match putL k v r with
   | none => none
   | some l => some ((a, u) :: l)
def delL (k : Value) : List (Value × Value) → Option (List (Value × Value))
 | [] => some []
 | (a, u) :: r => match keyEq k a with
  | none => none
  | some t => bif t then some r else match delL k r with
   | none => none
   | some l => some ((a, u) :: l)
def bytesL : List Value → Option (List UInt8)
 | [] => some []
 | v :: r => match v, bytesL r with
  | .int .u8 n, some l => some (UInt8.ofNat n.toNat :: l)
  | _, _ => none
def withOk (ok : Bool) (v : Value) (b : Bool) : Value := bif ok then .tuple #[v, .bool b] else v
def mapOf (s : St) (m : Option Nat) : Option (List (Value × Value)) := match m with
 | none => some []
 | some r => match s.h.get r with
  | some (.map es) => some es
  | _ => none
def rLook (s : St) (z : Value) (ok : Bool) (m : Option Nat) (k : Value) : Option Value := match mapOf s m with
 | none => none
 | some es => match findL k es with
  | none => none
  | some none => some (withOk ok z false)
  | some (some v) => some (withOk ok v true)
def rLd (s : St) (g : Option Nat) (a : Addr) : Option Value := match g with
 | none => readCell s a
 | some n => match readRow s a n with
  | some l => some (.agg ⟨l⟩)
  | none => none
def rMlen (s : St) (m : Option Nat) : Option Value := match mapOf s m with
 | some es => some (.int .i64 (.ofNat es.length))
 | none => none
def bytesV (s : St) : Value → Option (List UInt8)
 | .string b => some b.data.toList
 | .slice none _ _ => some []
 | .slice (some a) n _ => bif Nat.beq n 0 then some [] else match readRow s a n with
  | some l => bytesL l
  | none => none
 | _ => none
def rStr (s : St) (v : Value) : Option Value := match bytesV s v with
 | none => none
 | some b => some (.string ⟨⟨b⟩⟩)
def cmpU : List UInt8 → List UInt8 → Int
 | [], [] => 0
 | [], _ :: _ => -1
 | _ :: _, [] => 1
 | a :: as, b :: bs => if a < b then -1 else if b < a then 1 else cmpU as bs
def rCmp (s : St) (a b : Value) : Option Value := match bytesV s a, bytesV s b with
 | some x, some y => some (.int .i64 (cmpU x y))
 | _, _ => none
def evalLD (s : St) : LD → Option Value
 | .cmp a b => rCmp s a b
 | .cell g a => rLd s g a
 | .look z ok m k => rLook s z ok m k
 | .mlen m => rMlen s m
 | .str v => rStr s v
inductive TM where
 | ptr
 | sl (len cap : Nat)
 | map
def tellM (id : Nat) : TM → Value
 | .ptr => .pointer (some ⟨id, 0, none⟩)
 | .sl l c => .slice (some ⟨id, 0, none⟩) l c
 | .map => .map (some id)
def toM (tm : Tr Value) : MO → Option (AO × TM)
 | .alc cs t => some (.cells cs t 0, .ptr)
 | .box t x => match evalO tm x with
  | some v => let l := cellsL v
   bif l.all oneCellB then some (.cells l t 0, .ptr) else none
  | none => none
 | .sl z e len pl => match rBldF tm z pl with
  | some cs => some (.cells cs e 0, .sl len len)
  | none => none
 | .map => some (.map [], .map)
 | .mk z e l c => match evalO tm l, evalO tm c with
  | some (.int _ (.ofNat a)), some (.int _ (.ofNat b)) => bif Nat.ble a b && Nat.ble b 1073741824 then some (.cells (repL z b) e 0, .sl a b) else none
  | _, _ => none
def nextN (n : Nat) : Nat := Nat.rec (motive := fun _ => Nat) 1 (fun m _ => Nat.succ (Nat.succ m)) n
def newO (s : St) (o : AO) : St := match s with
 | ⟨h, nx⟩ => match h.put (some o) nx with
  | .lf => ⟨.lf, nextN nx⟩
  | .nd a b c => ⟨.nd a b c, nextN nx⟩
def delS (s : St) (id : Nat) : St := match s with
 | ⟨h, nx⟩ => match h.put none id with
  | .lf => ⟨.lf, nx⟩
  | .nd a b c => ⟨.nd a b c, nx⟩
def strCells : List UInt8 → List Value
 | [] => []
 | b :: r => .int .u8 (.ofNat b.toNat) :: strCells r
def srcCells (s : St) (sz m : Nat) : Value → Option (List Value)
 | .slice none _ _ => bif Nat.beq m 0 then some [] else none
 | .slice (some a) _ _ => bif Nat.beq m 0 then some [] else readRow s a (Nat.mul m sz)
 | .string b => bif Nat.beq sz 1 then headL (strCells b.data.toList) m else none
 | _ => none
def lenV : Value → Option Nat
 | .slice _ n _ => some n
 | .string s => some s.data.toList.length
 | _ => none
def newOf (s : St) (z : List Value) (sz : Nat) (ofInt : Bool) (x : Value) : Option (Nat × List Value) :=
 bif ofInt then (match x with
  | .int _ (.ofNat m) => bif Nat.ble m 1073741824 then some (m, repL z m) else none
  | _ => none)
 else match lenV x with
  | none => none
  | some m => match srcCells s sz m x with
   | none => none
   | some l => some (m, l)
def appIn (s : St) (base : Option Addr) (n sz need cap : Nat) (new : List Value) : Option (Value × St) := match base with
 | none => some (.slice none need cap, s)
 | some a => match new with
  | [] => some (.slice (some a) need cap, s)
  | _ => match writeRow s (addA a (Nat.mul n sz)) new with
   | some s' => some (.slice (some a) need cap, s')
   | none => none
def dropB (s : St) (base : Option Addr) (sz : Nat) : Option St := match base with
 | none => none
 | some a => match s.h.get a.block with
  | some (.cells _ _ el) => bif Nat.beq el (Nat.succ sz) then some (delS s a.block) else none
  | _ => none
def appOut (s : St) (e : TypeId) (sz : Nat) (sl : Value) (base : Option Addr) (n need cap : Nat) (new : List Value) : Option (Value × St) :=
 bif Nat.ble need 1073741824 then (match srcCells s sz n sl with
  | none => none
  | some old => match (bif Nat.ble big cap then (bif Nat.beq (esCap cap) sz && new.all oneCellB then dropB s base sz else none) else bif Nat.ble cap 1073741824 then some s else none) with
   | none => none
   | some s1 => some (.slice (some ⟨s1.nx, 0, none⟩) need (big + sz * qq + need), newO s1 (.cells (old ++ new) e (Nat.succ sz))))
 else none
def rApp (s : St) (e : TypeId) (z : List Value) (ofInt : Bool) (sl x : Value) : Option (Value × St) := match sl with
 | .slice base n cap => let sz := z.length
  match newOf s z sz ofInt x with
  | none => none
  | some (m, new) => bif Nat.ble (Nat.add n m) (lowCap cap) then appIn s base n sz (Nat.add n m) cap new
    else appOut s e sz sl base n (Nat.add n m) cap new
 | _ => none
def rCpy (s : St) (sz : Nat) (dst src : Value) : Option (Value × St) := match dst, lenV src with
 | .slice base n _, some m => let k := bif Nat.ble m n then m else n
  match srcCells s sz k src with
  | none => none
  | some l => match base, l with
   | none, _ => some (.int .i64 (.ofNat k), s)
   | some _, [] => some (.int .i64 (.ofNat k), s)
   | some a, v :: r => match writeRow s a (v :: r) with
    | some s' => some (.int .i64 (.ofNat k), s')
    | none => none
 | _, _ => none
def rPut (s : St) (m k v : Value) : Option (Value × St) := match m with
 | .map (some r) => match k with
  | .int j x => match s.h.get r with
   | some (.map es) => match putL (.int j x) v es with
    | some es' => some (undefV, setS s r (.map es'))
    | none => none
   | _ => none
  | _ => none
 | _ => none
def rCvS (s : St) (x : Value) : Option (Value × St) := match x with
 | .slice (some p) n c => match s.h.get p.block with
  | some (.cells _ _ el) => bif (Nat.ble 1 n || Nat.ble 1 (lowCap c)) && not (Nat.beq el 1) then some (.slice (some p) n c, s) else none
  | _ => none
 | _ => none
def rClr (s : St) (m : Value) : Option (Value × St) := match m with
 | .map (some r) => match s.h.get r with
  | some (.map _) => some (undefV, setS s r (.map []))
  | _ => none
 | _ => none
def rDel (s : St) (m k : Value) : Option (Value × St) := match m with
 | .map (some r) => match k with
  | .int j x => match s.h.get r with
   | some (.map es) => match delL (.int j x) es with
    | some es' => some (undefV, setS s r (.map es'))
    | none => none
   | _ => none
  | _ => none
 | _ => none
def rSto (s : St) (sz : Nat) (a x : Value) : Option (Value × St) := match a with
 | .pointer (some p) => let l := cellsL x
  bif Nat.beq l.length sz then (match writeRow s p l with
   | some s' => some (undefV, s')
   | none => none) else none
 | _ => none
def runW (tm : Tr Value) (s : St) : WO → Option (Value × St)
 | .sto sz a x => match evalO tm a, evalO tm x with
  | some p, some v => rSto s sz p v
  | _, _ => none
 | .put m k x => match evalO tm m, evalO tm k, evalO tm x with
  | some a, some b, some c => rPut s a b c
  | _, _, _ => none
 | .app e z i x y => match evalO tm x, evalO tm y with
  | some a, some b => rApp s e z i a b
  | _, _ => none
 | .cpy sz x y => match evalO tm x, evalO tm y with
  | some a, some b => rCpy s sz a b
  | _, _ => none
 | .cvS x => match evalO tm x with
  | some a => rCvS s a
  | none => none
 | .clr m => match evalO tm m with
  | some a => rClr s a
  | none => none
 | .del m k => match evalO tm m, evalO tm k with
  | some a, some b => rDel s a b
  | _, _ => none
inductive Ex where
 | normal
 | exit (id : Nat)
 | ret
inductive Task where
 | code (c : Code) (fr : Fr) (s : St)
 | call (f : FuncId) (args : List Value) (s : St)
 | val (f : Value) (args : List Value) (s : St)
inductive Res where
 | code (e : Ex) (fr : Fr) (s : St)
 | val (v : Value) (s : St)
 | pan (fr : Fr) (v : Value) (s : St)
 | thr (v : Value) (s : St)
def setT (fr : Fr) (d : Option (Nat × Nat)) (v : Value) : Option Fr := match d with
 | none => some fr
 | some (d, p) => match fr with
  | ⟨fn, tm, n, defs, rd⟩ => bif Nat.ble (Nat.succ d) n then (match tm.put (some v) p with
   | .lf => none
   | .nd a b c => some ⟨fn, .nd a b c, n, defs, rd⟩) else none
def wantB (tm : Tr Value) (g : Option (Nat × Bool)) : Option Bool := match g with
 | none => some true
 | some (d, want) => match tm.get d with
  | some (.bool b) => some (bif want then b else not b)
  | some (.tuple _) => some false
  | _ => none
inductive OR where
 | no
 | ok (fr : Fr) (s : St) (d : Option LD)
 | pan (v : Value) (s : St)
def pushD (fr : Fr) (d : Deferred) : Fr := match fr with
 | ⟨fn, tm, n, defs, rd⟩ => ⟨fn, tm, n, d :: defs, rd⟩
def putF (fr : Fr) (d : Option (Nat × Nat)) (v : Value) (s : St) (r : Option LD) : OR := match setT fr d v with
 | none => .no
 | some fr => .ok fr s r
section
variable (rec : Task → Option Res)
def opP (fr : Fr) (s : St) (d : Option (Nat × Nat)) (q : PO) : OR := match runP fr.tm q with
 | none => .no
 | some v => putF fr d v s none
def opL (fr : Fr) (s : St) (d : Option (Nat × Nat)) (q : LO) : OR := match toLD fr.tm q with
 | none => .no
 | some l => match evalLD s l with
  | none => .no
  | some v => putF fr d v s (some l)
def opM (fr : Fr) (s : St) (d : Option (Nat × Nat)) (q : MO) : OR := match toM fr.tm q with
 | none => .no
 | some (o, t) => putF fr d (tellM s.nx t) (newO s o) none
def opW (fr : Fr) (s : St) (d : Option (Nat × Nat)) (q : WO) : OR := match runW fr.tm s q with
 | none => .no
 | some (v, s') => putF fr d v s' none
def opC (fr : Fr) (s : St) (d : Option (Nat × Nat)) (f : RP) (args : List RP) : OR := match evalO fr.tm f, evalL fr.tm args with
 | some g, some l => match rec (.val g l s) with
  | some (.val v s') => putF fr d v s' none
  | some (.thr v s') => .pan v s'
  | _ => .no
 | _, _ => .no
def opI (mt : Nat → String → Option FuncId) (fr : Fr) (s : St) (d : Option (Nat × Nat)) (name : String) (r : RP) (args : List RP) : OR :=
 match evalO fr.tm r, evalL fr.tm args with
 | some (.iface t v), some l => match mt t name with
  | some f => match rec (.call f (v :: l) s) with
   | some (.val v s') => putF fr d v s' none
   | some (.thr v s') => .pan v s'
   | _ => .no
  | none => .no
 | _, _ => .no
def opD (fr : Fr) (s : St) (d : Option (Nat × Nat)) (f : RP) (args : List RP) : OR := match fr.rd with
 | some _ => .no
 | none => match evalO fr.tm f, evalL fr.tm args with
  | some (.func (.func g) first captured), some l =>
   putF (pushD fr { target := .fn (.func g) captured, args := ⟨first.toList ++ l⟩ }) d undefV s none
  | _, _ => .no
def opR (fr : Fr) (s : St) (d : Option (Nat × Nat)) : OR := match fr.rd with
 | some _ => .no
 | none => putF fr d .nilIface s none
def opN (fr : Fr) (s : St) (x : RP) : OR := match evalO fr.tm x with
 | some (.iface t v) => .pan (.iface t v) s
 | _ => .no
def oneOp (mt : Nat → String → Option FuncId) (fr : Fr) (s : St) (d : Option (Nat × Nat)) : RO → OR
 | .p q => opP fr s d q
 | .l q => opL fr s d q
 | .m q => opM fr s d q
 | .w q => opW fr s d q
 | .call f args => opC rec fr s d f args
 | .inv name r args => opI rec mt fr s d name r args
 | .dfr f args => opD fr s d f args
 | .rcv => opR fr s d
 | .pnc x => opN fr s x
def oneX (mt : Nat → String → Option FuncId) (fr : Fr) (s : St) (x : RX) : OR := match wantB fr.tm x.g with
 | none => .no
 | some true => oneOp rec mt fr s x.d x.o
 | some false => putF fr x.d undefV s none
def seqOps (mt : Nat → String → Option FuncId) : List RX → Fr → St → Option Res
 | [], fr, s => some (.code .normal fr s)
 | x :: r, fr, s => match oneX rec mt fr s x with
  | .no => none
  | .ok fr s _ => seqOps mt r fr s
  | .pan v s => some (.pan fr v s)
end
def veq : Nat → Value → Value → Bool
 | _, .int k a, .int j b => Nat.beq (kNum k) (kNum j) && eqF a b
 | _, .bool a, .bool b => bif a then b else not b
 | _, .pointer none, .pointer none => true
 | _, .pointer (some a), .pointer (some b) => Nat.beq a.block b.block && Nat.beq a.off b.off && a.spot.isNone && b.spot.isNone
 | _, .slice none m c, .slice none n d => Nat.beq m n && Nat.beq c d
 | _, .slice (some a) m c, .slice (some b) n d => Nat.beq m n && Nat.beq c d && Nat.beq a.block b.block && Nat.beq a.off b.off && a.spot.isNone && b.spot.isNone
 | _, .map none, .map none => true
 | _, .map (some a), .map (some b) => Nat.beq a b
 | _, .nilFunc, .nilFunc => true
 | _, .nilIface, .nilIface => true
 | _, .string a, .string b => a.data.toList == b.data.toList
 | f + 1, .agg a, .agg b => go f a.toList b.toList
 | f + 1, .tuple a, .tuple b => go f a.toList b.toList
 | f + 1, .func (.func g) a b, .func (.func h) c d => Nat.beq g h && go f a.toList c.toList && go f b.toList d.toList
 | f + 1, .func (.yield g) a b, .func (.yield h) c d => Nat.beq g h && go f a.toList c.toList && go f b.toList d.toList
 | _, _, _ => false
 where go (f : Nat) : List Value → List Value → Bool
 | [], [] => true
 | a :: r, b :: q => veq f a b && go f r q
 | _, _ => false
inductive DR where
 | no
 | ok (fr : Fr) (s : St) (ls : List (Nat × LD × Value)) (gs : List St)
 | pan (v : Value) (s : St) (ls : List (Nat × LD × Value)) (gs : List St) (i : Nat)
def readOf (fr : Fr) (d : Option (Nat × Nat)) (i : Nat) (l : LD) (ls : List (Nat × LD × Value)) : Option (List (Nat × LD × Value)) := match d with
 | none => none
 | some (_, p) => match fr.tm.get p with
  | some v => some ((i, l, v) :: ls)
  | none => none
def restr (tm : Tr Value) : List Nat → Tr Value → Tr Value
 | [], acc => acc
 | t :: r, acc => match tm.get t with
  | none => restr tm r acc
  | some v => match acc.put (some v) t with
   | .lf => restr tm r .lf
   | .nd a b c => restr tm r (.nd a b c)
def oneD (rec : Task → Option Res) (mt : Nat → String → Option FuncId) (ts : List Nat) (fr : Fr) (s : St) (x : RX) : OR := match fr with
 | ⟨fn, tm, n, defs, rd⟩ => match oneX rec mt ⟨fn, restr tm ts .lf, n, defs, rd⟩ s x with
  | .no => .no
  | .pan v s1 => .pan v s1
  | .ok fr1 s1 l => match x.d with
   | none => .ok ⟨fn, tm, n, defs, rd⟩ s1 l
   | some (d, p) => match fr1.tm.get p with
    | some v => putF ⟨fn, tm, n, defs, rd⟩ (some (d, p)) v s1 l
    | none => .no
def drawOps (rec : Task → Option Res) (mt : Nat → String → Option FuncId) : List (RX × List Nat) → Nat → Fr → St → List (Nat × LD × Value) → List St → DR
 | [], _, fr, s, ls, gs => .ok fr s ls gs
 | (x, ts) :: r, i, fr, s, ls, gs => match oneD rec mt ts fr s x with
  | .no => .no
  | .pan v s' => .pan v s' ls gs i
  | .ok fr' s' none => drawOps rec mt r (Nat.succ i) fr' s' ls (bif x.o.loud then gs ++ [s'] else gs)
  | .ok fr' s' (some l) => match readOf fr' x.d i l ls with
   | none => .no
   | some ls' => drawOps rec mt r (Nat.succ i) fr' s' ls' gs
def gapsOk (d : LD) (v : Value) : List St → Bool
 | [] => true
 | s :: r => match evalLD s d with
  | some u => veq 3 u v && gapsOk d v r
  | none => false
def readsOk (ws : List (Nat × Nat)) (gs : List St) : List (Nat × LD × Value) → Bool
 | [] => true
 | (i, d, v) :: r => (match ws[i]? with
  | some (lo, hi) => gapsOk d v ((gs.drop lo).take (Nat.sub (Nat.succ hi) lo))
  | none => false) && readsOk ws gs r
section
variable (E : Env) (rec : Task → Option Res)
def regionF (ops : List Oper) (fr : Fr) (s : St) : Option Res := match compR E ops ops with
 | none => none
 | some l => seqOps rec E.mt l fr s
def lastB (ops : List Oper) (i : Nat) : Bool := let an := ancs ops []
 (List.range ops.length).all fun j => Nat.ble j i || bit (an.getD j 0) i
def dropT (tm : Tr Value) : List Nat → Tr Value
 | [] => tm
 | t :: r => dropT (tm.put none t) r
def dropF (fr : Fr) (ts : List Nat) : Fr := match fr with
 | ⟨fn, tm, n, defs, rd⟩ => ⟨fn, dropT tm ts, n, defs, rd⟩
def regionT (ops : List Oper) (fr : Fr) (s : St) : Option Res := match compD E ops with
 | none => none
 | some (l, ws) => match drawOps rec E.mt (l.zip (ops.map (opTmps ops))) 0 fr s [] [s] with
  | .no => none
  | .pan v s' ls gs i => bif readsOk ws gs ls && lastB ops i then some (.pan (dropF fr (ops.filterMap (·.dst))) v s') else none
  | .ok fr s ls gs => bif readsOk ws gs ls then some (.code .normal fr s) else none
def runDefers : List Deferred → St → Option St
 | [], s => some s
 | d :: r, s => match d.target with
  | .collected b => match s.h.get b with
   | some (.defd true) => runDefers r (setS s b (.defd false))
   | _ => none
  | .fn (.func g) captured => match E.sm g with
   | some _ => none
   | none => match rec (.call g (d.args.toList ++ captured.toList) s) with
    | some (.val _ s') => runDefers r s'
    | _ => none
  | _ => none
def resultsV (fr : Fr) (s : St) : List ResultVar → Option (List Value)
 | [] => some []
 | .tmp t :: r => match fr.tm.get t, resultsV fr s r with
  | some v, some l => some (v :: l)
  | _, _ => none
 | .cell a t :: r => match fr.tm.get a, aggT E t, resultsV fr s r with
  | some (.pointer (some p)), some g, some l => match rLd s g p with
   | some v => some (v :: l)
   | none => none
  | _, _, _ => none
def oneV : List Value → Value
 | [v] => v
 | l => .tuple ⟨l⟩
def argsT : List Value → Nat → Tr Value → Tr Value
 | [], _, t => t
 | v :: r, i, t => match t.put (some v) i with
  | .lf => argsT r (Nat.succ i) .lf
  | .nd a b c => argsT r (Nat.succ i) (.nd a b c)
def parT : List Tmp → List Value → Fr → Option Fr
 | [], [], fr => some fr
 | p :: ps, v :: vs, fr => match setT fr (some (p, p)) v with
  | none => none
  | some fr => parT ps vs fr
 | _, _, _ => none
def endR (l : Nat) (e : Ex) (s : St) : Option Res := match s.h.get l with
 | some (.loop _ _ fn tm n params assign body defs) => match e with
  | .normal => some (.val (.bool true) (setS s l (.loop .ready none fn tm n params assign body defs)))
  | .exit id => some (.val (.bool false) (setS s l (.loop .done (some (.exit id)) fn tm n params assign body defs)))
  | .ret => some (.val (.bool false) (setS s l (.loop .done (some .ret) fn tm n params assign body defs)))
 | _ => none
def midR (l : Nat) (body : Code) (fr : Fr) (s : St) : Option Res := match s.h.get l with
 | some (.loop .ready pend fn tm n params assign bo defs) =>
  match rec (.code body fr (setS s l (.loop .busy pend fn tm n params assign bo defs))) with
  | some (.code e _ s) => endR l e s
  | _ => none
 | _ => none
def roundV (l : Nat) (args : List Value) (s : St) : Option Res := match s.h.get l with
 | some (.loop .ready _ fn tm n params assign body _) => match parT params args ⟨fn, tm, n, [], some l⟩ with
  | none => none
  | some fr => match rec (.code assign fr s) with
   | some (.code .normal fr s) => midR rec l body fr s
   | _ => none
 | _ => none
def jumpC (pend : Option Code) (fr : Fr) (s : St) : Option Res := match pend with
 | none => some (.code .normal fr s)
 | some c => match c with
  | .exit id => some (.code (.exit id) fr s)
  | .ret => some (.code .ret fr s)
  | _ => none
def endRange (r l : Nat) (fr : Fr) (s : St) : Option Res := match s.h.get l with
 | some (.loop st pend fn tm n params assign body defs) =>
  match st with
  | .busy => none
  | _ => jumpC pend (pushD fr { target := .collected r, args := #[] }) (setS s l (.loop .exhausted pend fn tm n params assign body defs))
 | _ => none
def rangeV (f : RP) (params : List Tmp) (assign body : Code) (fr : Fr) (s : St) : Option Res := match fr.rd with
 | some _ => none
 | none => match evalO fr.tm f with
  | none => none
  | some g => match rec (.val g [.func (.yield (nextN s.nx)) #[] #[]]
    (newO (newO s (.defd true)) (.loop .ready none fr.fn fr.tm fr.n params assign body s.nx))) with
   | some (.val _ s') => endRange s.nx (nextN s.nx) fr s'
   | _ => none
def thenC (r : Option Res) (b : Code) : Option Res := match r with
 | some (.code .normal fr s) => rec (.code b fr s)
 | r => r
def blockC (r : Option Res) (id : Nat) : Option Res := match r with
 | some (.code (.exit j) fr s) => bif Nat.beq j id then some (.code .normal fr s) else some (.code (.exit j) fr s)
 | r => r
def condC (fr : Fr) (s : St) (c : RP) (a b : Code) : Option Res := match evalO fr.tm c with
 | some (.bool t) => bif t then rec (.code a fr s) else rec (.code b fr s)
 | _ => none
def codeF (fr : Fr) (s : St) : Code → Option Res
 | .skip => some (.code .normal fr s)
 | .region _ ops draw => bif draw then regionT E rec ops.toList fr s else regionF E rec ops.toList fr s
 | .seq a b => thenC rec (rec (.code a fr s)) b
 | .cond c a b => condC rec fr s (rp c) a b
 | .block id b => blockC (rec (.code b fr s)) id
 | .loop b => thenC rec (rec (.code b fr s)) (.loop b)
 | .rangeFunc f params assign body => rangeV rec (rp f) params.toList assign body fr s
 | .exit id => some (.code (.exit id) fr s)
 | .scope b => rec (.code b fr s)
 | .label _ => some (.code .normal fr s)
 | .goto _ => none
 | .ret => some (.code .ret fr s)
 | .refuse _ => none
def endCall (fn : Func) (e : Ex) (fr : Fr) (s : St) : Option Res := match e with
 | .exit _ => none
 | _ => match runDefers E rec fr.defs s with
  | none => none
  | some s => match resultsV E fr s fn.results.toList with
   | none => none
   | some l => some (.val (oneV l) s)
def armedSeq (v : Value) (fr : Fr) (s : St) : List RX → Option Res
 | [] => none
 | x :: r => match x.o with
  | .rcv => match x.g with
   | some _ => none
   | none => match setT fr x.d v with
    | none => none
    | some fr' => seqOps rec E.mt r fr' s
  | _ => none
def armedC (v : Value) (fr : Fr) (s : St) : Code → Option Res
 | .seq a b => thenC rec (armedC v fr s a) b
 | .region _ ops draw => bif draw then none else match compR E ops.toList ops.toList with
  | none => none
  | some l => armedSeq E rec v fr s l
 | _ => none
def endArmed (fg : Func) (r : Option Res) : Option St := match r with
 | some (.code e fr s) => match e with
  | .exit _ => none
  | _ => match fr.defs with
   | [] => match resultsV E fr s fg.results.toList with
    | some _ => some s
    | none => none
   | _ => none
 | _ => none
def armedF (g : FuncId) (fg : Func) (args : List Value) (v : Value) (s : St) : Option St := match fg.body with
 | none => none
 | some c => bif Nat.ble args.length fg.ntmps then endArmed E fg (armedC E rec v ⟨g, argsT args 0 .lf, fg.ntmps, [], none⟩ s c) else none
def endPan (fn : Func) (fr : Fr) (v : Value) (s : St) : Option Res := match fr.defs with
 | [] => some (.thr v s)
 | [d] => match d.target with
  | .fn (.func g) captured => match E.sm g with
   | some _ => none
   | none => match E.ft g with
    | none => none
    | some fg => match armedF E rec g fg (d.args.toList ++ captured.toList) v s with
     | none => none
     | some s' => match resultsV E fr s' fn.results.toList with
      | none => none
      | some l => some (.val (oneV l) s')
  | _ => none
 | _ => none
def enterF (f : FuncId) (fn : Func) (args : List Value) (s : St) : Option Res := match fn.body with
 | none => none
 | some c => bif Nat.ble args.length fn.ntmps then (match rec (.code c ⟨f, argsT args 0 .lf, fn.ntmps, [], none⟩ s) with
  | some (.code e fr s) => endCall E rec fn e fr s
  | some (.pan fr v s) => endPan E rec fn fr v s
  | _ => none) else none
def sumF (r : Option (Value × St)) : Option Res := match r with
 | some (v, s) => some (.val v s)
 | none => none
def callF (f : FuncId) (args : List Value) (s : St) : Option Res := match E.sm f with
 | some g => sumF (g args s)
 | none => match E.ft f with
  | none => none
  | some fn => enterF E rec f fn args s
def valF (f : Value) (args : List Value) (s : St) : Option Res := match f with
 | .func (.func g) first captured => rec (.call g (first.toList ++ (args ++ captured.toList)) s)
 | .func (.yield l) _ _ => roundV rec l args s
 | _ => none
def body : Task → Option Res
 | .code c fr s => codeF E rec fr s c
 | .call f args s => callF E rec f args s
 | .val f args s => valF rec f args s
end
def ev (E : Env) (n : Nat) : Task → Option Res :=
 Nat.rec (motive := fun _ => Task → Option Res) (fun _ => none) (fun _ ih t => body E ih t) n
end
end Go.Eng
end
section
namespace Go.Eng
variable {α : Type}
theorem Tr.get_lf (k : Nat) : (Tr.lf : Tr α).get k = none := rfl
theorem Tr.get_nd (l : Tr α) (x : Option α) (r : Tr α) (k : Nat) :
  (Tr.nd l x r).get k = if k = 0 then x else if k % 2 = 0 then r.get (k / 2) else l.get (k / 2) := by
 by_cases h : k = 0
 ·subst h; rfl
 ·have h1 : Nat.beq k 0 = false := by cases k with | zero => exact absurd rfl h | succ n => rfl
  show Bool.rec (motive := fun _ => Option α) _ x (Nat.beq k 0) = _
  rw [h1, if_neg h]
  show Bool.rec (motive := fun _ => Option α) (l.get (Nat.div k 2)) (r.get (Nat.div k 2)) (Nat.beq (Nat.mod k 2) 0) = _
  by_cases h2 : k % 2 = 0
  ·have : Nat.beq (Nat.mod k 2) 0 = true := by show Nat.beq (k % 2) 0 = true; rw [h2]; rfl
   rw [this, if_pos h2]; rfl
  ·have : Nat.beq (Nat.mod k 2) 0 = false := by
    show Nat.beq (k % 2) 0 = false
    cases hh : k % 2 with | zero => exact absurd hh h2 | succ n => rfl
   rw [this, if_neg h2]; rfl
theorem Tr.get_left (x : Option α) (r t : Tr α) (k : Nat) : (Tr.left x r t).get k = (Tr.nd t x r).get k := by cases t <;> rfl
theorem Tr.get_right (l : Tr α) (x : Option α) (t : Tr α) (k : Nat) : (Tr.right l x t).get k = (Tr.nd l x t).get k := by cases t <;> rfl
theorem Tr.one_succ (v : Option α) (f k : Nat) : Tr.one v (f + 1) k = if k = 0 then .nd .lf v .lf else if k % 2 = 0 then Tr.right .lf none (Tr.one v f (k / 2)) else Tr.left none .lf (Tr.one v f (k / 2)) := by
 by_cases h : k = 0
 ·subst h; rfl
 ·have h1 : Nat.beq k 0 = false := by cases k with | zero => exact absurd rfl h | succ n => rfl
  show Bool.rec (motive := fun _ => Tr α) _ _ (Nat.beq k 0) = _
  rw [h1, if_neg h]
  show Bool.rec (motive := fun _ => Tr α) _ _ (Nat.beq (Nat.mod k 2) 0) = _
  by_cases h2 : k % 2 = 0
  ·have : Nat.beq (Nat.mod k 2) 0 = true := by show Nat.beq (k % 2) 0 = true; rw [h2]; rfl
   rw [this, if_pos h2]; rfl
  ·have : Nat.beq (Nat.mod k 2) 0 = false := by
    show Nat.beq (k % 2) 0 = false
    cases hh : k % 2 with | zero => exact absurd hh h2 | succ n => rfl
   rw [this, if_neg h2]; rfl
theorem Tr.put_nd (v : Option α) (k : Nat) (l : Tr α) (x : Option α) (r : Tr α) : Tr.put v k (.nd l x r) = if k = 0 then .nd l v r else if k % 2 = 0 then Tr.right l x (Tr.put v (k / 2) r) else Tr.left x r (Tr.put v (k / 2) l) := by
 by_cases h : k = 0
 ·subst h; rfl
 ·have h1 : Nat.beq k 0 = false := by cases k with | zero => exact absurd rfl h | succ n => rfl
  show Bool.rec (motive := fun _ => Tr α) _ _ (Nat.beq k 0) = _
  rw [h1, if_neg h]
  show Bool.rec (motive := fun _ => Tr α) _ _ (Nat.beq (Nat.mod k 2) 0) = _
  by_cases h2 : k % 2 = 0
  ·have : Nat.beq (Nat.mod k 2) 0 = true := by show Nat.beq (k % 2) 0 = true; rw [h2]; rfl
   rw [this, if_pos h2]; rfl
  ·have : Nat.beq (Nat.mod k 2) 0 = false := by
    show Nat.beq (k % 2) 0 = false
    cases hh : k % 2 with | zero => exact absurd hh h2 | succ n => rfl
   rw [this, if_neg h2]; rfl
theorem half_inj {a b : Nat} (h : a % 2 = b % 2) (h' : a / 2 = b / 2) : a = b := by omega
theorem Tr.get_one (v : Option α) : ∀ (f k j : Nat) (o : α), (Tr.one v f k).get j = some o → j = k ∧ v = some o
 | 0, k, j, o, h => by cases h
 | f + 1, k, j, o, h => by
  rw [Tr.one_succ] at h
  by_cases hk : k = 0
  ·rw [if_pos hk, Tr.get_nd] at h
   by_cases hj : j = 0
   ·rw [if_pos hj] at h; exact ⟨by rw [hj, hk], h⟩
   ·rw [if_neg hj] at h; split at h <;> cases h
  ·rw [if_neg hk] at h
   by_cases h2 : k % 2 = 0
   ·rw [if_pos h2, Tr.get_right, Tr.get_nd] at h
    by_cases hj : j = 0
    ·rw [if_pos hj] at h; cases h
    ·rw [if_neg hj] at h
     by_cases hj2 : j % 2 = 0
     ·rw [if_pos hj2] at h
      obtain ⟨e, hv⟩ := Tr.get_one v f _ _ o h
      exact ⟨half_inj (by omega) e, hv⟩
     ·rw [if_neg hj2] at h; cases h
   ·rw [if_neg h2, Tr.get_left, Tr.get_nd] at h
    by_cases hj : j = 0
    ·rw [if_pos hj] at h; cases h
    ·rw [if_neg hj] at h
     by_cases hj2 : j % 2 = 0
     ·rw [if_pos hj2] at h; cases h
     ·rw [if_neg hj2] at h
      obtain ⟨e, hv⟩ := Tr.get_one v f _ _ o h
      exact ⟨half_inj (by omega) e, hv⟩
theorem Tr.get_put (v : Option α) : ∀ (t : Tr α) (k j : Nat) (o : α), (Tr.put v k t).get j = some o → (j = k ∧ v = some o) ∨ (j ≠ k ∧ t.get j = some o)
 | .lf, k, j, o, h => .inl (Tr.get_one v (k + 1) k j o h)
 | .nd l x r, k, j, o, h => by
  rw [Tr.put_nd] at h
  by_cases hk : k = 0
  ·rw [if_pos hk, Tr.get_nd] at h
   by_cases hj : j = 0
   ·rw [if_pos hj] at h; exact .inl ⟨by rw [hj, hk], h⟩
   ·rw [if_neg hj] at h; refine .inr ⟨by omega, ?_⟩; rw [Tr.get_nd, if_neg hj]; exact h
  ·rw [if_neg hk] at h
   by_cases h2 : k % 2 = 0
   ·rw [if_pos h2, Tr.get_right, Tr.get_nd] at h
    by_cases hj : j = 0
    ·rw [if_pos hj] at h; refine .inr ⟨by omega, ?_⟩; rw [Tr.get_nd, if_pos hj]; exact h
    ·rw [if_neg hj] at h
     by_cases hj2 : j % 2 = 0
     ·rw [if_pos hj2] at h
      rcases Tr.get_put v r _ _ o h with ⟨e, hv⟩ | ⟨e, hv⟩
      ·exact .inl ⟨half_inj (by omega) e, hv⟩
      ·refine .inr ⟨fun he => e (by rw [he]), ?_⟩
       rw [Tr.get_nd, if_neg hj, if_pos hj2]; exact hv
     ·rw [if_neg hj2] at h
      refine .inr ⟨fun he => hj2 (by rw [he]; exact h2), ?_⟩
      rw [Tr.get_nd, if_neg hj, if_neg hj2]; exact h
   ·rw [if_neg h2, Tr.get_left, Tr.get_nd] at h
    by_cases hj : j = 0
    ·rw [if_pos hj] at h; refine .inr ⟨by omega, ?_⟩; rw [Tr.get_nd, if_pos hj]; exact h
    ·rw [if_neg hj] at h
     by_cases hj2 : j % 2 = 0
     ·rw [if_pos hj2] at h
      refine .inr ⟨fun he => h2 (by rw [← he]; exact hj2), ?_⟩
      rw [Tr.get_nd, if_neg hj, if_pos hj2]; exact h
     ·rw [if_neg hj2] at h
      rcases Tr.get_put v l _ _ o h with ⟨e, hv⟩ | ⟨e, hv⟩
      ·exact .inl ⟨half_inj (by omega) e, hv⟩
      ·refine .inr ⟨fun he => e (by rw [he]), ?_⟩
       rw [Tr.get_nd, if_neg hj, if_neg hj2]; exact hv
theorem setS_h (s : St) (id : Nat) (o : AO) : (setS s id o).h = Tr.put (some o) id s.h := by
 obtain ⟨h, nx⟩ := s
 simp only [setS]
 cases hh : Tr.put (some o) id h <;> rfl
theorem setS_nx (s : St) (id : Nat) (o : AO) : (setS s id o).nx = s.nx := by
 obtain ⟨h, nx⟩ := s
 simp only [setS]
 cases hh : Tr.put (some o) id h <;> rfl
theorem delS_h (s : St) (id : Nat) : (delS s id).h = Tr.put none id s.h := by
 obtain ⟨h, nx⟩ := s
 simp only [delS]
 cases hh : Tr.put none id h <;> rfl
theorem delS_nx (s : St) (id : Nat) : (delS s id).nx = s.nx := by
 obtain ⟨h, nx⟩ := s
 simp only [delS]
 cases hh : Tr.put none id h <;> rfl
theorem nextN_eq (n : Nat) : nextN n = n + 1 := by cases n <;> rfl
theorem newO_h (s : St) (o : AO) : (newO s o).h = Tr.put (some o) s.nx s.h := by
 obtain ⟨h, nx⟩ := s
 simp only [newO]
 cases hh : Tr.put (some o) nx h <;> rfl
theorem newO_nx (s : St) (o : AO) : (newO s o).nx = s.nx + 1 := by
 obtain ⟨h, nx⟩ := s
 simp only [newO]
 cases hh : Tr.put (some o) nx h <;> exact nextN_eq nx
theorem revA_eq : ∀ (a b : List Value), revA a b = a.reverse ++ b
 | [], b => rfl
 | v :: a, b => by
  show revA a (v :: b) = _
  rw [revA_eq a (v :: b)]; simp
theorem headT_eq : ∀ (n : Nat) (l acc : List Value), headT n l acc = if n ≤ l.length then some (acc.reverse ++ l.take n) else none
 | 0, l, acc => by show some (revA acc []) = _; rw [revA_eq]; simp
 | n + 1, [], acc => by show none = _; simp
 | n + 1, v :: l, acc => by
  show headT n l (v :: acc) = _
  rw [headT_eq n l (v :: acc)]
  by_cases h : n ≤ l.length
  ·rw [if_pos h, if_pos (by simp; omega)]; simp
  ·rw [if_neg h, if_neg (by simp; omega)]
theorem headL_eq (l : List Value) (n : Nat) : headL l n = if n ≤ l.length then some (l.take n) else none := by
 unfold headL; rw [headT_eq]; simp
theorem tailL_eq : ∀ (n : Nat) (l : List Value), tailL l n = if n ≤ l.length then some (l.drop n) else none
 | 0, l => by show some l = _; simp
 | n + 1, [] => by show none = _; simp
 | n + 1, v :: l => by
  show tailL l n = _
  rw [tailL_eq n l]
  by_cases h : n ≤ l.length
  ·rw [if_pos h, if_pos (by simp; omega)]; simp
  ·rw [if_neg h, if_neg (by simp; omega)]
theorem rowAt_eq (l : List Value) (i n : Nat) : rowAt l i n = if i + n ≤ l.length then some ((l.drop i).take n) else none := by
 unfold rowAt
 rw [tailL_eq]
 by_cases h : i ≤ l.length
 ·rw [if_pos h]
  show headL (l.drop i) n = _
  rw [headL_eq]
  by_cases h2 : i + n ≤ l.length
  ·rw [if_pos (by simp; omega), if_pos h2]
  ·rw [if_neg (by simp; omega), if_neg h2]
 ·rw [if_neg h, if_neg (by omega)]
theorem nth_eq : ∀ (i : Nat) (l : List Value), nth l i = l[i]?
 | 0, [] => rfl
 | 0, v :: l => rfl
 | i + 1, [] => rfl
 | i + 1, v :: l => by show nth l i = _; rw [nth_eq i l]; simp
theorem overT_eq : ∀ (vs cs acc : List Value), overT vs cs acc = if vs.length ≤ cs.length then some (acc.reverse ++ (vs ++ cs.drop vs.length)) else none
 | [], cs, acc => by show some (revA acc cs) = _; rw [revA_eq]; simp
 | v :: vs, [], acc => by show none = _; simp
 | v :: vs, c :: cs, acc => by
  show overT vs cs (v :: acc) = _
  rw [overT_eq vs cs (v :: acc)]
  by_cases h : vs.length ≤ cs.length
  ·rw [if_pos h, if_pos (by simp; omega)]; simp
  ·rw [if_neg h, if_neg (by simp; omega)]
theorem layT_eq (vs : List Value) : ∀ (i : Nat) (cs acc : List Value), layT vs i cs acc = if i + vs.length ≤ cs.length then some (acc.reverse ++ (cs.take i ++ (vs ++ cs.drop (i + vs.length)))) else none
 | 0, cs, acc => by show overT vs cs acc = _; rw [overT_eq]; simp
 | i + 1, [], acc => by show none = _; rw [if_neg (by simp)]
 | i + 1, c :: cs, acc => by
  show layT vs i cs (c :: acc) = _
  rw [layT_eq vs i cs (c :: acc)]
  by_cases h : i + vs.length ≤ cs.length
  ·rw [if_pos h, if_pos (by simp; omega)]
   rw [show i + 1 + vs.length = (i + vs.length) + 1 from by omega]; simp
  ·rw [if_neg h, if_neg (by simp; omega)]
theorem layL_eq (cs : List Value) (i : Nat) (vs : List Value) : layL cs i vs = if i + vs.length ≤ cs.length then some (cs.take i ++ (vs ++ cs.drop (i + vs.length))) else none := by
 unfold layL; rw [layT_eq]; simp
end Go.Eng
end
