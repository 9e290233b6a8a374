/- A runner of closed Go code over an abstract memory: what it computes. -/
import Derived.Orders
import Derived.KernelRfl
import Derived.Test.YtgfcakdpfedokaaProg
namespace Go.Proofs.Ytgfcakdpfedokaa
namespace Rn
noncomputable section
set_option linter.unusedVariables false

/-- values with memory by abstract numbers; 'sl id off len cap op': 'op' says that there may be more room than 'cap'; 'se id off': an empty slice at the end of such a block; 'unk': any value. -/
inductive AV where
  | unk
  | b (x : Bool)
  | i (k : IntKind) (n : Int)
  | s (x : ByteArray)
  | p0
  | p (id off : Nat)
  | sl0
  | sl (id off len cap : Nat) (op : Bool)
  | se (id off : Nat)
  | m0
  | m (id : Nat)
  | f0
  | f (fn : Fn) (first cap : List AV)
  | c0
  | c (t : TypeId) (v : AV)
  | agg (l : List AV)
  | tup (l : List AV)
  | y (id : Nat)
  | dfs (l : List Nat)
  deriving Inhabited

def AV.cells : AV → List AV
  | .agg l => l
  | v => [v]

def AV.flat : AV → Bool
  | .agg _ | .tup _ | .unk | .dfs _ => false
  | _ => true

def boxable : AV → Bool
  | .agg _ => true
  | v => v.flat

def ofFlat : Value → Option AV
  | .bool x => some (.b x)
  | .int k n => some (.i k n)
  | .string x => some (.s x)
  | .pointer none => some .p0
  | .slice none 0 0 => some .sl0
  | .map none => some .m0
  | .nilFunc => some .f0
  | .nilIface => some .c0
  | .func fn first cap => bif first.size == 0 && cap.size == 0 then some (.f fn [] []) else none
  | _ => none

def ofFlats : List Value → Option (List AV)
  | [] => some []
  | v :: l => match ofFlat v with
    | none => none
    | some x => match ofFlats l with
      | none => none
      | some xs => some (x :: xs)

def ofValue : Value → Option AV
  | .agg a => (ofFlats a.toList).map .agg
  | .tuple a => (ofFlats a.toList).map .tup
  | v => ofFlat v

/-- eight places -/
structure N8 (β : Type) where
  c0 : β
  c1 : β
  c2 : β
  c3 : β
  c4 : β
  c5 : β
  c6 : β
  c7 : β
inductive Dg where
  | d0 | d1 | d2 | d3 | d4 | d5 | d6 | d7
  deriving DecidableEq
def N8.all {β : Type} (x : β) : N8 β := ⟨x, x, x, x, x, x, x, x⟩
def N8.get {β : Type} (d : Dg) : N8 β → β :=
  Dg.rec (motive := fun _ => N8 β → β) N8.c0 N8.c1 N8.c2 N8.c3 N8.c4 N8.c5 N8.c6 N8.c7 d
def N8.u0 {β : Type} (f : β → β) (t : N8 β) : N8 β := N8.rec (motive := fun _ => N8 β) (fun a b c d e g h i => ⟨f a, b, c, d, e, g, h, i⟩) t
def N8.u1 {β : Type} (f : β → β) (t : N8 β) : N8 β := N8.rec (motive := fun _ => N8 β) (fun a b c d e g h i => ⟨a, f b, c, d, e, g, h, i⟩) t
def N8.u2 {β : Type} (f : β → β) (t : N8 β) : N8 β := N8.rec (motive := fun _ => N8 β) (fun a b c d e g h i => ⟨a, b, f c, d, e, g, h, i⟩) t
def N8.u3 {β : Type} (f : β → β) (t : N8 β) : N8 β := N8.rec (motive := fun _ => N8 β) (fun a b c d e g h i => ⟨a, b, c, f d, e, g, h, i⟩) t
def N8.u4 {β : Type} (f : β → β) (t : N8 β) : N8 β := N8.rec (motive := fun _ => N8 β) (fun a b c d e g h i => ⟨a, b, c, d, f e, g, h, i⟩) t
def N8.u5 {β : Type} (f : β → β) (t : N8 β) : N8 β := N8.rec (motive := fun _ => N8 β) (fun a b c d e g h i => ⟨a, b, c, d, e, f g, h, i⟩) t
def N8.u6 {β : Type} (f : β → β) (t : N8 β) : N8 β := N8.rec (motive := fun _ => N8 β) (fun a b c d e g h i => ⟨a, b, c, d, e, g, f h, i⟩) t
def N8.u7 {β : Type} (f : β → β) (t : N8 β) : N8 β := N8.rec (motive := fun _ => N8 β) (fun a b c d e g h i => ⟨a, b, c, d, e, g, h, f i⟩) t
def N8.upd {β : Type} (d : Dg) : (β → β) → N8 β → N8 β :=
  Dg.rec (motive := fun _ => (β → β) → N8 β → N8 β) N8.u0 N8.u1 N8.u2 N8.u3 N8.u4 N8.u5 N8.u6 N8.u7 d
def dg (n : Nat) : Dg :=
  match n % 8 with
  | 0 => .d0
  | 1 => .d1
  | 2 => .d2
  | 3 => .d3
  | 4 => .d4
  | 5 => .d5
  | 6 => .d6
  | _ => .d7
/-- 512 places -/
abbrev T (α : Type) := N8 (N8 (N8 (Option α)))
def T.nil {α : Type} : T α := N8.all (N8.all (N8.all none))
def T.get {α : Type} (t : T α) (n : Nat) : Option α := N8.get (dg n) (N8.get (dg (n / 8)) (N8.get (dg (n / 64)) t))
def T.set {α : Type} (t : T α) (n : Nat) (v : Option α) : T α :=
  N8.upd (dg (n / 64)) (N8.upd (dg (n / 8)) (N8.upd (dg n) (fun _ => v))) t
/-- 32768 places -/
abbrev H (α : Type) := N8 (N8 (T α))
def H.nil {α : Type} : H α := N8.all (N8.all T.nil)
def H.get {α : Type} (t : H α) (n : Nat) : Option α := T.get (N8.get (dg (n / 512)) (N8.get (dg (n / 4096)) t)) n
def H.set {α : Type} (t : H α) (n : Nat) (v : Option α) : H α :=
  N8.upd (dg (n / 4096)) (N8.upd (dg (n / 512)) (fun t => T.set t n v)) t

inductive Jmp where
  | ret
  | exit (id : Nat)
inductive AObj where
  | cells (l : List AV) (sz : Nat)
  | mp (es : List (AV × AV × Nat)) (clock : Nat)
  | lp (st : Nat) (j : Option Jmp) (tm : T AV) (nt : Nat) (ps : List Tmp) (assign body : Code)
  | df (taken : Bool)

structure St where
  h : H AObj
  nx : Nat
  rd : Nat
  wr : Nat

def bit (n : Nat) : Nat := Nat.shiftLeft 1 n

def St.look (S : St) (id : Nat) : Option (AObj × St) :=
  match H.get S.h id with
  | none => none
  | some o => bif Nat.beq (Nat.lor S.rd (bit id)) 0 then none else bif Nat.ble 32768 id then none else some (o, ⟨S.h, S.nx, Nat.lor S.rd (bit id), S.wr⟩)

def St.put (S : St) (id : Nat) (o : Option AObj) : Option St :=
  bif Nat.beq (Nat.lor S.wr (bit id)) 0 then none else some ⟨H.set S.h id o, S.nx, S.rd, Nat.lor S.wr (bit id)⟩

def St.new (S : St) (o : AObj) : Option (Nat × St) :=
  bif Nat.beq (Nat.lor S.wr (bit S.nx)) 0 then none else
  bif Nat.ble 32767 S.nx then none else
  some (S.nx, ⟨H.set S.h S.nx (some o), S.nx + 1, S.rd, Nat.lor S.wr (bit S.nx)⟩)

/-- the program -/
@[irreducible] def PP : Program := Try.prog

section ops

def szT (t : TypeId) : Option Nat := (PP.info? t).map (·.size)
def bytesT (t : TypeId) : Option Nat := (PP.info? t).map (·.bytes)
def aggT (t : TypeId) : Option Bool := match PP.underlying t with
  | some (.struct _) | some (.array _ _) => some true
  | some _ => some false
  | none => none
def zeroT (t : TypeId) : Option (List AV) := match PP.info? t with
  | some i => match i.zero with
    | some z => (ofValue z).map AV.cells
    | none => none
  | none => none
def elemT (t : TypeId) : Option TypeId := match PP.underlying t with
  | some (.slice e) => some e
  | _ => none
def fieldT (t : TypeId) (k : Nat) : Option Field := match PP.underlying t with
  | some (.struct fs) => fs[k]?
  | _ => none
def callable (f : FuncId) : Bool := match PP.funcs[f]? with
  | some fn => fn.name != "runtime.NumGoroutine" && fn.body.isSome
  | none => false

def getO (t : Nat) (tm : T AV) : Option AV := Bool.rec (motive := fun _ => Option AV) none (T.get tm t) (Nat.blt t 511)
def evalO (o : Operand) : T AV → Option AV :=
  Operand.rec (motive := fun _ => T AV → Option AV) getO (fun v _ => ofValue v) (fun _ _ => none) (fun f _ => some (.f (.func f) [] [])) o

def evalLc (x : Option AV) (xs : Option (List AV)) : Option (List AV) :=
  match x with
  | none => none
  | some x => match xs with
    | none => none
    | some xs => some (x :: xs)
def evalL (l : List Operand) (tm : T AV) : Option (List AV) :=
  List.rec (motive := fun _ => Option (List AV)) (some []) (fun o _ r => evalLc (evalO o tm) r) l

def splice (l : List AV) (off : Nat) (vs : List AV) : List AV := l.take off ++ (vs ++ l.drop (off + vs.length))

/-- n cells from off on, if all are there -/
def window (l : List AV) (off n : Nat) : Option (List AV) :=
  bif Nat.ble (off + n) l.length then some ((l.drop off).take n) else none

def aPart (t : TypeId) (cs : List AV) (off : Nat) : Option AV :=
  match aggT t with
  | some true => match szT t with
    | some n => (window cs off n).map .agg
    | none => none
  | some false => cs[off]?
  | none => none

def aLoad (t : TypeId) (a : AV) (S : St) : Option (AV × St) :=
  match a with
  | .p id off => match S.look id with
    | some (.cells l _, S') => match aPart t l off with
      | some v => some (v, S')
      | none => none
    | _ => none
  | _ => none

def aStore (t : TypeId) (a v : AV) (S : St) : Option St :=
  match a with
  | .p id off => match S.look id with
    | some (.cells l sz, S') =>
      bif v.cells.all AV.flat && (szT t == some v.cells.length) && Nat.ble (off + v.cells.length) l.length then S'.put id (some (.cells (splice l off v.cells) sz)) else none
    | _ => none
  | _ => none

def aNew (l : List AV) (sz : Nat) (S : St) : Option (Nat × St) := S.new (.cells l sz)

def aFill (place : Nat → Option (Nat × Nat)) : List AV → List (Nat × AV) → Option (List AV)
  | cs, [] => some cs
  | cs, (i, v) :: rest => match place i with
    | none => none
    | some (off, size) =>
      bif Nat.beq v.cells.length size && Nat.ble (off + v.cells.length) cs.length && boxable v then aFill place (splice cs off v.cells) rest else none

def evalP (l : List (Nat × Operand)) (tm : T AV) : Option (List (Nat × AV)) :=
  match l with
  | [] => some []
  | (i, o) :: l => match evalO o tm with
    | none => none
    | some x => match evalP l tm with
      | none => none
      | some xs => some ((i, x) :: xs)

def placesT (fs : List Field) : Option (List (Nat × Nat)) := match fs with
  | [] => some []
  | f :: l => match szT f.type with
    | none => none
    | some n => match placesT l with
      | none => none
      | some r => some ((f.offset, n) :: r)

def aBuild (t : TypeId) (parts : List (Nat × AV)) : Option AV :=
  match zeroT t with
  | none => none
  | some z => match PP.underlying t with
    | some (.struct fs) => match placesT fs.toList with
      | none => none
      | some pl => (aFill (fun i => pl[i]?) z parts).map .agg
    | some (.array _ e) => match szT e with
      | none => none
      | some n => (aFill (fun i => some (i * n, n)) z parts).map .agg
    | _ => none

def reps (z : List AV) : Nat → List AV
  | 0 => []
  | n + 1 => reps z n ++ z

def aBuildSlice (t : TypeId) (len : Nat) (parts : List (Nat × AV)) (S : St) : Option (AV × St) :=
  match elemT t with
  | none => none
  | some e => match szT e with
    | none => none
    | some n => match zeroT e with
      | none => none
      | some z =>
        bif Nat.ble (len * n) 16777216 && Nat.beq z.length n && Nat.blt 0 n then
          match aFill (fun i => some (i * n, n)) (reps z len) parts with
          | none => none
          | some cs => match aNew cs n S with
            | some (id, S') => some (.sl id 0 len len false, S')
            | none => none
        else none

def aField (t : TypeId) (x : AV) (k : Nat) : Option AV :=
  match fieldT t k, x with
  | some f, .agg cs => aPart f.type cs f.offset
  | _, _ => none

def aFieldAt (t : TypeId) (x : AV) (k : Nat) : Option AV :=
  match fieldT t k, x with
  | some f, .p id off => match szT f.type with
    | some (_ + 1) => some (.p id (off + f.offset))
    | _ => none
  | _, _ => none

def aIndexAt (t : TypeId) (x ix : AV) : Option AV :=
  match ix with
  | .i _ n => match PP.underlying t, x with
    | some (.slice e), .sl id off len _ _ => match szT e with
      | some sz => bif Nat.blt n.toNat len && decide (0 ≤ n) then some (.p id (off + n.toNat * sz)) else none
      | none => none
    | some (.array len e), .p id off => match szT e with
      | some sz => bif Nat.blt n.toNat len && decide (0 ≤ n) then some (.p id (off + n.toNat * sz)) else none
      | none => none
    | _, _ => none
  | _ => none

def aIndex (t : TypeId) (x ix : AV) : Option AV :=
  match ix with
  | .i _ n => match PP.underlying t, x with
    | some (.array len e), .agg cs => match szT e with
      | some sz => bif Nat.blt n.toNat len && decide (0 ≤ n) then aPart e cs (n.toNat * sz) else none
      | none => none
    | some .string, .s x => bif decide (0 ≤ n) then (x[n.toNat]?).map fun b => .i .u8 b.toNat else none
    | _, _ => none
  | _ => none

def optN (d : Nat) : Option AV → Option Nat
  | none => some d
  | some (.i _ n) => bif decide (0 ≤ n) then some n.toNat else none
  | _ => none

def optS : Option AV → Option Nat
  | some (.i _ n) => bif decide (0 ≤ n) then some n.toNat else none
  | _ => none

def aSlice (t : TypeId) (x : AV) (lo hi mx : Option AV) : Option AV :=
  match PP.underlying t, x with
  | some .string, .s y => match mx with
    | some _ => none
    | none => match optN y.size hi, optN 0 lo with
      | some h, some l => bif Nat.ble l h && Nat.ble h y.size then some (.s (y.extract l h)) else none
      | _, _ => none
  | some (.slice e), .sl0 => match szT e, mx, optN 0 hi, optN 0 lo with
    | some _, none, some 0, some 0 => some .sl0
    | _, _, _, _ => none
  | some (.slice e), .se id off => match szT e, mx, optN 0 hi, optN 0 lo with
    | some _, none, some 0, some 0 => some (.se id off)
    | _, _, _, _ => none
  | some (.slice e), .sl id off len cap op => match szT e with
    | none => none
    | some sz => match mx with
      | some _ => match optS mx, optS hi, optN 0 lo with
        | some m, some h, some l => bif Nat.ble l h && Nat.ble h m && Nat.ble m cap then some (.sl id (bif Nat.beq m l then off else off + l * sz) (h - l) (m - l) false) else none
        | _, _, _ => none
      | none => match optN len hi, optN 0 lo with
        | some h, some l =>
          bif Nat.ble l h && Nat.ble h cap then
            (bif Nat.beq l cap then (bif op then some (.se id (off + l * sz)) else some (.sl id off 0 0 false))
             else some (.sl id (off + l * sz) (h - l) (cap - l) op))
          else none
        | _, _ => none
  | _, _ => none

def aMakeSlice (t : TypeId) (len cap : AV) (S : St) : Option (AV × St) :=
  match len, cap, elemT t with
  | .i _ l, .i _ c, some e => match szT e, bytesT e, zeroT e with
    | some n, some by_, some z =>
      bif decide (0 ≤ l) && decide (l ≤ c) && Nat.ble (c.toNat * by_) 1073741824 && Nat.ble c.toNat 1073741824 && Nat.beq z.length n && Nat.blt 0 n then
        match aNew (reps z c.toNat) n S with
        | some (id, S') => some (.sl id 0 l.toNat c.toNat false, S')
        | none => none
      else none
    | _, _, _ => none
  | _, _, _ => none

/-- the first n elements of size sz -/
def aFirst (sz n : Nat) (x : AV) (S : St) : Option (List AV × St) :=
  match x with
  | .sl0 => bif Nat.beq n 0 then some ([], S) else none
  | .se _ _ => bif Nat.beq n 0 then some ([], S) else none
  | .sl id off _ _ _ => match S.look id with
    | some (.cells l _, S') => match window l off (n * sz) with
      | some r => some (r, S')
      | none => none
    | _ => none
  | .s y => bif Nat.beq n y.size && Nat.beq sz 1 then some (y.data.toList.map fun b => .i .u8 b.toNat, S) else none
  | _ => none

def aLen : AV → Option Nat
  | .sl0 => some 0
  | .se _ _ => some 0
  | .sl _ _ len _ _ => some len
  | .s y => some y.size
  | _ => none

def growS (new : List AV) (sz need : Nat) (S : St) : Option (AV × St) :=
  match aNew new sz S with
  | some (id, S) => some (.sl id 0 need need true, S)
  | none => none
def killNew (id : Nat) (new : List AV) (sz need : Nat) (S : St) : Option (AV × St) :=
  match S.put id none with
  | some S => growS new sz need S
  | none => none
def small (by_ need : Nat) : Bool := Nat.ble (need * by_) 1073741824 && Nat.ble need 1073741824
/-- slices.Insert of one element of 13 cells ahead of the end of a row whose room is not known -/
def insCells (i : Nat) (old new : List AV) : List AV := old.take (i * 13) ++ (new ++ old.drop (i * 13))
def ins3 (id off len i : Nat) (new l : List AV) (S : St) : Option (AV × St) :=
  bif Nat.beq (off + len * 13) l.length && Nat.blt i len && small 120 (len + 1) && l.all AV.flat && new.all AV.flat then killNew id (insCells i (l.drop off) new) 13 (len + 1) S else none
def ins2 (id off len vid voff i : Nat) (S : St) : Option (AV × St) :=
  match S.look id with
  | some (.cells l sz, S) => bif Nat.beq sz 13 then
      (match S.look vid with
       | some (.cells lv _, S) => match window lv voff 13 with
         | some new => ins3 id off len i new l S
         | none => none
       | _ => none) else none
  | _ => none
def insA (args : List AV) (S : St) : Option (AV × St) :=
  match args with
  | [.sl id off len cap op, .i .i64 (.ofNat i), .sl vid voff vlen _ _] => bif op && Nat.beq cap len && Nat.beq vlen 1 && !(Nat.beq vid id) then ins2 id off len vid voff i S else none
  | _ => none
def appNil (sz by_ n : Nat) (new : List AV) (S : St) : Option (AV × St) :=
  bif Nat.beq n 0 then some (.sl0, S) else bif small by_ n then growS new sz n S else none
def appSe2 (id off sz by_ n : Nat) (new : List AV) (r : Option (AObj × St)) : Option (AV × St) :=
  match r with
  | some (.cells l sz', S) => bif Nat.beq sz sz' && Nat.beq off l.length && small by_ n && new.all AV.flat then killNew id new sz n S else none
  | _ => none
def appSe (id off sz by_ n : Nat) (new : List AV) (S : St) : Option (AV × St) :=
  bif Nat.beq n 0 then some (.se id off, S) else appSe2 id off sz by_ n new (S.look id)
def appRoom (id off sz len n cap : Nat) (op : Bool) (new l : List AV) (S : St) : Option (AV × St) :=
  bif Nat.ble (off + len * sz + new.length) l.length && new.all AV.flat then
    (match S.put id (some (.cells (splice l (off + len * sz) new) sz)) with
     | some S => some (.sl id off (len + n) cap op, S)
     | none => none)
  else none
def appGrow (id off sz len n cap : Nat) (op : Bool) (new l : List AV) (S : St) : Option (AV × St) :=
  match window l off (len * sz) with
  | none => none
  | some old => bif op then
      (bif Nat.beq (off + cap * sz) l.length && new.all AV.flat then killNew id (old ++ new) sz (len + n) S else none)
    else growS (old ++ new) sz (len + n) S
def appSl2 (id off sz by_ len n cap : Nat) (op : Bool) (new : List AV) (r : Option (AObj × St)) : Option (AV × St) :=
  match r with
  | some (.cells l sz', S) => bif Nat.beq sz sz' && small by_ (len + n + cap) then
      (bif Nat.ble (len + n) cap then appRoom id off sz len n cap op new l S else appGrow id off sz len n cap op new l S) else none
  | _ => none
def appAny (s : AV) (sz by_ n : Nat) (r : Option (List AV × St)) : Option (AV × St) :=
  match r with
  | none => none
  | some (new, S) => match s with
    | .sl0 => appNil sz by_ n new S
    | .se id off => appSe id off sz by_ n new S
    | .sl id off len cap op => appSl2 id off sz by_ len n cap op new (S.look id)
    | _ => none
def aAppend (t : TypeId) (s x : AV) (S : St) : Option (AV × St) :=
  match elemT t, aLen x with
  | some e, some n => match szT e, bytesT e, zeroT e with
    | some sz, some by_, some z => bif Nat.blt 0 sz && Nat.beq z.length sz then appAny s sz by_ n (aFirst sz n x S) else none
    | _, _, _ => none
  | _, _ => none

def aCopy (t : TypeId) (d x : AV) (S : St) : Option (AV × St) :=
  match elemT t, aLen d, aLen x with
  | some e, some dl, some xl => match szT e with
    | none => none
    | some sz =>
      match aFirst sz (Nat.min xl dl) x S with
      | none => none
      | some (new, S) => match d with
        | .sl0 => some (.i .i64 0, S)
        | .se _ _ => some (.i .i64 0, S)
        | .sl id off _ _ _ => match S.look id with
          | some (.cells l sz', S) =>
            bif Nat.ble (off + new.length) l.length && new.all AV.flat then
              match S.put id (some (.cells (splice l off new) sz')) with
              | some S => some (.i .i64 (Nat.min xl dl), S)
              | none => none
            else none
          | _ => none
        | _ => none
  | _, _, _ => none

def aArith (op : BinOp) (k : IntKind) (a b : Int) : Option AV :=
  match op with
  | .add => some (.i k (k.wrap (a + b)))
  | .sub => some (.i k (k.wrap (a - b)))
  | .mul => some (.i k (k.wrap (a * b)))
  | .quo => bif b == 0 then none else some (.i k (k.wrap (a.tdiv b)))
  | .rem => bif b == 0 then none else some (.i k (a.tmod b))
  | .and => some (.i k (k.wrap (BitVec.ofInt k.bits a &&& BitVec.ofInt k.bits b).toNat))
  | .or => some (.i k (k.wrap (BitVec.ofInt k.bits a ||| BitVec.ofInt k.bits b).toNat))
  | .xor => some (.i k (k.wrap (BitVec.ofInt k.bits a ^^^ BitVec.ofInt k.bits b).toNat))
  | .andNot => some (.i k (k.wrap (BitVec.ofInt k.bits a &&& ~~~ BitVec.ofInt k.bits b).toNat))
  | .eql => some (.b (a == b))
  | .neq => some (.b (a != b))
  | .lss => some (.b (decide (a < b)))
  | .leq => some (.b (decide (a ≤ b)))
  | .gtr => some (.b (decide (a > b)))
  | .geq => some (.b (decide (a ≥ b)))
  | _ => none

def aShift (op : BinOp) (k : IntKind) (a b : Int) : Option AV :=
  bif decide (0 ≤ b) then
    match op with
    | .shl => some (.i k (k.wrap (a * 2 ^ (min b.toNat k.bits))))
    | .shr => some (.i k (a.fdiv (2 ^ (min b.toNat k.bits))))
    | _ => none
  else none

def aStr (op : BinOp) (x y : ByteArray) : Option AV :=
  match op with
  | .add => bif Nat.ble (x.size + y.size) 1073741824 then some (.s (x ++ y)) else none
  | .eql => some (.b (x.toList == y.toList))
  | .neq => some (.b (!(x.toList == y.toList)))
  | .lss => some (.b (Op.bytesLess x.toList y.toList))
  | .geq => some (.b (!Op.bytesLess x.toList y.toList))
  | _ => none

/-- equality of flat values by their type -/
def aEqF (t : TypeId) (x y : AV) : Option Bool :=
  match PP.underlying t, x, y with
  | some .bool, .b a, .b c => some (a == c)
  | some (.int _), .i k a, .i k' c => bif k == k' then some (a == c) else none
  | some .string, .s a, .s c => some (a == c)
  | some (.pointer _), .p0, .p0 => some true
  | some (.pointer _), .p0, .p _ _ => some false
  | some (.pointer _), .p _ _, .p0 => some false
  | some (.slice _), .sl0, .sl0 => some true
  | some (.slice _), .sl0, .sl _ _ _ _ _ => some false
  | some (.slice _), .sl0, .se _ _ => some false
  | some (.slice _), .sl _ _ _ _ _, .sl0 => some false
  | some (.slice _), .se _ _, .sl0 => some false
  | some (.map _ _), .m0, .m0 => some true
  | some (.map _ _), .m0, .m _ => some false
  | some (.map _ _), .m _, .m0 => some false
  | some (.func _ _ _), .f0, .f0 => some true
  | some (.func _ _ _), .f0, .f _ _ _ => some false
  | some (.func _ _ _), .f _ _ _, .f0 => some false
  | some (.interface _), .c0, .c _ _ => some false
  | some (.interface _), .c _ _, .c0 => some false
  | _, _, _ => none

def aEqFs (eq : TypeId → AV → AV → Option Bool) (xs ys : List AV) : List Field → Option Bool
  | [] => some true
  | f :: fs => bif f.name != "_" then
      (match aPart f.type xs f.offset, aPart f.type ys f.offset with
       | some a, some c => match eq f.type a c with
         | some true => aEqFs eq xs ys fs
         | some false => some false
         | none => none
       | _, _ => none)
    else aEqFs eq xs ys fs
def structT (t : TypeId) : Option (List Field) := match PP.underlying t with
  | some (.struct fs) => bif PP.stoodInHeld t then none else some fs.toList
  | _ => none
/-- equality of structs, of depth d -/
def aEqS : Nat → TypeId → AV → AV → Option Bool
  | 0, _, _, _ => none
  | d + 1, t, x, y => match x, y with
    | .agg xs, .agg ys => match structT t with
      | some fs => aEqFs (aEqS d) xs ys fs
      | none => none
    | x, y => aEqF t x y

def aBin (op : BinOp) (t : TypeId) (x y : AV) : Option AV :=
  match x, y with
  | .i k a, .i k' c => match op with
    | .shl | .shr => aShift op k a c
    | _ => bif k == k' then aArith op k a c else none
  | .s a, .s c => aStr op a c
  | .agg xs, .agg ys => bif PP.eqGuardType PP.depth t then none else match op with
    | .eql => (aEqS 20 t x y).map .b
    | .neq => (aEqS 20 t x y).map fun r => .b (!r)
    | _ => none
  | x, y => match op with
    | .eql => (aEqF t x y).map .b
    | .neq => (aEqF t x y).map fun r => .b (!r)
    | _ => none

def aUn (op : UnOp) (x : AV) : Option AV :=
  match op, x with
  | .neg, .i k n => aArith .sub k 0 n
  | .xor, .i k n => aArith .xor k (if k.signed then -1 else k.max) n
  | .not, .b x => some (.b (!x))
  | _, _ => none

def aInts : List AV → Option (List Int)
  | [] => some []
  | .i .u8 n :: l => match aInts l with
    | some r => some (n :: r)
    | none => none
  | _ => none
def ofInts (l : List Int) : ByteArray := l.foldl (fun r n => r.push (UInt8.ofNat n.toNat)) ByteArray.empty
def aToStr (x : AV) (S : St) : Option (AV × St) :=
  match x with
  | .sl0 => some (.s .empty, S)
  | .se _ _ => some (.s .empty, S)
  | .sl id off len cap op => match aFirst 1 len (.sl id off len cap op) S with
    | some (l, S) => match aInts l with
      | some ns => some (.s (ofInts ns), S)
      | none => none
    | none => none
  | _ => none
def aConv (src dst : TypeId) (x : AV) (S : St) : Option (AV × St) :=
  match PP.underlying src, PP.underlying dst, x with
  | some (.int _), some (.int k), .i _ n => some (.i k (k.wrap n), S)
  | some .string, some .string, .s y => some (.s y, S)
  | some (.slice e), some .string, x => match PP.underlying e with
    | some (.int .u8) => aToStr x S
    | _ => none
  | _, _, _ => none

/-! maps of plain keys -/
def zeroA (t : TypeId) : Option AV := match PP.info? t with
  | some i => match i.zero with
    | some z => ofValue z
    | none => none
  | none => none
def mapT (t : TypeId) : Option (TypeId × TypeDesc × TypeId) := match PP.underlying t with
  | some (.map k e) => match PP.underlying k with
    | some d => some (k, d, e)
    | none => none
  | _ => none
def keyEq (kind : TypeDesc) (a b : AV) : Option Bool :=
  match kind, a, b with
  | .int _, .i k x, .i k' y => bif k == k' then some (x == y) else none
  | .string, .s x, .s y => some (x == y)
  | .bool, .b x, .b y => some (x == y)
  | _, _, _ => none
def mFind (kind : TypeDesc) (k : AV) : List (AV × AV × Nat) → Nat → Option (Option (Nat × AV))
  | [], _ => some none
  | e :: l, i => match keyEq kind k e.1 with
    | some true => some (some (i, e.2.1))
    | some false => mFind kind k l (i + 1)
    | none => none
def keyKind (kind : TypeDesc) (k : AV) : Bool := match kind, k with
  | .int _, .i _ _ => true
  | .string, .s _ => true
  | .bool, .b _ => true
  | _, _ => false
def mGot (ok : Bool) (e : TypeId) (r : Option (Option (Nat × AV))) (S : St) : Option (AV × St) :=
  match r with
  | none => none
  | some (some (_, v)) => some (bif ok then .tup [v, .b true] else v, S)
  | some none => match zeroA e with
    | some z => some (bif ok then .tup [z, .b false] else z, S)
    | none => none
def aMapGet (t : TypeId) (ok : Bool) (x k : AV) (S : St) : Option (AV × St) :=
  match mapT t with
  | none => none
  | some (_, d, e) => bif keyKind d k then (match x with
    | .m0 => mGot ok e (some none) S
    | .m id => match S.look id with
      | some (.mp es _, S) => mGot ok e (mFind d k es 0) S
      | _ => none
    | _ => none) else none
def mPut (id : Nat) (k v : AV) (es : List (AV × AV × Nat)) (clock : Nat) (r : Option (Option (Nat × AV))) (S : St) : Option St :=
  match r with
  | none => none
  | some (some (i, _)) => S.put id (some (.mp (es.modify i fun e => (k, v, e.2.2)) clock))
  | some none => S.put id (some (.mp (es ++ [(k, v, clock)]) (clock + 1)))
def aMapSet (t : TypeId) (x k v : AV) (S : St) : Option St :=
  match mapT t, x with
  | some (_, d, _), .m id => bif keyKind d k then (match S.look id with
    | some (.mp es clock, S) => mPut id k v es clock (mFind d k es 0) S
    | _ => none) else none
  | _, _ => none
def mDel (id : Nat) (es : List (AV × AV × Nat)) (clock : Nat) (r : Option (Option (Nat × AV))) (S : St) : Option St :=
  match r with
  | none => none
  | some (some (i, _)) => S.put id (some (.mp (es.eraseIdx i) clock))
  | some none => S.put id (some (.mp es clock))
def aMapDel (t : TypeId) (x k : AV) (S : St) : Option St :=
  match mapT t, x with
  | some (_, d, _), .m id => bif keyKind d k then (match S.look id with
    | some (.mp es clock, S) => mDel id es clock (mFind d k es 0) S
    | _ => none) else none
  | _, _ => none
def aMakeMap (S : St) : Option (AV × St) := match S.new (.mp [] 0) with
  | some (id, S) => some (.m id, S)
  | none => none
def aMapLen (x : AV) (S : St) : Option (AV × St) := match x with
  | .m0 => some (.i .i64 0, S)
  | .m id => match S.look id with
    | some (.mp es _, S) => some (.i .i64 es.length, S)
    | _ => none
  | _ => none

/-- whom a call goes to: a function, or the body of a range over a function -/
inductive Tgt where
  | fn (f : FuncId)
  | yd (id : Nat)
inductive Res where
  | no
  | val (v : AV) (S : St)
  | enter (g : Tgt) (args : List AV) (S : St)

def asVal (x : Option AV) (S : St) : Res :=
  Option.rec (motive := fun _ => St → Res) (fun _ => .no) Res.val x S
def asValS (x : Option (AV × St)) : Res :=
  Option.rec (motive := fun _ => Res) .no (fun p => Prod.rec (motive := fun _ => Res) Res.val p) x

def aMethod (t : TypeId) (v : AV) (name : String) : Option (FuncId × AV) :=
  match PP.info? t with
  | none => none
  | some info => match info.methods.find? (·.name == name) with
    | none => none
    | some m => match m.path.toList, m.func with
      | [], some (f, pr) => match PP.underlying t, pr with
        | some (.pointer _), true => some (f, v)
        | some (.pointer _), false => none
        | some _, false => some (f, v)
        | _, _ => none
      | _, _ => none

def aEnter (f : FuncId) (args : List AV) (S : St) : Res :=
  bif callable f then .enter (.fn f) args S else .no

def aInvoke (recv : AV) (name : String) (args : List AV) (S : St) : Res :=
  match recv with
  | .c t v => match aMethod t v name with
    | some (f, r) => aEnter f (r :: args) S
    | none => .no
  | _ => .no

def aMinMax (mx : Bool) : List AV → Option AV
  | [.i k x, .i _ y] => some (.i k (bif mx then (if y > x then y else x) else (if y < x then y else x)))
  | _ => none

def aLenT (t : TypeId) (x : AV) : Option AV :=
  match PP.underlying t, x with
  | some .string, .s y => some (.i .i64 y.size)
  | some (.slice _), .sl0 => some (.i .i64 0)
  | some (.slice _), .se _ _ => some (.i .i64 0)
  | some (.slice _), .sl _ _ n _ _ => some (.i .i64 n)
  | _, _ => none
def aCapT (t : TypeId) (x : AV) : Option AV :=
  match PP.underlying t, x with
  | some (.slice _), .sl0 => some (.i .i64 0)
  | some (.slice _), .sl _ _ _ cap false => some (.i .i64 cap)
  | _, _ => none
def lenM (d : Option TypeDesc) (t : TypeId) (x : AV) (S : St) : Res :=
  match d with
  | some (.map _ _) => asValS (aMapLen x S)
  | _ => asVal (aLenT t x) S
def bLen (tys : List TypeId) (args : List AV) (S : St) : Res :=
  match tys, args with
  | t :: _, [x] => lenM (PP.underlying t) t x S
  | _, _ => .no
def unitR (r : Option St) : Res := match r with
  | some S => .val (.tup []) S
  | none => .no
def bDelete (tys : List TypeId) (args : List AV) (S : St) : Res :=
  match tys, args with
  | t :: _, [x, k] => unitR (aMapDel t x k S)
  | _, _ => .no
def bCap (tys : List TypeId) (args : List AV) (S : St) : Res :=
  match tys, args with
  | t :: _, [x] => asVal (aCapT t x) S
  | _, _ => .no
def appT (d : Option TypeDesc) (t : TypeId) (s x : AV) (S : St) : Res :=
  match d with
  | some (.int _) => .no
  | some _ => asValS (aAppend t s x S)
  | none => .no
def bAppend (tys : List TypeId) (args : List AV) (S : St) : Res :=
  match tys, args with
  | [t, u], [s, x] => appT (PP.underlying u) t s x S
  | _, _ => .no
def bCopy (tys : List TypeId) (args : List AV) (S : St) : Res :=
  match tys, args with
  | [t, _], [d, x] => asValS (aCopy t d x S)
  | _, _ => .no
def aBuiltin (b : Builtin) : List TypeId → List AV → St → Res :=
  match b with
  | .len => bLen
  | .cap => bCap
  | .append => bAppend
  | .copy => bCopy
  | .delete => bDelete
  | .max => fun _ l S => asVal (aMinMax true l) S
  | .min => fun _ l S => asVal (aMinMax false l) S
  | _ => fun _ _ _ => .no

def aCallV (f : Option AV) (args : List AV) (S : St) : Res :=
  match f with
  | some (.f (.func g) first cap) => aEnter g (first ++ args ++ cap) S
  | some (.f (.method name) first _) => match first ++ args with
    | r :: rest => aInvoke r name rest S
    | [] => .no
  | some (.y id) => .enter (.yd id) args S
  | _ => .no
def aCallI (name : String) (r : Option AV) (args : List AV) (S : St) : Res :=
  match r with
  | some rv => aInvoke rv name args S
  | none => .no
def aCallee (c : Callee) : List TypeId → T AV → List AV → St → Res :=
  match c with
  | .builtin b => fun tys _ args S => aBuiltin b tys args S
  | .invoke r name => fun _ tm args S => aCallI name (evalO r tm) args S
  | .value fo => fun _ tm args S => aCallV (evalO fo tm) args S
def aCall (c : Call) (tm : T AV) (S : St) : Res :=
  match evalL c.args.toList tm with
  | none => .no
  | some args => aCallee c.callee c.argTypes.toList tm args S

def aNil (x : AV) : Option AV :=
  match x with
  | .p id off => some (.p id off)
  | .sl a b c d e => some (.sl a b c d e)
  | .sl0 => some .sl0
  | .se a b => some (.se a b)
  | .c t v => some (.c t v)
  | .f (.func g) first cap => some (.f (.func g) first cap)
  | .y id => some (.y id)
  | .f (.method name) (.c t v :: l) cap => match aMethod t v name with
    | some _ => some (.f (.method name) (.c t v :: l) cap)
    | none => none
  | _ => none

def on1 (g : AV → Option AV) (x : Option AV) (S : St) : Res :=
  match x with
  | some v => asVal (g v) S
  | none => .no
def on2 (g : AV → AV → Option AV) (x y : Option AV) (S : St) : Res :=
  match x, y with
  | some v, some u => asVal (g v u) S
  | _, _ => .no
def on1S (g : AV → St → Option (AV × St)) (x : Option AV) (S : St) : Res :=
  match x with
  | some v => asValS (g v S)
  | none => .no
def onP (g : List (Nat × AV) → St → Option (AV × St)) (x : Option (List (Nat × AV))) (S : St) : Res :=
  match x with
  | some v => asValS (g v S)
  | none => .no
def pick2 (a b : Operand) (tm : T AV) (S : St) (t : Bool) : Res :=
  Bool.rec (motive := fun _ => Res) (asVal (evalO b tm) S) (asVal (evalO a tm) S) t
def opPick (c a b : Operand) (tm : T AV) (S : St) : Res :=
  match evalO c tm with
  | some (.b t) => pick2 a b tm S t
  | _ => .no
def newP (l : List AV) (sz : Nat) (S : St) : Option (AV × St) :=
  match aNew l sz S with
  | some (id, S) => some (.p id 0, S)
  | none => none
def opAlloc (e : TypeId) (S : St) : Option (AV × St) :=
  match zeroT e, szT e with
  | some z, some n => bif Nat.beq z.length n then newP z n S else none
  | _, _ => none
def opBox (v : AV) (S : St) : Option (AV × St) :=
  bif boxable v then newP v.cells 0 S else none
def opBuild (t : TypeId) (l : List (Nat × AV)) (S : St) : Option (AV × St) :=
  match aBuild t l with
  | some v => some (v, S)
  | none => none
def opStore (t : TypeId) (v y : Option AV) (S : St) : Res :=
  match v, y with
  | some v, some y => match aStore t v y S with
    | some S => .val (.tup []) S
    | none => .no
  | _, _ => .no
def opIface (t : TypeId) (v : AV) : Option AV :=
  match PP.underlying t with
  | some (.interface _) => none
  | some _ => some (.c t v)
  | none => none
def opFunc (fn : Fn) (a c : Option (List AV)) (S : St) : Res :=
  match a, c with
  | some a, some c => .val (.f fn a c) S
  | _, _ => .no
def opMakeSlice (t : TypeId) (a c : Option AV) (S : St) : Res :=
  match a, c with
  | some a, some c => asValS (aMakeSlice t a c S)
  | _, _ => .no
def opSlice (t : TypeId) (v : Option AV) (l h m : Option (List AV)) (S : St) : Res :=
  match v, l, h, m with
  | some v, some l, some h, some m => asVal (aSlice t v l.head? h.head? m.head?) S
  | _, _, _, _ => .no
def aExtract (k : Nat) (v : AV) : Option AV :=
  match v with
  | .tup l => l[k]?
  | _ => none
def opMap3 (t : TypeId) (m k v : Option AV) (S : St) : Res :=
  match m, k, v with
  | some m, some k, some v => unitR (aMapSet t m k v S)
  | _, _, _ => .no
def opGet (t : TypeId) (ok : Bool) (m k : Option AV) (S : St) : Res :=
  match m, k with
  | some m, some k => asValS (aMapGet t ok m k S)
  | _, _ => .no
def opMakeMap (t : TypeId) (r : Option (List AV)) (S : St) : Res :=
  match r with
  | some [] => asValS (aMakeMap S)
  | some [.i _ _] => bif (mapT t).isSome then asValS (aMakeMap S) else .no
  | _ => .no
def opMove (x : Operand) (tm : T AV) (S : St) : Res := asVal (evalO x tm) S

abbrev OpF := T AV → St → Res
def noOp : OpF := fun _ _ => .no
def aOp (o : Op) : OpF :=
  Op.rec (motive := fun _ => OpF)
    (move := opMove)
    (assign := opMove)
    (pick := opPick)
    (alloc := fun e _ S => asValS (opAlloc e S))
    (box := fun _ x tm S => on1S opBox (evalO x tm) S)
    (build := fun t parts tm S => onP (opBuild t) (evalP parts.toList tm) S)
    (buildSlice := fun t len parts tm S => onP (aBuildSlice t len) (evalP parts.toList tm) S)
    (insert := fun t m k v tm S => opMap3 t (evalO m tm) (evalO k tm) (evalO v tm) S)
    (load := fun t a tm S => on1S (aLoad t) (evalO a tm) S)
    (store := fun t a x tm S => opStore t (evalO a tm) (evalO x tm) S)
    (ready := fun _ => noOp)
    (waits := fun _ => noOp)
    (nilCheck := fun x tm S => on1 aNil (evalO x tm) S)
    (binOp := fun op t x y _ tm S => on2 (aBin op t) (evalO x tm) (evalO y tm) S)
    (unOp := fun op _ x tm S => on1 (aUn op) (evalO x tm) S)
    (convert := fun s d x tm S => on1S (aConv s d) (evalO x tm) S)
    (sliceToArrayPointer := fun _ _ => noOp)
    (makeInterface := fun t x tm S => on1 (opIface t) (evalO x tm) S)
    (makeFunc := fun fn first cap tm S => opFunc fn (evalL first.toList tm) (evalL cap.toList tm) S)
    (makeMap := fun t r tm S => opMakeMap t (evalL r.toList tm) S)
    (makeChan := fun _ _ => noOp)
    (makeSlice := fun t l c tm S => opMakeSlice t (evalO l tm) (evalO c tm) S)
    (slice := fun t x lo hi mx tm S => opSlice t (evalO x tm) (evalL lo.toList tm) (evalL hi.toList tm) (evalL mx.toList tm) S)
    (fieldAddr := fun t x k tm S => on1 (fun v => aFieldAt t v k) (evalO x tm) S)
    (field := fun t x k tm S => on1 (fun v => aField t v k) (evalO x tm) S)
    (indexAddr := fun t x ix tm S => on2 (aIndexAt t) (evalO x tm) (evalO ix tm) S)
    (index := fun t x ix tm S => on2 (aIndex t) (evalO x tm) (evalO ix tm) S)
    (lookup := fun t x k ok tm S => opGet t ok (evalO x tm) (evalO k tm) S)
    (mapUpdate := fun t m k v tm S => opMap3 t (evalO m tm) (evalO k tm) (evalO v tm) S)
    (mapEntry := fun _ _ _ => noOp)
    (entryStore := fun _ _ _ _ => noOp)
    (range := fun _ _ => noOp)
    (next := fun _ _ => noOp)
    (entry := fun _ => noOp)
    (typeAssert := fun _ _ _ _ => noOp)
    (extract := fun x k tm S => on1 (aExtract k) (evalO x tm) S)
    (call := aCall)
    (go := fun _ => noOp)
    (defer := fun _ => noOp)
    (panic := fun _ => noOp)
    (send := fun _ _ => noOp)
    (recv := fun _ _ _ => noOp)
    (select := fun _ _ => noOp) o

/-- what a region's order leaves open: pairs that no edge orders, of which one at least may write -/
def loud (o : Oper) : Bool := match o.op with
  | .load .. | .store .. | .call _ | .alloc _ | .box .. | .buildSlice .. | .makeSlice .. | .convert .. | .insert .. | .mapUpdate .. | .lookup .. | .makeMap .. => true
  | _ => false
def closE (acc : List Nat) : List Edge → Nat → Nat
  | [], s => s
  | e :: l, s => closE acc l (bif Region.binds .any e && Nat.blt e.on acc.length then Nat.lor s (Nat.lor (bit e.on) (acc.getD e.on 0)) else s)
def closF : List Oper → List Nat → List Nat
  | [], acc => acc
  | o :: l, acc => closF l (acc ++ [closE acc o.after.toList 0])
def closure (ops : List Oper) : List Nat := closF ops []
def backward (ops : List Oper) : Bool :=
  (ops.zipIdx).all fun (o, i) => o.after.toList.all fun e => !(Region.binds .any e) || Nat.blt e.on i
def openPairs (ops : List Oper) : List (Nat × Nat) :=
  let cl := closure ops
  (ops.zipIdx).flatMap fun (o, j) => bif loud o then
    (ops.zipIdx).filterMap fun (q, i) => bif Nat.blt i j && loud q && !(Nat.testBit (cl.getD j 0) i) then some (i, j) else none else []
def quietIdx (ops : List Oper) : List Nat := (ops.zipIdx).filterMap fun (o, j) => bif loud o then none else some j
def tmpsApart (ops : Array Oper) : Bool :=
  let l := ops.toList
  let cl := closure l
  (l.zipIdx).all fun (o, j) => (l.zipIdx).all fun (q, i) => !(Nat.blt i j) || Nat.testBit (cl.getD j 0) i || q.apart ops o
def drawOk (ops : Array Oper) : Bool := backward ops.toList && tmpsApart ops

def clash (rw1 rw2 : Nat × Nat) : Bool :=
  !(Nat.beq (Nat.land rw1.2 (Nat.lor rw2.1 rw2.2)) 0 && Nat.beq (Nat.land rw2.2 rw1.1) 0)

abbrev CallF := Tgt → List AV → St → Option (AV × St)

inductive Out where
  | no
  | ok (tm : T AV) (S : St)
inductive OutL where
  | no
  | ok (tm : T AV) (S : St) (logs : List (Nat × Nat))
inductive OutC where
  | no
  | nx (tm : T AV) (S : St)
  | ex (id : Nat) (tm : T AV) (S : St)
  | rt (tm : T AV) (S : St)

def putS (nt : Nat) (d : Nat) (v : AV) (tm : T AV) (S : St) : Out :=
  Bool.rec (motive := fun _ => Out) .no (.ok (T.set tm d (some v)) S) (Nat.blt d nt)
def putT (nt : Nat) (d : Option Tmp) : AV → T AV → St → Out :=
  Option.rec (motive := fun _ => AV → T AV → St → Out) (fun _ tm S => .ok tm S) (fun d v tm S => putS nt d v tm S) d
def putR (nt : Nat) (d : Option Tmp) (tm : T AV) (r : Option (AV × St)) : Out :=
  Option.rec (motive := fun _ => Out) .no (fun p => Prod.rec (motive := fun _ => Out) (fun v S => putT nt d v tm S) p) r
def valIn (call : CallF) (r : Res) : Option (AV × St) :=
  Res.rec (motive := fun _ => Option (AV × St)) none (fun v S => some (v, S)) call r
def guardB (w : Bool) (x : Option AV) (yes no : Option (AV × St)) : Option (AV × St) :=
  match x with
  | some (.b x) => bif x == w then yes else no
  | some (.tup _) => no
  | _ => none
def guardD (ops : Array Oper) (j : Nat) : Option Tmp := (ops[j]?).bind (·.dst)
def guardG (ops : Array Oper) (j : Nat) (w : Bool) (tm : T AV) (yes no : Option (AV × St)) : Option (AV × St) :=
  match guardD ops j with
  | none => none
  | some d => guardB w (getO d tm) yes no
def valOp (call : CallF) (ops : Array Oper) (o : Oper) : T AV → St → Option (AV × St) :=
  Option.rec (motive := fun _ => T AV → St → Option (AV × St))
    (fun tm S => valIn call (aOp o.op tm S))
    (fun p tm S => guardG ops p.1 p.2 tm (valIn call (aOp o.op tm S)) (some (.tup [], S))) o.guard
def runOp (call : CallF) (ops : Array Oper) (nt : Nat) (o : Oper) (tm : T AV) (S : St) : Out :=
  putR nt o.dst tm (valOp call ops o tm S)

def thenOps (k : T AV → St → Out) (r : Out) : Out :=
  Out.rec (motive := fun _ => Out) .no k r
def runOps (call : CallF) (ops : Array Oper) (nt : Nat) (l : List Oper) : T AV → St → Out :=
  List.rec (motive := fun _ => T AV → St → Out) Out.ok (fun o _ k tm S => thenOps k (runOp call ops nt o tm S)) l

/-- the same, with what each op read and wrote -/
def thenLog (k : T AV → St → List (Nat × Nat) → OutL) (S0 : St) (acc : List (Nat × Nat)) (r : Out) : OutL :=
  match r with
  | .no => .no
  | .ok tm S => k tm ⟨S.h, S.nx, Nat.lor S0.rd S.rd, Nat.lor S0.wr S.wr⟩ ((S.rd, S.wr) :: acc)
def runLog (call : CallF) (ops : Array Oper) (nt : Nat) (l : List Oper) : T AV → St → List (Nat × Nat) → OutL :=
  List.rec (motive := fun _ => T AV → St → List (Nat × Nat) → OutL) OutL.ok
    (fun o _ k tm S acc => thenLog k S acc (runOp call ops nt o tm ⟨S.h, S.nx, 0, 0⟩)) l

def noClash (logs : List (Nat × Nat)) (l : List (Nat × Nat)) : Bool :=
  List.rec (motive := fun _ => Bool) true (fun p _ r => Bool.rec (motive := fun _ => Bool) r false (clash (logs.getD p.1 (0, 0)) (logs.getD p.2 (0, 0)))) l
def noTouch (logs : List (Nat × Nat)) (l : List Nat) : Bool :=
  List.rec (motive := fun _ => Bool) true (fun j _ r => Bool.rec (motive := fun _ => Bool) false r (Nat.beq (Nat.lor (logs.getD j (0, 0)).1 (logs.getD j (0, 0)).2) 0)) l
def endLog (ops : Array Oper) (r : OutL) : Out :=
  match r with
  | .no => .no
  | .ok tm S logs => Bool.rec (motive := fun _ => Out) .no (.ok tm S) (noClash logs.reverse (openPairs ops.toList) && noTouch logs.reverse (quietIdx ops.toList))
def runRegion (call : CallF) (ops : Array Oper) (draw : Bool) (nt : Nat) : T AV → St → Out :=
  Bool.rec (motive := fun _ => T AV → St → Out) (runOps call ops nt ops.toList)
    (fun tm S => Bool.rec (motive := fun _ => Out) .no (endLog ops (runLog call ops nt ops.toList tm S [])) (drawOk ops)) draw

abbrev CodeF := T AV → St → OutC
def loopN (self : CodeF) (r : OutC) : OutC :=
  OutC.rec (motive := fun _ => OutC) .no self .ex .rt r
def loopA (body : CodeF) (n : Nat) : CodeF :=
  Nat.rec (motive := fun _ => CodeF) (fun _ _ => .no) (fun _ self tm S => loopN self (body tm S)) n

def cNorm (r : Out) : OutC := Out.rec (motive := fun _ => OutC) .no .nx r
def cBlock (id : Nat) (r : OutC) : OutC :=
  OutC.rec (motive := fun _ => OutC) .no .nx (fun k tm S => Bool.rec (motive := fun _ => OutC) (.ex k tm S) (.nx tm S) (Nat.beq k id)) .rt r
def cIf (a b : CodeF) (t : Bool) : CodeF := Bool.rec (motive := fun _ => CodeF) b a t
def cCond (a b : CodeF) (x : Option AV) : CodeF :=
  match x with
  | some (.b t) => cIf a b t
  | _ => fun _ _ => .no

/-! ranges over functions -/
def marks (tm : T AV) : List Nat := match T.get tm 511 with
  | some (.dfs l) => l
  | _ => []
def addMark (tm : T AV) (D : Nat) : T AV := T.set tm 511 (some (.dfs (D :: marks tm)))
def jumpTo (j : Option Jmp) (tm : T AV) (S : St) : OutC :=
  match j with
  | none => .nx tm S
  | some .ret => .rt tm S
  | some (.exit id) => .ex id tm S
def rangeEnd2 (l D : Nat) (tm : T AV) (o : Option (AObj × St)) : OutC :=
  match o with
  | some (.lp st j tm' nt' ps a b, S) => bif Nat.beq st 1 then .no else (match S.put l (some (.lp 3 j tm' nt' ps a b)) with
    | some S => jumpTo j (addMark tm D) S
    | none => .no)
  | _ => .no
def rangeEnd (l D : Nat) (tm : T AV) (r : Option (AV × St)) : OutC :=
  match r with
  | some (_, S) => rangeEnd2 l D tm (S.look l)
  | none => .no
def rangeGo (call : CallF) (l D : Nat) (tm : T AV) (f : Option AV) (S : St) : OutC :=
  match f with
  | some (.f (.func g) first cap) => bif callable g then rangeEnd l D tm (call (.fn g) (first ++ [.y l] ++ cap) S) else .no
  | _ => .no
def rangeA (call : CallF) (rd : Bool) (nt : Nat) (f : Operand) (ps : List Tmp) (assign body : Code) (tm : T AV) (S : St) : OutC :=
  bif rd then .no else
  match S.new (.df false) with
  | none => .no
  | some (D, S) => match S.new (.lp 0 none tm nt ps assign body) with
    | none => .no
    | some (l, S) => rangeGo call l D tm (evalO f tm) S

def runCode (call : CallF) (rd : Bool) (nt : Nat) (c : Code) : CodeF :=
  Code.rec (motive := fun _ => CodeF)
    (skip := OutC.nx)
    (region := fun _ ops draw tm S => cNorm (runRegion call ops draw nt tm S))
    (seq := fun _ _ ra rb tm S => loopN rb (ra tm S))
    (cond := fun c _ _ ra rb tm S => cCond ra rb (evalO c tm) tm S)
    (block := fun id _ ra tm S => cBlock id (ra tm S))
    (loop := fun _ ra => loopA ra 1000000)
    (rangeFunc := fun f ps a b _ _ => rangeA call rd nt f ps.toList a b)
    (exit := fun id => OutC.ex id)
    (scope := fun _ ra => ra)
    (label := fun _ => OutC.nx)
    (goto := fun _ _ _ => .no)
    (ret := OutC.rt)
    (refuse := fun _ _ _ => .no) c

def setPs : List Tmp → List AV → T AV → T AV
  | p :: ps, v :: vs, tm => setPs ps vs (T.set tm p (some v))
  | _, _, tm => tm
def endR2 (id : Nat) (j : Option Jmp) (o : Option (AObj × St)) : Option (AV × St) :=
  match o with
  | some (.lp _ _ tm nt ps a b, S) => match S.put id (some (.lp (bif j.isNone then 0 else 2) j tm nt ps a b)) with
    | some S => some (.b j.isNone, S)
    | none => none
  | _ => none
def endR (id : Nat) (j : Option Jmp) (S : St) : Option (AV × St) := endR2 id j (S.look id)
def roundEnd (id : Nat) (r : OutC) : Option (AV × St) :=
  match r with
  | .no => none
  | .nx _ S => endR id none S
  | .rt _ S => endR id (some .ret) S
  | .ex k _ S => endR id (some (.exit k)) S
def beginR2 (id : Nat) (o : Option (AObj × St)) : Option St :=
  match o with
  | some (.lp st j tm nt ps a b, S) => bif Nat.beq st 0 then S.put id (some (.lp 1 j tm nt ps a b)) else none
  | _ => none
def roundB (call : CallF) (id nt : Nat) (body : Code) (r : OutC) : Option (AV × St) :=
  match r with
  | .nx tm S => match beginR2 id (S.look id) with
    | some S => roundEnd id (runCode call true nt body tm S)
    | none => none
  | _ => none
def runRound2 (call : CallF) (id : Nat) (args : List AV) (o : Option (AObj × St)) : Option (AV × St) :=
  match o with
  | some (.lp _ _ tm nt ps assign body, S) => bif Nat.beq args.length ps.length && ps.all (fun p => Nat.blt p nt) && Nat.ble nt 511 then
      roundB call id nt body (runCode call true nt assign (T.set (setPs ps args tm) 511 none) S)
    else none
  | _ => none
def runRound (call : CallF) (id : Nat) (args : List AV) (S : St) : Option (AV × St) := runRound2 call id args (S.look id)

def argsT : List AV → Nat → T AV → T AV
  | [], _, t => t
  | v :: l, k, t => argsT l (k + 1) (T.set t k (some v))

def aResult (tm : T AV) (S : St) : ResultVar → Option (AV × St)
  | .tmp t => (getO t tm).map fun v => (v, S)
  | .cell a t => match getO a tm with
    | some v => aLoad t v S
    | none => none

def aResults (tm : T AV) : List ResultVar → St → Option (List AV × St)
  | [], S => some ([], S)
  | r :: l, S => match aResult tm S r with
    | none => none
    | some (v, S) => match aResults tm l S with
      | none => none
      | some (vs, S) => some (v :: vs, S)

def endFn2 (r : Option (List AV × St)) : Option (AV × St) :=
  match r with
  | some ([v], S) => some (v, S)
  | some (vs, S) => some (.tup vs, S)
  | none => none
def takeOne (D : Nat) (o : Option (AObj × St)) : Option St :=
  match o with
  | some (.df false, S) => S.put D (some (.df true))
  | _ => none
def takeAll : List Nat → St → Option St
  | [], S => some S
  | D :: l, S => match takeOne D (S.look D) with
    | some S => takeAll l S
    | none => none
def endFn3 (fn : Func) (tm : T AV) (S : St) : Option (AV × St) :=
  match takeAll (marks tm) S with
  | some S => endFn2 (aResults tm fn.results.toList S)
  | none => none
def endFn (fn : Func) (r : OutC) : Option (AV × St) :=
  match r with
  | .nx tm S => endFn3 fn tm S
  | .rt tm S => endFn3 fn tm S
  | _ => none
def runFn (call : CallF) (f : FuncId) (args : List AV) (S : St) : Option (AV × St) :=
  match PP.funcs[f]? with
  | none => none
  | some fn => match fn.body with
    | none => none
    | some c =>
      bif Nat.ble args.length fn.ntmps && Nat.ble fn.ntmps 511 then endFn fn (runCode call false fn.ntmps c (argsT args 0 T.nil) S) else none

def isIns (f : FuncId) : Bool := Nat.beq f 35
def orElse (r : Option (AV × St)) (d : Unit → Option (AV × St)) : Option (AV × St) :=
  match r with
  | some p => some p
  | none => d ()
def runFnI (call : CallF) (f : FuncId) (args : List AV) (S : St) : Option (AV × St) :=
  bif isIns f then orElse (insA args S) (fun _ => runFn call f args S) else runFn call f args S
def runT (call : CallF) (g : Tgt) : List AV → St → Option (AV × St) :=
  match g with
  | .fn f => runFnI call f
  | .yd id => runRound call id
def run : Nat → CallF
  | 0 => fun _ _ _ => none
  | n + 1 => runT (run n)
end ops
end
end Rn
end Go.Proofs.Ytgfcakdpfedokaa
