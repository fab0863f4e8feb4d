/-
  A symbolic executor of the translated program: its values, its memory, its steps (definitions only; what they are worth is proved in the texts behind this one).
-/
import GoSem.Dispatch
import GoSem.Core.Region
import GoSem.Core.Layout
import GoSem.Machine.Exec
namespace Go.Proofs.YtgfahpnndmocbaaGreatDoor.Sx
noncomputable section
open Go

/-- Unsigned numbers that are not known: built of unknowns. -/
inductive Tm
  | c (n : Nat)
  | v (i : Nat)
  | xr (t : Tm) (n : Nat)
  | tok (t : Tm)
  | sh (t : Tm)
  | key (t : Tm) (n : Nat)
  | pl (t : Tm) (d : Nat)
  | hi (t : Tm) (k : Nat)
  | bt (t : Tm) (k : Nat)
  | s8 (t : Tm) (k : Nat)
  | su (l : List Tm)
  | op (o : Nat) (w : Bool) (t u : Tm)

inductive SV
  | int (k : IntKind) (z : Int)
  | sym (k : IntKind) (t : Tm)
  | bool (b : Bool)
  | str (s : ByteArray)
  | nilp
  | ptr (id off : Nat)
  | gptr (g off : Nat)
  | nils
  | sli (id off len cap : Nat)
  | slu (id off len sz : Nat)
  | sle
  | nilm
  | map (id : Nat)
  | fn (f : Fn) (first captured : List SV)
  | nilf
  | nili
  | agg (l : List SV)
  | tup (l : List SV)

inductive Tr (α : Type)
  | nil
  | node (v : Option α) (c0 c1 c2 c3 c4 c5 c6 c7 : Tr α)

def selC {β : Type} (r : Nat) (a0 a1 a2 a3 a4 a5 a6 a7 : β) : β :=
  match r with | 0 => a0 | 1 => a1 | 2 => a2 | 3 => a3 | 4 => a4 | 5 => a5 | 6 => a6 | _ => a7
inductive D8
  | d0 | d1 | d2 | d3 | d4 | d5 | d6 | d7
noncomputable def d8 : Nat → D8 := Nat.rec .d0 (fun r _ => Nat.rec .d1 (fun r _ => Nat.rec .d2 (fun r _ => Nat.rec .d3 (fun r _ => Nat.rec .d4 (fun r _ => Nat.rec .d5 (fun r _ => Nat.rec .d6 (fun _ _ => .d7) r) r) r) r) r) r)
def sel {β : Type} (r : Nat) (a0 a1 a2 a3 a4 a5 a6 a7 : β) : β := @D8.rec (fun _ => β) a0 a1 a2 a3 a4 a5 a6 a7 (d8 r)
def Tr.getC {α : Type} : Tr α → Nat → Option α
  | .nil, _ => none
  | .node v c0 c1 c2 c3 c4 c5 c6 c7, k => match k with
    | 0 => v
    | p + 1 => match p % 8 with
      | 0 => c0.getC (p / 8) | 1 => c1.getC (p / 8) | 2 => c2.getC (p / 8) | 3 => c3.getC (p / 8) | 4 => c4.getC (p / 8) | 5 => c5.getC (p / 8) | 6 => c6.getC (p / 8) | _ => c7.getC (p / 8)
def Tr.get {α : Type} (t : Tr α) : Nat → Option α :=
  Tr.rec (fun _ => none) (fun v _ _ _ _ _ _ _ _ g0 g1 g2 g3 g4 g5 g6 g7 k => Nat.rec v (fun p _ => sel (Nat.land p 7) g0 g1 g2 g3 g4 g5 g6 g7 (Nat.div p 8)) k) t
def Tr.setC {α : Type} (x : Option α) : Nat → Tr α → Nat → Tr α
  | 0, t, _ => t
  | f + 1, .nil, k => Tr.setC x (f + 1) (.node none .nil .nil .nil .nil .nil .nil .nil .nil) k
  | f + 1, .node v c0 c1 c2 c3 c4 c5 c6 c7, k => match k with
    | 0 => .node x c0 c1 c2 c3 c4 c5 c6 c7
    | p + 1 => let s := fun t => Tr.setC x f t (p / 8)
      match p % 8 with
      | 0 => .node v (s c0) c1 c2 c3 c4 c5 c6 c7 | 1 => .node v c0 (s c1) c2 c3 c4 c5 c6 c7 | 2 => .node v c0 c1 (s c2) c3 c4 c5 c6 c7 | 3 => .node v c0 c1 c2 (s c3) c4 c5 c6 c7
      | 4 => .node v c0 c1 c2 c3 (s c4) c5 c6 c7 | 5 => .node v c0 c1 c2 c3 c4 (s c5) c6 c7 | 6 => .node v c0 c1 c2 c3 c4 c5 (s c6) c7 | _ => .node v c0 c1 c2 c3 c4 c5 c6 (s c7)
termination_by f t _ => (f, match t with | .nil => 1 | _ => 0)
def Tr.setC' {α : Type} (t : Tr α) (x : Option α) (k : Nat) : Tr α := Tr.setC x (k + 1) t k
def mkC {α : Type} (x : Option α) (_ : Nat) (k : Nat) : Tr α := Tr.setC x (k + 1) .nil k
section
variable {α : Type}
abbrev K8 (α : Type) := Option α → Tr α → Tr α → Tr α → Tr α → Tr α → Tr α → Tr α → Tr α → Tr α → Tr α
def k0 : K8 α := fun v _ c1 c2 c3 c4 c5 c6 c7 s => .node v s c1 c2 c3 c4 c5 c6 c7
def k1 : K8 α := fun v c0 _ c2 c3 c4 c5 c6 c7 s => .node v c0 s c2 c3 c4 c5 c6 c7
def k2 : K8 α := fun v c0 c1 _ c3 c4 c5 c6 c7 s => .node v c0 c1 s c3 c4 c5 c6 c7
def k3 : K8 α := fun v c0 c1 c2 _ c4 c5 c6 c7 s => .node v c0 c1 c2 s c4 c5 c6 c7
def k4 : K8 α := fun v c0 c1 c2 c3 _ c5 c6 c7 s => .node v c0 c1 c2 c3 s c5 c6 c7
def k5 : K8 α := fun v c0 c1 c2 c3 c4 _ c6 c7 s => .node v c0 c1 c2 c3 c4 s c6 c7
def k6 : K8 α := fun v c0 c1 c2 c3 c4 c5 _ c7 s => .node v c0 c1 c2 c3 c4 c5 s c7
def k7 : K8 α := fun v c0 c1 c2 c3 c4 c5 c6 _ s => .node v c0 c1 c2 c3 c4 c5 c6 s
def Tr.mk (x : Option α) (f : Nat) : Nat → Tr α :=
  Nat.rec (fun _ => .nil) (fun _ ih k => Nat.rec (.node x .nil .nil .nil .nil .nil .nil .nil .nil) (fun p _ =>
   sel (Nat.land p 7) k0 k1 k2 k3 k4 k5 k6 k7 none .nil .nil .nil .nil .nil .nil .nil .nil (ih (Nat.div p 8))) k) f
def Tr.st (t : Tr α) (x : Option α) : Nat → Tr α :=
  Tr.rec (fun k => Tr.mk x (Nat.succ k) k) (fun v c0 c1 c2 c3 c4 c5 c6 c7 s0 s1 s2 s3 s4 s5 s6 s7 k => Nat.rec (.node x c0 c1 c2 c3 c4 c5 c6 c7) (fun p _ =>
   sel (Nat.land p 7) k0 k1 k2 k3 k4 k5 k6 k7 v c0 c1 c2 c3 c4 c5 c6 c7 (sel (Nat.land p 7) s0 s1 s2 s3 s4 s5 s6 s7 (Nat.div p 8))) k) t
end
def Tr.set {α : Type} (t : Tr α) (k : Nat) (x : Option α) : Tr α := Tr.st t x k

inductive Blk
  | cells (l : List SV)
  | mp (es : List (SV × SV × Nat)) (clock : Nat)
  | sit (s : ByteArray) (pos : Nat)
  | mit (m : Option Nat) (since : Nat) (seen : List Nat) (last : Nat)
  | fz (l : List SV)

structure Hp where
  t : Tr Blk
  n : Nat

abbrev Tp := Tr SV

/-- Lists by place. -/
def lgetC {α : Type} : List α → Nat → Option α
  | [], _ => none
  | x :: l, n => bif Nat.beq n 0 then some x else lgetC l (Nat.pred n)
def lget {α : Type} (l : List α) : Nat → Option α :=
  List.rec (fun _ => none) (fun x _ g n => cond (Nat.beq n 0) (some x) (g (Nat.pred n))) l
def ldropC {α : Type} : List α → Nat → List α
  | [], _ => []
  | x :: l, n => bif Nat.beq n 0 then x :: l else ldropC l (Nat.pred n)
def ldrop {α : Type} (l : List α) : Nat → List α :=
  List.rec (fun _ => []) (fun x l g n => cond (Nat.beq n 0) (x :: l) (g (Nat.pred n))) l
/-- the first n, all of which must be there -/
def ltakeC {α : Type} : List α → Nat → Option (List α)
  | [], n => bif Nat.beq n 0 then some [] else none
  | x :: l, n => bif Nat.beq n 0 then some [] else match ltakeC l (Nat.pred n) with | some r => some (x :: r) | none => none
def ltake {α : Type} (l : List α) : Nat → Option (List α) :=
  List.rec (fun n => cond (Nat.beq n 0) (some []) none) (fun x _ g n => cond (Nat.beq n 0) (some []) (Option.rec none (fun r => some (x :: r)) (g (Nat.pred n)))) l
/-- lays ys over l from place n on; all of them must fit -/
def lputC {α : Type} : List α → Nat → List α → Option (List α)
  | [], n, ys => match ys with | [] => (bif Nat.beq n 0 then some [] else none) | _ => none
  | x :: l, n, ys =>
    match ys with
    | [] => some (x :: l)
    | y :: ys' => bif Nat.beq n 0 then (match lputC l 0 ys' with | some r => some (y :: r) | none => none)
      else (match lputC l (Nat.pred n) (y :: ys') with | some r => some (x :: r) | none => none)
def lput {α : Type} (l : List α) : Nat → List α → Option (List α) :=
  List.rec (fun n ys => List.rec (cond (Nat.beq n 0) (some []) none) (fun _ _ _ => none) ys)
    (fun x l g n ys => List.rec (some (x :: l)) (fun y ys' _ => cond (Nat.beq n 0) (Option.rec none (fun r => some (y :: r)) (g 0 ys')) (Option.rec none (fun r => some (x :: r)) (g (Nat.pred n) (y :: ys')))) ys) l
def lseg {α : Type} (l : List α) (off n : Nat) : Option (List α) := ltake (ldrop l off) n

/-- Terms: how many bits; equality. -/
def bits : Tm → Nat
  | .c _ => 64 | .v i => bif Nat.beq i 2 then 32 else 64 | .xr _ _ => 64 | .tok _ => 32 | .sh _ => 64 | .key _ _ => 64 | .pl _ _ => 32
  | .hi t k => Nat.sub (bits t) (Nat.mul 8 k) | .bt _ _ => 8 | .s8 _ _ => 64 | .su _ => 16 | .op _ w _ _ => bif w then 64 else 32

def Tm.pq (_ _ : Tm) : Bool := false
mutual
def Tm.beq : Tm → Tm → Bool
  | .c n, .c m => Nat.beq n m
  | .v n, .v m => Nat.beq n m
  | .xr t n, .xr u m => Nat.beq n m && Tm.beq t u
  | .tok t, .tok u => Tm.beq t u
  | .sh t, .sh u => Tm.beq t u
  | .key t n, .key u m => Nat.beq n m && Tm.beq t u
  | .pl t n, .pl u m => Nat.beq n m && Tm.beq t u
  | .hi t n, .hi u m => Nat.beq n m && Tm.beq t u
  | .bt t n, .bt u m => Nat.beq n m && Tm.beq t u
  | .s8 t n, .s8 u m => Nat.beq n m && Tm.beq t u
  | .su l, .su m => Tm.beqs l m
  | .op o w t u, .op o' w' t' u' => Nat.beq o o' && (bif w then w' else !w') && (Tm.pq t t' || Tm.beq t t') && (Tm.pq u u' || Tm.beq u u')
  | _, _ => false
def Tm.beqs : List Tm → List Tm → Bool
  | [], [] => true
  | t :: l, u :: m => Tm.beq t u && Tm.beqs l m
  | _, _ => false
end

/-- t / 256^k -/
def mkHi (t : Tm) (k : Nat) : Tm := bif Nat.beq k 0 then t else match t with
  | .hi u j => .hi u (Nat.add j k)
  | t => .hi t k
/-- (t / 256^k) % 256 -/
def mkBt (t : Tm) (k : Nat) : Tm := bif Nat.ble (bits t) (Nat.mul 8 (Nat.succ k)) then mkHi t k else .bt t k
def mkPl (t : Tm) (d : Nat) : Tm := match t with
  | .pl u e => bif Nat.beq (Nat.mod (Nat.add e d) 4294967296) 0 && Nat.ble (bits u) 32 then u else .pl u (Nat.mod (Nat.add e d) 4294967296)
  | t => bif Nat.beq d 0 then t else .pl t d
def base : Tm → Tm
  | .pl t _ => t
  | t => t
def offs : Tm → Nat
  | .pl _ d => d
  | _ => 0

def kbits : IntKind → Nat
  | .i8 | .u8 => 8 | .i16 | .u16 => 16 | .i32 | .u32 => 32 | .i64 | .u64 => 64
def keq : IntKind → IntKind → Bool
  | .i8, .i8 | .i16, .i16 | .i32, .i32 | .i64, .i64 | .u8, .u8 | .u16, .u16 | .u32, .u32 | .u64, .u64 => true
  | _, _ => false
/-- a number within its kind; small ones at once -/
def wrp (k : IntKind) (z : Int) : Int :=
  match z with
  | .ofNat n => bif Nat.ble n 127 then z else k.wrap z
  | _ => k.wrap z

def isNat (z : Int) : Option Nat := match z with | .ofNat n => some n | _ => none

/-- what a conversion of an unknown number gives -/
def convT (k : IntKind) (t : Tm) : Option SV :=
  match k with
  | .u64 => some (.sym .u64 t)
  | .u32 => bif Nat.ble (bits t) 32 then some (.sym .u32 t) else none
  | .u16 => bif Nat.ble (bits t) 16 then some (.sym .u16 t) else none
  | .u8 => match t with
    | .hi u j => some (.sym .u8 (mkBt u j))
    | t => some (.sym .u8 (mkBt t 0))
  | _ => none

/-- what is not looked into -/
def wideB : IntKind → Option Bool
  | .u64 => some true
  | .u32 => some false
  | _ => none
def opc : BinOp → Option Nat
  | .and => some 0
  | .or => some 1
  | .xor => some 2
  | .add => some 3
  | .sub => some 4
  | .mul => some 5
  | _ => none
def opT (op : BinOp) (k : IntKind) (t u : Tm) : Option SV := match wideB k with
  | some w => match opc op with
    | some o => some (.sym k (.op o w t u))
    | none => none
  | none => none
def opL (op : BinOp) (k : IntKind) (t : Tm) (b : Nat) : Option SV := match op with
  | .shl => bif Nat.blt b 32 then (match wideB k with
    | some w => some (.sym k (.op 7 w t (.c b)))
    | none => none) else none
  | .shr => bif Nat.blt b 32 then (match wideB k with
    | some w => some (.sym k (.op 8 w t (.c b)))
    | none => none) else none
  | op => opT op k t (.c b)
def orE (x y : Option SV) : Option SV := match x with | some r => some r | none => y
def convT' (k : IntKind) (t : Tm) : Option SV := orE (convT k t) (match k with | .u32 => some (.sym .u32 (.op 9 false t (.c 0))) | _ => none)

def ieq (a b : Int) : Bool := match a, b with
  | .ofNat n, .ofNat m => Nat.beq n m
  | .negSucc n, .negSucc m => Nat.beq n m
  | _, _ => false
def ilt (a b : Int) : Bool := match a, b with
  | .ofNat n, .ofNat m => Nat.blt n m
  | .negSucc n, .negSucc m => Nat.blt m n
  | .negSucc _, .ofNat _ => true
  | .ofNat _, .negSucc _ => false
def ile (a b : Int) : Bool := !ilt b a

/-- an operation on two known integers -/
def binI (op : BinOp) (k : IntKind) (a b : Int) : Option SV :=
  match op with
  | .add => some (.int k (wrp k (a + b)))
  | .sub => some (.int k (wrp k (a - b)))
  | .mul => some (.int k (wrp k (a * b)))
  | .eql => some (.bool (ieq a b))
  | .neq => some (.bool (!ieq a b))
  | .lss => some (.bool (ilt a b))
  | .leq => some (.bool (ile a b))
  | .gtr => some (.bool (ilt b a))
  | .geq => some (.bool (ile b a))
  | .quo => bif ieq b 0 then none else some (.int k (k.wrap (a.tdiv b)))
  | .rem => bif ieq b 0 then none else some (.int k (a.tmod b))
  | .and => some (.int k (k.wrap (BitVec.ofInt k.bits a &&& BitVec.ofInt k.bits b).toNat))
  | .or => some (.int k (k.wrap (BitVec.ofInt k.bits a ||| BitVec.ofInt k.bits b).toNat))
  | .xor => some (.int k (k.wrap (BitVec.ofInt k.bits a ^^^ BitVec.ofInt k.bits b).toNat))
  | .andNot => some (.int k (k.wrap (BitVec.ofInt k.bits a &&& ~~~ BitVec.ofInt k.bits b).toNat))
  | .shl => bif ilt b 0 then none else some (.int k (k.wrap (a * 2 ^ (min b.toNat k.bits))))
  | .shr => bif ilt b 0 then none else some (.int k (a.fdiv (2 ^ (min b.toNat k.bits))))

/-- an unknown and a known one -/
def binL (op : BinOp) (k : IntKind) (t : Tm) (b : Nat) : Option SV :=
  match op, k with
  | .add, .u32 => bif Nat.blt b 4294967296 then some (.sym .u32 (mkPl t b)) else none
  | .sub, .u32 => bif Nat.blt b 4294967296 then some (.sym .u32 (mkPl t (Nat.mod (Nat.sub 4294967296 b) 4294967296))) else none
  | .xor, .u64 => bif Nat.blt b 18446744073709551616 then some (.sym .u64 (.xr t b)) else none
  | .or, .u64 => match t with
    | .sh u => bif Nat.blt b 4294967296 then some (.sym .u64 (.key u b)) else none
    | _ => none
  | .shl, .u64 =>
    bif Nat.beq b 32 then (bif Nat.ble (bits t) 32 then some (.sym .u64 (.sh t)) else none)
    else bif Nat.beq b 8 then (match t with
      | .hi u j => some (.sym .u64 (.s8 u j))
      | _ => none)
    else none
  | .shr, .u64 => bif Nat.beq (Nat.mod b 8) 0 then some (.sym .u64 (mkHi t (Nat.div b 8))) else none
  | _, _ => none

/-- a known one and an unknown -/
def binR (op : BinOp) (k : IntKind) (a : Nat) (t : Tm) : Option SV :=
  match op, k with
  | .add, .u32 => bif Nat.blt a 4294967296 then some (.sym .u32 (mkPl t a)) else none
  | .xor, .u64 => bif Nat.blt a 18446744073709551616 then some (.sym .u64 (.xr t a)) else none
  | .or, .u64 => bif Nat.beq a 0 then some (.sym .u64 t) else none
  | _, _ => none

def joinB (t u : Tm) : Option Tm :=
  match t, u with
  | .s8 a j, .bt b i => bif Tm.beq a b && Nat.beq j (Nat.succ i) then some (mkHi a i) else none
  | _, _ => none

/-- the key whose token the unknown number 2 is not -/
def ownT : Tm := .key (.tok (.xr (.v 1) 1)) 1
def apart (t u : Tm) : Bool := match t, u with
  | .v i, .tok t => Nat.beq i 2 && Tm.beq t ownT
  | .tok t, .v i => Nat.beq i 2 && Tm.beq t ownT
  | _, _ => false
/-- the same one, not as much further -/
def unlike (t u : Tm) : Bool := (Tm.beq (base t) (base u) && !(Nat.beq (Nat.mod (offs t) 4294967296) (Nat.mod (offs u) 4294967296))) || apart t u
/-- two unknowns -/
def binT (op : BinOp) (k : IntKind) (t u : Tm) : Option SV :=
  match op, k with
  | .sub, .u32 => bif Tm.beq (base t) (base u) && Nat.ble (offs u) 4294967296 then some (.int .u32 (Int.ofNat (Nat.mod (Nat.sub (Nat.add (offs t) 4294967296) (offs u)) 4294967296))) else none
  | .or, .u64 => match joinB t u with | some r => some (.sym .u64 r) | none => none
  | .eql, _ => bif Tm.beq t u then some (.bool true) else bif unlike t u then some (.bool false) else none
  | .neq, _ => bif Tm.beq t u then some (.bool false) else bif unlike t u then some (.bool true) else none
  | _, _ => none

/-- are two integers, two bools the same? none: not known -/
def eqC : SV → SV → Option Bool
  | .int k a, .int k' b => bif keq k k' then some (ieq a b) else none
  | .sym k t, .sym k' u => bif keq k k' && Tm.beq t u then some true else none
  | _, _ => none
def eqD : SV → SV → Option Bool
  | .bool a, .bool b => some (a == b)
  | _, _ => none

section
variable (P : Program)

def szO (t : TypeId) : Option Nat := match P.info? t with | some i => some i.size | none => none
def aggO (t : TypeId) : Option Bool := match P.underlying t with
  | some (.struct _) => some true
  | some (.array _ _) => some true
  | some _ => some false
  | none => none

def oneS : SV → Bool
  | .agg _ => false
  | .tup _ => false
  | _ => true
def allOne : List SV → Bool
  | [] => true
  | v :: l => oneS v && allOne l
def ofV1 : Value → Option SV
  | .int k z => some (.int k z)
  | .bool b => some (.bool b)
  | .string s => some (.str s)
  | .pointer none => some .nilp
  | .slice none 0 0 => some .nils
  | .map none => some .nilm
  | .nilFunc => some .nilf
  | .nilIface => some .nili
  | _ => none
def ofVs : List Value → Option (List SV)
  | [] => some []
  | v :: l => match ofV1 v with
    | some x => match ofVs l with
      | some r => some (x :: r)
      | none => none
    | none => none
def ofV (v : Value) : Option SV := match v with
  | .agg cs => match ofVs cs.toList with | some l => some (.agg l) | none => none
  | v => ofV1 v

def evO (T : Tp) : Operand → Option SV
  | .tmp t => T.get t
  | .const v => ofV v
  | .global g => some (.gptr g 0)
  | .func f => some (.fn (.func f) [] [])
def evOs (T : Tp) : List Operand → Option (List SV)
  | [] => some []
  | x :: l => match evO T x with
    | some v => match evOs T l with
      | some r => some (v :: r)
      | none => none
    | none => none
def evPs (T : Tp) : List (Nat × Operand) → Option (List (Nat × SV))
  | [] => some []
  | (i, x) :: l => match evO T x with
    | some v => match evPs T l with
      | some r => some ((i, v) :: r)
      | none => none
    | none => none
def evOp (T : Tp) : Option Operand → Option (Option SV)
  | none => some none
  | some x => match evO T x with
    | some v => some (some v)
    | none => none

def cellsOf (v : SV) : Option (List SV) := match v with | .agg l => some l | .tup _ => none | v => some [v]

def zeroC (t : TypeId) : Option (List SV) := match P.info? t with
  | some i => match i.zero with
    | some z => match ofV z with
      | some v => cellsOf v
      | none => none
    | none => none
  | none => none

def Hp.new (h : Hp) (b : Blk) : Hp := ⟨h.t.set h.n (some b), Nat.succ h.n⟩
def Hp.put (h : Hp) (id : Nat) (b : Blk) : Hp := ⟨h.t.set id (some b), h.n⟩
def Hp.kill (h : Hp) (id : Nat) : Hp := ⟨h.t.set id none, h.n⟩

/-- What an operation gives: a value (or none), and what memory it leaves. -/
abbrev Rv := Option (Option SV × Hp)

def part (t : TypeId) (l : List SV) (off : Nat) : Option SV :=
  match aggO P t with
  | some true => match szO P t with
    | some n => match lseg l off n with
      | some r => some (.agg r)
      | none => none
    | none => none
  | some false => lget l off
  | none => none

variable (G : Nat → Option (List SV))

def cellsAt (h : Hp) : SV → Option (List SV × Nat)
  | .ptr id off => match h.t.get id with
    | some (.cells l) => some (l, off)
    | some (.fz l) => some (l, off)
    | _ => none
  | .gptr g off => match G g with
    | some l => some (l, off)
    | none => none
  | _ => none

def loadA (h : Hp) (t : TypeId) (a : SV) : Option SV :=
  match cellsAt G h a with
  | some (l, off) => part P t l off
  | none => none

def storeA (h : Hp) (t : TypeId) (a v : SV) : Option Hp :=
  match a with
  | .ptr id off => match h.t.get id with
    | some (.cells l) => match szO P t with
      | some n => match cellsOf v with
        | some cs => bif Nat.beq cs.length n then
            (match lput l off cs with
            | some l' => some (h.put id (.cells l'))
            | none => none)
          else none
        | none => none
      | none => none
    | _ => none
  | _ => none

def fillS (place : Nat → Option (Nat × Nat)) (cells : List SV) : List (Nat × SV) → Option (List SV)
  | [] => some cells
  | (i, v) :: rest => match place i with
    | some (off, size) => match cellsOf v with
      | some cs => bif Nat.beq cs.length size && Nat.blt 0 size then
          (match lput cells off cs with
          | some c => fillS place c rest
          | none => none)
        else none
      | none => none
    | none => none

def placesL : List Field → Option (List (Nat × Nat))
  | [] => some []
  | f :: fs => match szO P f.type with
    | some n => match placesL fs with
      | some r => some ((f.offset, n) :: r)
      | none => none
    | none => none

def buildA (t : TypeId) (parts : List (Nat × SV)) : Option SV :=
  match zeroC P t with
  | some z => match P.underlying t with
    | some (.struct fs) => match placesL P fs.toList with
      | some ps => match fillS (lget ps) z parts with
        | some l => some (.agg l)
        | none => none
      | none => none
    | some (.array _ e) => match szO P e with
      | some n => match fillS (fun i => some (Nat.mul i n, n)) z parts with
        | some l => some (.agg l)
        | none => none
      | none => none
    | _ => none
  | none => none

def rep (z : List SV) : Nat → List SV
  | 0 => []
  | n + 1 => z ++ rep z n

/-- elements of a slice's type: the element's type, how many cells it has -/
def elemO (t : TypeId) : Option (TypeId × Nat) := match P.underlying t with
  | some (.slice e) => match szO P e with
    | some n => some (e, n)
    | none => none
  | _ => none

/-- a type of no more than a million bytes -/
def smallT (t : TypeId) : Bool := match P.info? t with
  | some i => Nat.ble i.bytes 1048576
  | none => false
def rowA (t : TypeId) (len : Nat) (parts : List (Nat × SV)) : Option (List SV) :=
  match elemO P t with
  | some (e, n) => match zeroC P e with
    | some z => bif Nat.beq z.length n && Nat.blt 0 n && Nat.ble (Nat.mul len n) 16777216 then fillS (fun i => some (Nat.mul i n, n)) (rep z len) parts else none
    | none => none
  | none => none

/-- the cells of what is appended or copied: n elements of size sz -/
def lenS : SV → Option Nat
  | .nils => some 0
  | .sle => some 0
  | .sli _ _ n _ => some n
  | .slu _ _ n _ => some n
  | _ => none
def firstS (h : Hp) (sz n : Nat) : SV → Option (List SV)
  | .nils => some []
  | .sle => bif Nat.beq n 0 then some [] else none
  | .sli id off _ _ => match h.t.get id with
    | some (.cells l) => lseg l off (Nat.mul n sz)
    | _ => none
  | .slu id off _ _ => match h.t.get id with
    | some (.cells l) => lseg l off (Nat.mul n sz)
    | _ => none
  | _ => none

/-- may a slice of these grow? -/
def growT (e : TypeId) (sz : Nat) : Bool := smallT P e && Nat.blt 0 sz && (match zeroC P e with | some z => Nat.beq z.length sz | none => false)

/-- nothing is appended -/
def append0 (h : Hp) (s : SV) : Option (SV × Hp) := match s with
  | .nils => some (s, h)
  | .sli _ _ len cap => bif Nat.ble len cap then some (s, h) else none
  | .slu _ _ _ _ => some (s, h)
  | _ => none
def appendS (h : Hp) (e : TypeId) (sz n : Nat) (s : SV) (new : List SV) : Option (SV × Hp) := match s with
  | .nils => bif Nat.blt n 1048576 && growT P e sz then some (.slu h.n 0 n sz, h.new (.cells new)) else none
  | .sli id off len cap =>
    bif Nat.ble (Nat.add len n) cap then
      (match h.t.get id with
      | some (.cells l) => match lput l (Nat.add off (Nat.mul len sz)) new with
        | some l' => some (.sli id off (Nat.add len n) cap, h.put id (.cells l'))
        | none => none
      | _ => none)
    else
      (match firstS h sz len s with
      | some old => bif Nat.blt (Nat.add len n) 1048576 && growT P e sz then some (.slu h.n 0 (Nat.add len n) sz, h.new (.cells (old ++ new))) else none
      | none => none)
  | .slu id _ len sz' =>
    (match firstS h sz len s with
    | some old => bif Nat.beq sz sz' && Nat.blt (Nat.add len n) 1048576 && growT P e sz then some (.slu h.n 0 (Nat.add len n) sz, (h.kill id).new (.cells (old ++ new))) else none
    | none => none)
  | _ => none
def appendA (h : Hp) (t : TypeId) (s x : SV) : Option (SV × Hp) :=
  match elemO P t with
  | none => none
  | some (e, sz) => match lenS x with
    | none => none
    | some n => bif Nat.beq n 0 then append0 h s else match firstS h sz n x with
      | none => none
      | some new => appendS P h e sz n s new

def copyA (h : Hp) (t : TypeId) (d s : SV) : Option (SV × Hp) :=
  match elemO P t with
  | none => none
  | some (_, sz) =>
  match lenS d, lenS s with
  | some dl, some sl =>
    let n := bif Nat.ble sl dl then sl else dl
    (match firstS h sz n s with
    | none => none
    | some cs =>
      match d with
      | .nils => some (.int .i64 0, h)
      | .sli id off _ _ | .slu id off _ _ => match h.t.get id with
        | some (.cells l) => match lput l off cs with
          | some l' => some (.int .i64 (Int.ofNat n), h.put id (.cells l'))
          | none => none
        | _ => none
      | _ => none)
  | _, _ => none

def clearA (h : Hp) (t : TypeId) (s : SV) : Option Hp :=
  match elemO P t with
  | none => none
  | some (e, sz) =>
  match s with
  | .nils => some h
  | .sle => some h
  | .sli id off n _ | .slu id off n _ => bif Nat.beq n 0 then some h else
    (match h.t.get id with
    | some (.cells l) => match zeroC P e with
      | some z => bif Nat.beq z.length sz && Nat.blt 0 sz then (match lput l off (rep z n) with
        | some l' => some (h.put id (.cells l'))
        | none => none) else none
      | none => none
    | _ => none)
  | _ => none

def natOf : SV → Option Nat
  | .int _ (.ofNat n) => some n
  | _ => none
def boundS (x : Option SV) (d : Nat) : Option Nat := match x with
  | none => some d
  | some v => natOf v
/-- the bounds of a slice -/
def bnds (lo hi mx : Option SV) (len cap : Nat) : Option (Nat × Nat × Nat) := match boundS lo 0, boundS hi len, boundS mx cap with
  | some l, some n, some m => bif Nat.ble l n && Nat.ble n m && Nat.ble m cap && (mx.isNone || hi.isSome) then some (l, n, m) else none
  | _, _, _ => none
def cutO (off l m sz : Nat) : Nat := bif Nat.beq m l then off else Nat.add off (Nat.mul l sz)

def sliceR (sz : Nat) (x : SV) (lo hi mx : Option SV) : Option SV := match x with
  | .nils => match bnds lo hi mx 0 0 with
    | some _ => some .nils
    | none => none
  | .sli id off len cap => match bnds lo hi mx len cap with
    | some (l, n, m) => some (.sli id (cutO off l m sz) (Nat.sub n l) (Nat.sub m l))
    | none => none
  | .slu id off len sz' => bif Nat.beq sz sz' then (match bnds lo hi mx len len with
    | some (l, n, m) => match mx with
      | some _ => some (.sli id (cutO off l m sz) (Nat.sub n l) (Nat.sub m l))
      | none => bif Nat.beq l 0 then some (.slu id off n sz) else bif Nat.beq l len then some .sle else some (.slu id (Nat.add off (Nat.mul l sz)) (Nat.sub n l) sz)
    | none => none) else none
  | _ => none

def sliceA (t : TypeId) (x : SV) (lo hi mx : Option SV) : Option SV :=
  match P.underlying t with
  | some (.array n e) => match szO P e with
    | some sz => match x with
      | .ptr id off => match bnds lo hi mx n n with
        | some (l, n, m) => some (.sli id (cutO off l m sz) (Nat.sub n l) (Nat.sub m l))
        | none => none
      | _ => none
    | none => none
  | some .string => match x with
    | .str s => match mx with
      | none => match bnds lo hi none s.size s.size with
        | some (l, n, _) => some (.str (s.extract l n))
        | none => none
      | some _ => none
    | _ => none
  | some (.slice e) => match szO P e with
    | some sz => sliceR sz x lo hi mx
    | none => none
  | _ => none

def fieldAddrA (s : TypeId) (x : SV) (f : Nat) : Option SV :=
  match P.underlying s with
  | some (.struct fs) => match lget fs.toList f with
    | some fd => match szO P fd.type with
      | some n => bif Nat.beq n 0 then none else
        (match x with
        | .ptr id off => some (.ptr id (Nat.add off fd.offset))
        | .gptr g off => some (.gptr g (Nat.add off fd.offset))
        | _ => none)
      | none => none
    | none => none
  | _ => none

def indexAddrA (t : TypeId) (x i : SV) : Option SV :=
  match natOf i with
  | none => none
  | some i =>
  match P.underlying t with
  | some (.array n e) => match szO P e with
    | some sz => bif Nat.blt i n then
        (match x with
        | .ptr id off => some (.ptr id (Nat.add off (Nat.mul i sz)))
        | .gptr g off => some (.gptr g (Nat.add off (Nat.mul i sz)))
        | _ => none)
      else none
    | none => none
  | some (.slice e) => match szO P e with
    | some sz => match x with
      | .sli id off n _ | .slu id off n _ => bif Nat.blt i n then some (.ptr id (Nat.add off (Nat.mul i sz))) else none
      | _ => none
    | none => none
  | _ => none

def strAt (s : ByteArray) (i : Nat) : Option SV := match lget s.data.toList i with
  | some b => some (.int .u8 (Int.ofNat b.toNat))
  | none => none

def indexA (t : TypeId) (x i : SV) : Option SV :=
  match natOf i with
  | none => none
  | some i =>
  match P.underlying t with
  | some (.array n e) => match x, szO P e with
    | .agg l, some sz => bif Nat.blt i n then part P e l (Nat.mul i sz) else none
    | _, _ => none
  | some .string => match x with
    | .str s => strAt s i
    | _ => none
  | _ => none

def fieldA (t : TypeId) (x : SV) (f : Nat) : Option SV :=
  match P.underlying t with
  | some (.struct fs) => match lget fs.toList f, x with
    | some fd, .agg l => part P fd.type l fd.offset
    | _, _ => none
  | _ => none

/-- keys of maps (integers, or strings): are they the same? none: not known -/
def eqS (x y : SV) : Option Bool := match x, y with
  | .str a, .str b => some (a.data.toList == b.data.toList)
  | _, _ => none
def eqI (x y : SV) : Option Bool := match x, y with
  | .int k a, .int k' b => bif keq k k' then some (ieq a b) else none
  | .sym k t, .sym k' u => bif keq k k' then (bif Tm.beq t u then some true else bif unlike t u then some false else none) else none
  | _, _ => none
def eqK (isInt : Bool) (x y : SV) : Option Bool := bif isInt then eqI x y else eqS x y
def findE (isInt : Bool) (k : SV) : List (SV × SV × Nat) → Nat → Option (Option (Nat × SV))
  | [], _ => some none
  | (k', v, _) :: es, i => match eqK isInt k k' with
    | some true => some (some (i, v))
    | some false => findE isInt k es (Nat.succ i)
    | none => none
/-- integers: true; strings: false -/
def keyKind (t : TypeId) : Option Bool := match P.underlying t with
  | some (.int _) => some true
  | some .string => some false
  | _ => none

def foundA (e : TypeId) (ok : Bool) (r : Option (Nat × SV)) : Option SV := match r with
  | some (_, v) => some (bif ok then .tup [v, .bool true] else v)
  | none => match P.info? e with
    | some i => match i.zero with
      | some z => match ofV z with
        | some v => some (bif ok then .tup [v, .bool false] else v)
        | none => none
      | none => none
    | none => none
def lookupA (h : Hp) (t : TypeId) (m k : SV) (ok : Bool) : Option SV :=
  match P.underlying t with
  | some (.map kt e) => match keyKind P kt with
    | some isInt => match m with
      | .nilm => foundA P e ok none
      | .map id => match h.t.get id with
        | some (.mp es _) => match findE isInt k es 0 with
          | some r => foundA P e ok r
          | none => none
        | _ => none
      | _ => none
    | none => none
  | _ => none

def modE (v k : SV) : List (SV × SV × Nat) → Nat → List (SV × SV × Nat)
  | [], _ => []
  | (k', v', b) :: es, n => bif Nat.beq n 0 then (k, v, b) :: es else (k', v', b) :: modE v k es (Nat.pred n)
def delE : List (SV × SV × Nat) → Nat → List (SV × SV × Nat)
  | [], _ => []
  | e :: es, n => bif Nat.beq n 0 then es else e :: delE es (Nat.pred n)

def updateA (h : Hp) (t : TypeId) (m k v : SV) : Option Hp :=
  match P.underlying t with
  | some (.map kt _) => match keyKind P kt with
    | some isInt => match m with
      | .map id => match h.t.get id with
        | some (.mp es clock) => match findE isInt k es 0 with
          | some (some (i, _)) => some (h.put id (.mp (modE v k es i) clock))
          | some none => some (h.put id (.mp (es ++ [(k, v, clock)]) (Nat.succ clock)))
          | none => none
        | _ => none
      | _ => none
    | none => none
  | _ => none

def deleteA (h : Hp) (t : TypeId) (m k : SV) : Option Hp :=
  match P.underlying t with
  | some (.map kt _) => match keyKind P kt with
    | some isInt => match m with
      | .nilm => some h
      | .map id => match h.t.get id with
        | some (.mp es clock) => match findE isInt k es 0 with
          | some (some (i, _)) => some (h.put id (.mp (delE es i) clock))
          | some none => some h
          | none => none
        | _ => none
      | _ => none
    | none => none
  | _ => none

def lenA (h : Hp) (t : TypeId) (x : SV) : Option SV :=
  match P.underlying t, x with
  | some .string, .str s => some (.int .i64 (Int.ofNat s.size))
  | some (.array n _), _ => some (.int .i64 (Int.ofNat n))
  | some (.slice _), .nils => some (.int .i64 0)
  | some (.slice _), .sle => some (.int .i64 0)
  | some (.slice _), .sli _ _ n _ => some (.int .i64 (Int.ofNat n))
  | some (.slice _), .slu _ _ n _ => some (.int .i64 (Int.ofNat n))
  | some (.map _ _), .nilm => some (.int .i64 0)
  | some (.map _ _), .map id => match h.t.get id with
    | some (.mp es _) => some (.int .i64 (Int.ofNat es.length))
    | _ => none
  | _, _ => none

def rangeA (h : Hp) (t : TypeId) (x : SV) : Option Blk :=
  match P.underlying t, x with
  | some .string, .str s => some (.sit s 0)
  | some (.map _ _), .nilm => some (.mit none 0 [] 0)
  | some (.map _ _), .map id => match h.t.get id with
    | some (.mp _ clock) => some (.mit (some id) clock [] clock)
    | _ => none
  | _, _ => none

def memN (n : Nat) : List Nat → Bool
  | [] => false
  | m :: l => bif Nat.beq n m then true else memN n l
def leftE (seen : List Nat) : List (SV × SV × Nat) → List (SV × SV × Nat)
  | [] => []
  | (k, v, b) :: es => bif memN b seen then leftE seen es else (k, v, b) :: leftE seen es
def allLt (n : Nat) : List (SV × SV × Nat) → Bool
  | [] => true
  | (_, _, b) :: es => Nat.blt b n && allLt n es

def nextA (h : Hp) (it : SV) (isString : Bool) : Option (SV × Hp) :=
  match it with
  | .ptr id 0 => match h.t.get id, isString with
    | some (.sit s pos), true =>
      bif Nat.blt pos s.size then
        (match Utf8.decode s pos with
        | (c, wd) => some (.tup [.bool true, .int .i64 (Int.ofNat pos), .int .i32 (Int.ofNat c)], h.put id (.sit s (Nat.add pos wd))))
      else some (.tup [.bool false], h)
    | some (.mit none _ _ _), false => some (.tup [.bool false], h)
    | some (.mit (some m) since seen last), false => match h.t.get m with
      | some (.mp es clock) =>
        bif allLt since es && Nat.beq clock since && Nat.beq last since then
          (match leftE seen es with
          | [] => some (.tup [.bool false], h)
          | [(k, v, b)] => some (.tup [.bool true, k, v], h.put id (.mit (some m) since (seen ++ [b]) clock))
          | _ => none)
        else none
      | _ => none
    | _, _ => none
  | _ => none

def lastN : List Nat → Option Nat
  | [] => none
  | [n] => some n
  | _ :: l => lastN l
def bornE (b : Nat) : List (SV × SV × Nat) → Option (SV × SV)
  | [] => none
  | (k, v, b') :: es => bif Nat.beq b' b then some (k, v) else bornE b es
def entryA (h : Hp) (it : SV) : Option SV :=
  match it with
  | .ptr id 0 => match h.t.get id with
    | some (.mit (some m) _ seen last) => match lastN seen, h.t.get m with
      | some b, some (.mp es clock) => bif Nat.beq clock last then
          (match bornE b es with
          | some (k, v) => some (.tup [k, v])
          | none => none)
        else none
      | _, _ => none
    | _ => none
  | _ => none

def minmax (mx : Bool) : SV → List SV → Option SV
  | x, [] => some x
  | .int k a, .int k' b :: r => bif keq k k' then minmax mx (bif mx then (bif ilt a b then .int k b else .int k a) else (bif ilt b a then .int k b else .int k a)) r else none
  | _, _ => none

/-- a pure operator -/
def binII (op : BinOp) (k k' : IntKind) (a b : Int) : Option SV :=
  match op with
  | .shl => binI .shl k a b
  | .shr => binI .shr k a b
  | op => bif keq k k' then binI op k a b else none
def binSI (op : BinOp) (k k' : IntKind) (t : Tm) (b : Nat) : Option SV :=
  match op with
  | .shl => orE (binL .shl k t b) (opL .shl k t b)
  | .shr => orE (binL .shr k t b) (opL .shr k t b)
  | op => bif keq k k' then orE (binL op k t b) (opL op k t b) else none
def binIx (op : BinOp) (k : IntKind) (a : Int) (y : SV) : Option SV :=
  match y with
  | .int k' b => binII op k k' a b
  | .sym k' t => match isNat a with
    | some a => bif keq k k' then orE (binR op k a t) (opT op k (.c a) t) else none
    | none => none
  | _ => none
def binSx (op : BinOp) (k : IntKind) (t : Tm) (y : SV) : Option SV :=
  match y with
  | .int k' b => match isNat b with
    | some b => binSI op k k' t b
    | none => none
  | .sym k' u => bif keq k k' then orE (binT op k t u) (opT op k t u) else none
  | _ => none
/-- an equality whose answer is known -/
def eqB (op : BinOp) (b : Bool) : Option SV := match op with
  | .eql => some (.bool b)
  | .neq => some (.bool (!b))
  | _ => none
def isBool (t : TypeId) : Bool := match P.underlying t with | some .bool => true | _ => false
def isPtr (t : TypeId) : Bool := match P.underlying t with | some (.pointer _) => true | _ => false
def isSlc (t : TypeId) : Bool := match P.underlying t with | some (.slice _) => true | _ => false
def binBx (op : BinOp) (t : TypeId) (a : Bool) (y : SV) : Option SV := match y with
  | .bool b => bif isBool P t then eqB op (bif a then b else !b) else none
  | _ => none
def binStx (op : BinOp) (a : ByteArray) (y : SV) : Option SV := match y with
  | .str b => eqB op (a.data.toList == b.data.toList)
  | _ => none
/-- nil pointers; a pointer against nil -/
def binNp (op : BinOp) (t : TypeId) (y : SV) : Option SV := bif isPtr P t then (match y with
  | .nilp => eqB op true
  | .ptr _ _ => eqB op false
  | _ => none) else none
def binPx (op : BinOp) (t : TypeId) (y : SV) : Option SV := bif isPtr P t then (match y with
  | .nilp => eqB op false
  | _ => none) else none
def binNs (op : BinOp) (t : TypeId) (y : SV) : Option SV := bif isSlc P t then (match y with
  | .nils => eqB op true
  | _ => none) else none
def binSn (op : BinOp) (t : TypeId) (y : SV) : Option SV := bif isSlc P t then (match y with
  | .nils => eqB op false
  | _ => none) else none
def eqFs (eq : TypeId → SV → SV → Option Bool) (l m : List SV) : List Field → Option Bool
  | [] => some true
  | f :: fs => bif f.name == "_" then none else match part P f.type l f.offset, part P f.type m f.offset with
    | some a, some b => match eq f.type a b with
      | some true => eqFs eq l m fs
      | e => e
    | _, _ => none
/-- two values of a type of integers, bools and structs of such, field by field -/
def eqT : Nat → TypeId → SV → SV → Option Bool
  | 0, _, _, _ => none
  | d + 1, t, x, y => match P.underlying t with
    | some (.int _) => eqC x y
    | some .bool => eqD x y
    | some (.struct fs) => bif P.stoodInHeld t then none else match x, y with
      | .agg l, .agg m => eqFs P (eqT d) l m fs.toList
      | _, _ => none
    | _ => none
def flatT : Nat → TypeId → Bool
  | 0, _ => false
  | d + 1, t => match P.underlying t with
    | some (.int _) => true
    | some .bool => true
    | some (.struct fs) => fs.toList.all fun f => flatT d f.type
    | _ => false
def binAx (op : BinOp) (t : TypeId) (l : List SV) (y : SV) : Option SV := match y with
  | .agg m => bif flatT P 8 t then (match eqT P 8 t (.agg l) (.agg m) with
    | some b => eqB op b
    | none => none) else none
  | _ => none
def binA (op : BinOp) (t : TypeId) (x y : SV) : Option SV :=
  match x with
  | .int k a => binIx op k a y
  | .sym k a => binSx op k a y
  | .bool a => binBx P op t a y
  | .str a => binStx op a y
  | .nilp => binNp P op t y
  | .ptr _ _ => binPx P op t y
  | .nils => binNs P op t y
  | .sli _ _ _ _ => binSn P op t y
  | .slu _ _ _ _ => binSn P op t y
  | .sle => binSn P op t y
  | .agg l => binAx P op t l y
  | _ => none

def unA (op : UnOp) (x : SV) : Option SV :=
  match op, x with
  | .neg, .int k n => some (.int k (wrp k (0 - n)))
  | .xor, .int k n => some (.int k (k.wrap (BitVec.ofInt k.bits (bif k.signed then -1 else k.max) ^^^ BitVec.ofInt k.bits n).toNat))
  | .not, .bool b => some (.bool (!b))
  | _, _ => none

def convA (src dst : TypeId) (x : SV) : Option SV :=
  match P.underlying src, P.underlying dst, x with
  | some _, some (.int k), .int _ n => some (.int k (wrp k n))
  | some _, some (.int k), .sym _ t => convT' k t
  | some _, some .string, .str s => some (.str s)
  | _, _, _ => none

def nilCheckA (x : SV) : Option SV := match x with
  | .ptr _ _ => some x
  | .gptr _ _ => some x
  | .fn (.func _) _ _ => some x
  | .map _ => some x
  | _ => none

inductive Go1
  | no
  | val (v : SV) (h : Hp)
  | sk (h : Hp)
  | call (f : FuncId) (args : List SV)

def vh (h : Hp) (x : Option SV) : Go1 := match x with | some v => .val v h | none => .no
def uh (x : Option Hp) : Go1 := match x with | some h => .sk h | none => .no
def th (x : Option Hp) : Go1 := match x with | some h => .val (.tup []) h | none => .no
def xh (x : Option (SV × Hp)) : Go1 := match x with | some (v, h) => .val v h | none => .no
/-- a new block, and a pointer to it -/
def nw (h : Hp) (b : Blk) : Go1 := .val (.ptr h.n 0) (h.new b)

def bLen (ts : List TypeId) (args : List SV) (h : Hp) : Go1 := match args, ts with
  | [x], t :: _ => vh h (lenA P h t x)
  | _, _ => .no
def bAppend (ts : List TypeId) (args : List SV) (h : Hp) : Go1 := match args, ts with
  | [s, x], t :: u :: _ => (match P.underlying u with
    | some (.int _) => .no
    | some _ => xh (appendA P h t s x)
    | none => .no)
  | _, _ => .no
def bCopy (ts : List TypeId) (args : List SV) (h : Hp) : Go1 := match args, ts with
  | [d, s], t :: _ => xh (copyA P h t d s)
  | _, _ => .no
def bClear (ts : List TypeId) (args : List SV) (h : Hp) : Go1 := match args, ts with
  | [s], t :: _ => th (clearA P h t s)
  | _, _ => .no
def bDelete (ts : List TypeId) (args : List SV) (h : Hp) : Go1 := match args, ts with
  | [m, k], t :: _ => th (deleteA P h t m k)
  | _, _ => .no
def bMin (mx : Bool) (args : List SV) (h : Hp) : Go1 := match args with
  | x :: r => vh h (minmax mx x r)
  | _ => .no
def builtinA (b : Builtin) (ts : List TypeId) (args : List SV) (h : Hp) : Go1 :=
  match b with
  | .len => bLen P ts args h
  | .append => bAppend P ts args h
  | .copy => bCopy P ts args h
  | .clear => bClear P ts args h
  | .delete => bDelete P ts args h
  | .min => bMin false args h
  | .max => bMin true args h
  | _ => .no

section
variable (T : Tp) (h : Hp)
def e1 (x : Operand) (k : SV → Go1) : Go1 := match evO T x with | some v => k v | none => .no
def oPick (c a b : Operand) : Go1 := match evO T c with
  | some (.bool true) => vh h (evO T a)
  | some (.bool false) => vh h (evO T b)
  | _ => .no
def oAlloc (t : TypeId) : Go1 := match zeroC P t with
  | some z => nw h (.cells z)
  | none => .no
def oBox (x : Operand) : Go1 := match evO T x with
  | some v => match cellsOf v with
    | some cs => nw h (.cells cs)
    | none => .no
  | none => .no
def oBuild (t : TypeId) (ps : List (Nat × Operand)) : Go1 := match evPs T ps with
  | some l => vh h (buildA P t l)
  | none => .no
def oRow (t : TypeId) (len : Nat) (ps : List (Nat × Operand)) : Go1 := match evPs T ps with
  | some l => match rowA P t len l with
    | some cs => .val (.sli h.n 0 len len) (h.new (.cells cs))
    | none => .no
  | none => .no
def oLoad (t : TypeId) (a : Operand) : Go1 := match evO T a with
  | some a => vh h (loadA P G h t a)
  | none => .no
def oStore (t : TypeId) (a x : Operand) : Go1 := match evO T a with
  | some a => match evO T x with
    | some v => uh (storeA P h t a v)
    | none => .no
  | none => .no
def oNil (x : Operand) : Go1 := match evO T x with
  | some v => vh h (nilCheckA v)
  | none => .no
def isConst : Operand → Bool
  | .const _ => true
  | _ => false
def isIface (t : TypeId) : Bool := match P.underlying t with | some (.interface _) => true | _ => false
def oBin (op : BinOp) (t : TypeId) (x y : Operand) : Go1 := match evO T x with
  | some a => match evO T y with
    | some b => (match a with
      | .nili => (match b with
        | .nili => bif (isConst x || isConst y) && isIface P t then vh h (eqB op true) else .no
        | _ => .no)
      | a => vh h (binA P op t a b))
    | none => .no
  | none => .no
def oUn (op : UnOp) (x : Operand) : Go1 := match evO T x with
  | some a => vh h (unA op a)
  | none => .no
def bytesS (l : List UInt8) : List SV := l.map fun b => .int .u8 (Int.ofNat b.toNat)
def isRow8 (d : TypeId) : Bool := match P.underlying d with
  | some (.slice e) => (match P.underlying e with
    | some (.int .u8) => true
    | _ => false)
  | _ => false
def oConv (s d : TypeId) (x : Operand) : Go1 := match evO T x with
  | some (.str a) => (match P.underlying s with
    | some _ => bif isRow8 P d then .val (.slu h.n 0 a.size 1) (h.new (.fz (bytesS a.data.toList))) else vh h (convA P s d (.str a))
    | none => .no)
  | some a => vh h (convA P s d a)
  | none => .no
def oFunc (f : Fn) (a b : List Operand) : Go1 := match evOs T a with
  | some a => match evOs T b with
    | some b => .val (.fn f a b) h
    | none => .no
  | none => .no
def oMap (t : TypeId) (r : Option Operand) : Go1 := match r with
  | none => .val (.map h.n) (h.new (.mp [] 0))
  | some x => match P.underlying t with
    | some (.map _ _) => match evO T x with
      | some (.int _ _) => .val (.map h.n) (h.new (.mp [] 0))
      | _ => .no
    | _ => .no
def makeSl (t : TypeId) (l c : SV) : Go1 := match natOf l, natOf c with
  | some l, some c => match elemO P t with
    | some (e, n) => match zeroC P e with
      | some z => bif Nat.ble l c && Nat.blt c 1048576 && Nat.beq z.length n && Nat.blt 0 n && smallT P e then .val (.sli h.n 0 l c) (h.new (.cells (rep z c))) else .no
      | none => .no
    | none => .no
  | _, _ => .no
def oMake (t : TypeId) (l c : Operand) : Go1 := match evO T l with
  | some l => match evO T c with
    | some c => makeSl P h t l c
    | none => .no
  | none => .no
def oSlice (t : TypeId) (x : Operand) (lo hi mx : Option Operand) : Go1 := match evO T x with
  | some x => match evOp T lo, evOp T hi, evOp T mx with
    | some lo, some hi, some mx => vh h (sliceA P t x lo hi mx)
    | _, _, _ => .no
  | none => .no
def oFieldAddr (s : TypeId) (x : Operand) (f : Nat) : Go1 := match evO T x with
  | some a => vh h (fieldAddrA P s a f)
  | none => .no
def oField (s : TypeId) (x : Operand) (f : Nat) : Go1 := match evO T x with
  | some a => vh h (fieldA P s a f)
  | none => .no
def oIndexAddr (t : TypeId) (x i : Operand) : Go1 := match evO T x with
  | some a => match evO T i with
    | some b => vh h (indexAddrA P t a b)
    | none => .no
  | none => .no
def oIndex (t : TypeId) (x i : Operand) : Go1 := match evO T x with
  | some a => match evO T i with
    | some b => vh h (indexA P t a b)
    | none => .no
  | none => .no
def oLookup (t : TypeId) (x i : Operand) (ok : Bool) : Go1 := match evO T x with
  | some a => match evO T i with
    | some b => vh h (lookupA P h t a b ok)
    | none => .no
  | none => .no
def oUpdate (t : TypeId) (m k x : Operand) : Go1 := match evO T m, evO T k, evO T x with
  | some m, some k, some v => uh (updateA P h t m k v)
  | _, _, _ => .no
def oRange (t : TypeId) (x : Operand) : Go1 := match evO T x with
  | some a => match rangeA P h t a with
    | some b => nw h b
    | none => .no
  | none => .no
def oNext (it : Operand) (s : Bool) : Go1 := match evO T it with
  | some a => xh (nextA h a s)
  | none => .no
def oEntry (it : Operand) : Go1 := match evO T it with
  | some a => vh h (entryA h a)
  | none => .no
def oExtract (x : Operand) (i : Nat) : Go1 := match evO T x with
  | some (.tup l) => vh h (lget l i)
  | _ => .no
def oCall (c : Call) : Go1 := match c with
  | ⟨callee, args, ts⟩ => match evOs T args.toList with
    | some args => match callee with
      | .builtin b => builtinA P b ts.toList args h
      | .value f => match evO T f with
        | some (.fn (.func g) a b) => .call g (a ++ (args ++ b))
        | _ => .no
      | _ => .no
    | none => .no

/-- One operation whose guard lets it be done. -/
def opA (op : Op) : Go1 :=
  match op with
  | .move x => vh h (evO T x)
  | .assign x => vh h (evO T x)
  | .pick c a b => oPick T h c a b
  | .alloc t => oAlloc P h t
  | .box _ x => oBox T h x
  | .build t ps => oBuild P T h t ps.toList
  | .buildSlice t len ps => oRow P T h t len ps.toList
  | .load t a => oLoad P G T h t a
  | .store t a x => oStore P T h t a x
  | .nilCheck x => oNil T h x
  | .binOp op t x y _ => oBin P T h op t x y
  | .unOp op _ x => oUn T h op x
  | .convert s d x => oConv P T h s d x
  | .makeFunc f a b => oFunc T h f a.toList b.toList
  | .makeMap t r => oMap P T h t r
  | .makeSlice t l c => oMake P T h t l c
  | .slice t x lo hi mx => oSlice P T h t x lo hi mx
  | .fieldAddr s x f => oFieldAddr P T h s x f
  | .field t x f => oField P T h t x f
  | .indexAddr t x i => oIndexAddr P T h t x i
  | .index t x i => oIndex P T h t x i
  | .lookup t x i ok => oLookup P T h t x i ok
  | .mapUpdate t m k x => oUpdate P T h t m k x
  | .insert t m k x => oUpdate P T h t m k x
  | .range t x => oRange P T h t x
  | .next it s => oNext T h it s
  | .entry it => oEntry T h it
  | .extract x i => oExtract T h x i
  | .call c => oCall P T h c
  | _ => .no
end

/-- How code ends. -/
inductive Out
  | norm (T : Tp) (h : Hp)
  | exit (id : Nat) (T : Tp) (h : Hp)
  | ret (T : Tp) (h : Hp)

def putT (T : Tp) (dst : Option Tmp) (v : SV) : Tp := match dst with
  | some d => T.set d (some v)
  | none => T

/-- Is an operation wanted? none: not known. -/
def wantS (ops : List Oper) (T : Tp) (g : Option (Nat × Bool)) : Option Bool := match g with
  | none => some true
  | some (j, want) => match lget ops j with
    | some o => match o.dst with
      | some d => match T.get d with
        | some (.bool b) => some (bif want then b else !b)
        | some (.tup []) => some false
        | _ => none
      | none => none
    | none => none

/-- are all slots that code writes below n? -/
def fitsO (n : Nat) (o : Oper) : Bool := match o.dst with | some d => Nat.blt d n | none => true
def fitsC (n : Nat) : Code → Bool
  | .region _ ops _ => ops.toList.all (fitsO n)
  | .seq a b => fitsC n a && fitsC n b
  | .cond _ a b => fitsC n a && fitsC n b
  | .block _ c => fitsC n c
  | .loop c => fitsC n c
  | .scope c => fitsC n c
  | _ => true

/-- the temporaries of a frame: the arguments -/
def args0 : List SV → Nat → Tp → Tp
  | [], _, T => T
  | v :: l, i, T => args0 l (Nat.succ i) (T.set i (some v))

def resS (T : Tp) (h : Hp) : ResultVar → Option SV
  | .tmp t => T.get t
  | .cell a t => match T.get a with
    | some p => loadA P G h t p
    | none => none
def resSs (T : Tp) (h : Hp) : List ResultVar → Option (List SV)
  | [] => some []
  | r :: l => match resS P G T h r with
    | some v => match resSs T h l with
      | some r => some (v :: r)
      | none => none
    | none => none
def one : List SV → SV
  | [v] => v
  | l => .tup l

variable (hook : FuncId → Option (List SV → Hp → Option (SV × Hp)))
variable (ext : FuncId → Option (List SV → Option SV))

def callA (rec : Code → Tp → Hp → Option Out) (f : FuncId) (args : List SV) (h : Hp) : Option (SV × Hp) :=
  match hook f with
  | some k => k args h
  | none => match ext f with
    | some k => match k args with
      | some v => some (v, h)
      | none => none
    | none => match P.funcs[f]? with
      | some fn => match fn.body with
        | some c => bif fitsC fn.ntmps c then match rec c (args0 args 0 .nil) h with
          | some (.norm T h) | some (.ret T h) => match resSs P G T h fn.results.toList with
            | some l => some (one l, h)
            | none => none
          | _ => none
          else none
        | none => none
      | none => none

/-- what an operation leaves -/
def goOn (rec : Code → Tp → Hp → Option Out) (k : Tp → Hp → Option Out) (T : Tp) (h : Hp) (dst : Option Tmp) (r : Go1) : Option Out :=
  match r with
  | .val v h => k (putT T dst v) h
  | .sk h => k (putT T dst (.tup [])) h
  | .call f args => match callA P G hook ext rec f args h with
    | some (v, h) => k (putT T dst v) h
    | none => none
  | .no => none
def oneA (rec : Code → Tp → Hp → Option Out) (ops : List Oper) (o : Oper) (k : Tp → Hp → Option Out) (T : Tp) (h : Hp) : Option Out :=
  match o with
  | ⟨dst, op, _, _, _, g⟩ => match wantS ops T g with
    | some true => goOn P G hook ext rec k T h dst (opA P G T h op)
    | some false => k (putT T dst (.tup [])) h
    | none => none
def opsC (rec : Code → Tp → Hp → Option Out) (ops : List Oper) : List Oper → Tp → Hp → Option Out
  | [], T, h => some (.norm T h)
  | o :: l, T, h => oneA P G hook ext rec ops o (opsC rec ops l) T h
def opsA (rec : Code → Tp → Hp → Option Out) (ops : List Oper) (l : List Oper) : Tp → Hp → Option Out :=
  List.rec (fun T h => some (.norm T h)) (fun o _ k => oneA P G hook ext rec ops o k) l

/-! A region that draws its order. -/
/-- operations that turn memory -/
def isEff : Op → Bool
  | .store _ _ _ => true
  | .mapUpdate _ _ _ _ => true
  | .insert _ _ _ _ => true
  | .next _ _ => true
  | .call c => match c.callee with
    | .builtin .len => false
    | .builtin .min => false
    | .builtin .max => false
    | _ => true
  | _ => false
/-- operations that make memory -/
def isNew : Op → Bool
  | .alloc _ => true
  | .box _ _ => true
  | .buildSlice _ _ _ => true
  | .makeMap _ _ => true
  | .makeSlice _ _ _ => true
  | _ => false
/-- operations that read memory -/
def isRead : Op → Bool
  | .load _ _ => true
  | .lookup _ _ _ _ => true
  | .entry _ => true
  | .call _ => true
  | _ => false
def isRange : Op → Bool
  | .range _ _ => true
  | _ => false

def opTs : List Operand → List Nat
  | [] => []
  | .tmp t :: l => t :: opTs l
  | _ :: l => opTs l
def optL : Option Operand → List Operand | none => [] | some x => [x]
/-- the operands -/
def opnds : Op → List Operand
  | .move x | .assign x | .box _ x | .load _ x | .nilCheck x | .unOp _ _ x | .convert _ _ x | .fieldAddr _ x _ | .field _ x _ | .range _ x | .next x _ | .entry x | .extract x _ => [x]
  | .pick c a b => [c, a, b]
  | .build _ ps | .buildSlice _ _ ps => ps.toList.map (·.2)
  | .store _ a v | .binOp _ _ a v _ | .makeSlice _ a v | .indexAddr _ a v | .index _ a v | .lookup _ a v _ => [a, v]
  | .makeFunc _ a b => a.toList ++ b.toList
  | .makeMap _ r => optL r
  | .slice _ x l h m => x :: (optL l ++ (optL h ++ optL m))
  | .mapUpdate _ m k v | .insert _ m k v => [m, k, v]
  | .call c => (match c.callee with | .value f => [f] | _ => []) ++ c.args.toList
  | _ => []
/-- the slots that an operation looks at -/
def looks (ops : List Oper) (o : Oper) : List Nat := opTs (opnds o.op) ++ (match o.guard with
  | some (j, _) => match lget ops j with
    | some p => match p.dst with | some d => [d] | none => []
    | none => []
  | none => [])

/-- What must come ahead of an operation, directly; and at all. -/
def direct (o : Oper) : List Nat := o.after.toList.filterMap fun e => if Region.binds .any e then some e.on else none
def unionN : List Nat → List Nat → List Nat
  | [], m => m
  | x :: l, m => bif memN x m then unionN l m else x :: unionN l m
def aheadOf (bs : List (List Nat)) : List Nat → List Nat
  | [] => []
  | d :: l => unionN (d :: (match lget bs d with | some b => b | none => [])) (aheadOf bs l)
def aheads : List Oper → List (List Nat) → List (List Nat)
  | [], bs => bs
  | o :: l, bs => aheads l (bs ++ [aheadOf bs (direct o)])

/-- numbers from i on -/
def upto : Nat → Nat → List Nat
  | 0, _ => []
  | n + 1, i => i :: upto n (Nat.succ i)
def effsOf : List Oper → Nat → List Nat
  | [], _ => []
  | o :: l, i => bif isEff o.op then i :: effsOf l (Nat.succ i) else effsOf l (Nat.succ i)
/-- how many of these stand in a list -/
def countIn (l : List Nat) : List Nat → Nat
  | [] => 0
  | e :: es => bif memN e l then Nat.succ (countIn l es) else countIn l es
/-- how many of the effects can have been done ahead of i: those of whom i need not come first -/
def hiOf (bs : List (List Nat)) (i : Nat) : List Nat → Nat
  | [] => 0
  | e :: es => match lget bs e with
    | some b => bif memN i b then 0 else Nat.succ (hiOf bs i es)
    | none => 0

structure Pl where
  bs : List (List Nat)
  effs : List Nat
  lo : List Nat
  hi : List Nat

def planOf (ops : List Oper) : Pl :=
  let bs := aheads ops []
  let effs := effsOf ops 0
  ⟨bs, effs, bs.map fun b => countIn b effs, (upto ops.length 0).map fun i => hiOf bs i effs⟩

/-- is the plan sound? -/
def chainOk (bs : List (List Nat)) : List Nat → Bool
  | e :: f :: es => (match lget bs f with | some b => memN e b | none => false) && chainOk bs (f :: es)
  | _ => true
/-- each slot is written once, and whoever looks at one that is written comes behind, or (it doesn't read memory) ahead -/
def ssaAt (bs : List (List Nat)) (strict : Bool) (i : Nat) (b : List Nat) (ls : List Nat) : List Oper → Nat → Bool
  | [], _ => true
  | p :: l, j => (match p.dst with
    | some d => bif memN d ls then (memN j b || (!strict && (match lget bs j with | some c => memN i c | none => false))) else true
    | none => true) && ssaAt bs strict i b ls l (Nat.succ j)
def dstsOf : List Oper → List Nat
  | [] => []
  | o :: l => match o.dst with | some d => d :: dstsOf l | none => dstsOf l
def distinctN : List Nat → Bool
  | [] => true
  | x :: l => !memN x l && distinctN l
def allSsa (ops : List Oper) (bs : List (List Nat)) : List Oper → Nat → Bool
  | [], _ => true
  | o :: l, i => (match lget bs i with | some b => ssaAt bs (isRead o.op && !isEff o.op) i b (looks ops o) ops 0 | none => false) && !isRange o.op && allSsa ops bs l (Nat.succ i)
def backOk : List Oper → Nat → Bool
  | [], _ => true
  | o :: l, i => (direct o).all (fun j => Nat.blt j i) && backOk l (Nat.succ i)
def planOk (ops : List Oper) (p : Pl) : Bool :=
  backOk ops 0 && chainOk p.bs p.effs && distinctN (dstsOf ops) && allSsa ops p.bs ops 0

/-- Memory that is made, but not yet looked at by what turns memory: which operation's, its name, what it is. -/
abbrev Pend := List (Nat × Nat × Blk)
/-- lays those that must come ahead of an effect -/
def absorb (b : List Nat) : Pend → Hp → Pend × Hp
  | [], h => ([], h)
  | (i, id, bk) :: l, h => match absorb b l h with
    | (l', h') => bif memN i b then (l', h'.put id bk) else ((i, id, bk) :: l', h')

/-- what an operation that makes memory makes -/
def newA (id : Nat) (T : Tp) (op : Op) : Option (SV × Blk) := match opA P G T ⟨.nil, id⟩ op with
  | .val v h => match h.t.get id with
    | some b => some (v, b)
    | none => none
  | _ => none

structure Rs where
  T : Tp
  h : Hp
  cores : List Hp     -- the latest first
  pend : Pend
  id : Nat

def effA (rec : Code → Tp → Hp → Option Out) (T : Tp) (h : Hp) (op : Op) : Option (SV × Hp) := match opA P G T h op with
  | .val v h => some (v, h)
  | .sk h => some (.tup [], h)
  | .call f args => callA P G hook ext rec f args h
  | .no => none

def stepD (rec : Code → Tp → Hp → Option Out) (ops : List Oper) (b : List Nat) (i : Nat) (o : Oper) (s : Rs) : Option Rs :=
  match wantS ops s.T o.guard with
  | some false => bif isEff o.op then
      (match absorb b s.pend s.h with
      | (pd, h) => some ⟨putT s.T o.dst (.tup []), h, h :: s.cores, pd, s.id⟩)
    else some ⟨putT s.T o.dst (.tup []), s.h, s.cores, s.pend, s.id⟩
  | some true =>
    bif isEff o.op then
      (match absorb b s.pend s.h with
      | (pd, h) => match effA P G hook ext rec s.T h o.op with
        | some (v, h') => some ⟨putT s.T o.dst v, h', h' :: s.cores, pd, s.id⟩
        | none => none)
    else bif isNew o.op then
      (match newA P G s.id s.T o.op with
      | some (v, bk) => some ⟨putT s.T o.dst v, s.h, s.cores, (i, s.id, bk) :: s.pend, Nat.succ s.id⟩
      | none => none)
    else
      (match opA P G s.T s.h o.op with
      | .val v h1 => bif Nat.beq h1.n s.h.n then some ⟨putT s.T o.dst v, s.h, s.cores, s.pend, s.id⟩ else none
      | _ => none)
  | none => none

def passD (rec : Code → Tp → Hp → Option Out) (ops : List Oper) : List Oper → List (List Nat) → Nat → Rs → Option Rs
  | [], _, _, s => some s
  | o :: l, b :: bs, i, s => match stepD P G hook ext rec ops b i o s with
    | some s' => passD rec ops l bs (Nat.succ i) s'
    | none => none
  | _, _, _, _ => none

/-- are two values the same, as they stand? -/
def kindB (k k' : IntKind) : Bool := keq k k'
def sameP : SV → SV → Bool
  | .int k a, .int k' b => kindB k k' && ieq a b
  | .sym k t, .sym k' u => kindB k k' && Tm.beq t u
  | .bool a, .bool b => (bif a then b else !b)
  | .str a, .str b => a.data.toList == b.data.toList
  | .nilp, .nilp => true
  | .ptr i o, .ptr j p => Nat.beq i j && Nat.beq o p
  | .gptr i o, .gptr j p => Nat.beq i j && Nat.beq o p
  | .nils, .nils => true
  | .sli i o n c, .sli j p m d => Nat.beq i j && Nat.beq o p && Nat.beq n m && Nat.beq c d
  | .slu i o n c, .slu j p m d => Nat.beq i j && Nat.beq o p && Nat.beq n m && Nat.beq c d
  | .sle, .sle => true
  | .nilm, .nilm => true
  | .map i, .map j => Nat.beq i j
  | .nilf, .nilf => true
  | .nili, .nili => true
  | _, _ => false
def samePL : List SV → List SV → Bool
  | [], [] => true
  | x :: l, y :: m => sameP x y && samePL l m
  | _, _ => false
def sameS (x y : SV) : Bool := match x, y with
  | .fn (.func f) a b, .fn (.func g) c d => Nat.beq f g && samePL a c && samePL b d
  | x, y => sameP x y
def sameL : List SV → List SV → Bool
  | [], [] => true
  | x :: l, y :: m => sameS x y && sameL l m
  | _, _ => false
def sameV (x y : SV) : Bool := match x, y with
  | .agg l, .agg m => sameL l m
  | .tup l, .tup m => match l, m with
    | [.agg a, b], [.agg c, d] => sameL a c && sameS b d
    | l, m => sameL l m
  | x, y => sameS x y

/-- a read gives the same, wherever it may stand -/
def readOk (T : Tp) (o : Oper) : List Hp → Nat → Nat → Nat → Bool
  | [], _, _, _ => true
  | h :: hs, k, lo, hi => (bif Nat.ble lo k && Nat.ble k hi then (match opA P G T h o.op, o.dst with
      | .val v _, some d => (match T.get d with | some x => sameV x v | none => false)
      | _, _ => false) else true) && readOk T o hs (Nat.succ k) lo hi
def readsOk (T : Tp) (ops : List Oper) (cores : List Hp) : List Oper → List Nat → List Nat → Bool
  | [], _, _ => true
  | o :: l, lo :: los, hi :: his => (bif isRead o.op && !isEff o.op then (match wantS ops T o.guard with
      | some true => bif Nat.beq lo hi then true else readOk P G T o cores 0 lo hi
      | some false => true
      | none => false) else true) && readsOk T ops cores l los his
  | _, _, _ => false

def countNew : List Oper → Nat
  | [] => 0
  | o :: l => bif isNew o.op then Nat.succ (countNew l) else countNew l
def layAll : Pend → Hp → Hp
  | [], h => h
  | (_, id, bk) :: l, h => (layAll l h).put id bk

def regD (rec : Code → Tp → Hp → Option Out) (ops : List Oper) (T : Tp) (h : Hp) : Option Out :=
  bif planOk ops (planOf ops) then
    (match passD P G hook ext rec ops ops (planOf ops).bs 0 ⟨T, ⟨h.t, Nat.add h.n (countNew ops)⟩, [⟨h.t, Nat.add h.n (countNew ops)⟩], [], h.n⟩ with
    | some s => bif readsOk P G s.T ops s.cores.reverse ops (planOf ops).lo (planOf ops).hi then some (.norm s.T (layAll s.pend s.h)) else none
    | none => none)
  else none

def codeA (rec : Code → Tp → Hp → Option Out) (c : Code) (T : Tp) (h : Hp) : Option Out :=
  match c with
  | .skip => some (.norm T h)
  | .region _ ops draw => bif draw then regD P G hook ext rec ops.toList T h else opsA P G hook ext rec ops.toList ops.toList T h
  | .seq a b => match rec a T h with
    | some (.norm T h) => rec b T h
    | r => r
  | .cond c x y => match evO T c with
    | some (.bool true) => rec x T h
    | some (.bool false) => rec y T h
    | _ => none
  | .block id c => match rec c T h with
    | some (.exit id' T h) => bif Nat.beq id' id then some (.norm T h) else some (.exit id' T h)
    | r => r
  | .loop c => match rec c T h with
    | some (.norm T h) => rec (.loop c) T h
    | r => r
  | .exit id => some (.exit id T h)
  | .scope c => rec c T h
  | .ret => some (.ret T h)
  | .label _ => some (.norm T h)
  | _ => none

def execC : Nat → Code → Tp → Hp → Option Out
  | 0, _, _, _ => none
  | n + 1, c, T, h => codeA P G hook ext (execC n) c T h
def exec (n : Nat) : Code → Tp → Hp → Option Out :=
  Nat.rec (fun _ _ _ => none) (fun _ rec => codeA P G hook ext rec) n

end
end
end Go.Proofs.YtgfahpnndmocbaaGreatDoor.Sx
