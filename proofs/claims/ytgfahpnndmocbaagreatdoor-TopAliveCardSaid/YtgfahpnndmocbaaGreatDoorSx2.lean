/-
  Hooks of the executor.
-/
import Derived.Test.YtgfahpnndmocbaaGreatDoorSx1
namespace Go.Proofs.YtgfahpnndmocbaaGreatDoor.Sx
noncomputable section
open Go
def byteT : SV → Option Tm
  | .int .u8 (.ofNat n) => bif Nat.blt n 256 then some (.c n) else none
  | .sym .u8 t => some t
  | _ => none
def byteTs : List SV → Option (List Tm)
  | [] => some []
  | v :: l => match byteT v with
    | some t => match byteTs l with
      | some r => some (t :: r)
      | none => none
    | none => none
def tokH : List SV → Hp → Option (SV × Hp)
  | [.int .u64 (.ofNat n)], h => bif Nat.blt n 18446744073709551616 then some (.sym .u32 (.tok (.c n)), h) else none
  | [.sym .u64 t], h => some (.sym .u32 (.tok t), h)
  | _, _ => none
def bytesIn (h : Hp) (s : SV) : Option (List Tm) := match lenS s with
  | some n => bif Nat.blt n 1048576 then (match firstS h 1 n s with
    | some l => byteTs l
    | none => none) else none
  | none => none
def bytesAll (h : Hp) : List SV → Option (List Tm)
  | [] => some []
  | s :: l => match bytesIn h s with
    | some a => match bytesAll h l with
      | some r => some (a ++ r)
      | none => none
    | none => none
/-- does it end in its own sum? (e: are those ahead an even number?) -/
def summed : Bool → List Tm → List Tm → Bool
  | _, [], _ => false
  | _, [_], _ => false
  | e, [a, b], r => match b with
    | .bt (.su p) 0 => e && Tm.beq a (.hi (.su p) 1) && Tm.beqs p r.reverse
    | _ => false
  | e, a :: b :: c :: l, r => summed (!e) (b :: c :: l) (a :: r)
def sumH : List SV → Hp → Option (SV × Hp)
  | [s], h => match lenS s with
    | some n => bif Nat.blt n 1048576 then (match firstS h 1 n s with
      | some l => match bytesAll h l with
        | some bs => bif summed true bs [] then some (.int .u16 0, h) else some (.sym .u16 (.su bs), h)
        | none => none
      | none => none) else none
    | none => none
  | _, _ => none
def countB (b : Nat) : List UInt8 → Nat → Nat
  | [], n => n
  | x :: l, n => countB b l (bif Nat.beq x.toNat b then Nat.succ n else n)
def indexB (b : Nat) : List UInt8 → Nat → Int
  | [], _ => -1
  | x :: l, n => bif Nat.beq x.toNat b then .ofNat n else indexB b l (Nat.succ n)
def countH : List SV → Option SV
  | [.str s, .int .u8 (.ofNat c)] => bif Nat.blt c 256 then some (.int .i64 (.ofNat (countB c s.data.toList 0))) else none
  | _ => none
def indexH : List SV → Option SV
  | [.str s, .int .u8 (.ofNat c)] => bif Nat.blt c 256 then some (.int .i64 (indexB c s.data.toList 0)) else none
  | _ => none
def hooks (a b : Nat) (f : FuncId) : Option (List SV → Hp → Option (SV × Hp)) := bif Nat.beq f a then some tokH else bif Nat.beq f b then some sumH else none
def exts (a b : Nat) (f : FuncId) : Option (List SV → Option SV) := bif Nat.beq f a then some countH else bif Nat.beq f b then some indexH else none
end
end Go.Proofs.YtgfahpnndmocbaaGreatDoor.Sx
