/-
  The executor once more, in closed words: what it gives is what the executor gives; a kernel writes less for each step.
-/
import Derived.Test.YtgfahpnndmocbaaGreatDoorSx26
namespace Go.Proofs.YtgfahpnndmocbaaGreatDoor.Sx
noncomputable section
open Go Go.RowKit
set_option linter.unusedVariables false
set_option linter.unusedSimpArgs false
noncomputable section

/-! Trees. -/
def dg (k : Nat) : D8 := d8 (Nat.land (Nat.sub k 1) 7)
def nx (k : Nat) : Nat := Nat.div (Nat.sub k 1) 8
theorem d8_sel {β : Type} (a0 a1 a2 a3 a4 a5 a6 a7 : β) (r : Nat) : @D8.rec (fun _ => β) a0 a1 a2 a3 a4 a5 a6 a7 (d8 r) = sel r a0 a1 a2 a3 a4 a5 a6 a7 := by
  rcases r with _ | _ | _ | _ | _ | _ | _ | r <;> rfl

def getS : Tr SV → Nat → Option SV := @Tr.rec SV (fun _ => Nat → Option SV) (fun _ => none)
  (fun v _ _ _ _ _ _ _ _ g0 g1 g2 g3 g4 g5 g6 g7 k => @Bool.rec (fun _ => Option SV) (@D8.rec (fun _ => Nat → Option SV) g0 g1 g2 g3 g4 g5 g6 g7 (dg k) (nx k)) v (Nat.beq k 0))
theorem getS_eq (t : Tr SV) (k : Nat) : getS t k = t.get k := by
  induction t generalizing k with
  | nil => rfl
  | node v c0 c1 c2 c3 c4 c5 c6 c7 h0 h1 h2 h3 h4 h5 h6 h7 =>
    cases k with
    | zero => rfl
    | succ p =>
      show (@D8.rec (fun _ => Nat → Option SV) (getS c0) (getS c1) (getS c2) (getS c3) (getS c4) (getS c5) (getS c6) (getS c7) (d8 (Nat.land p 7)) (Nat.div p 8)) = _
      rw [d8_sel, show getS c0 = c0.get from funext h0, show getS c1 = c1.get from funext h1, show getS c2 = c2.get from funext h2, show getS c3 = c3.get from funext h3, show getS c4 = c4.get from funext h4, show getS c5 = c5.get from funext h5, show getS c6 = c6.get from funext h6, show getS c7 = c7.get from funext h7]
      rfl
def jS0 : Option SV → Tr SV → Tr SV → Tr SV → Tr SV → Tr SV → Tr SV → Tr SV → Tr SV → (Nat → Option SV → Tr SV) → (Nat → Option SV → Tr SV) → (Nat → Option SV → Tr SV) → (Nat → Option SV → Tr SV) → (Nat → Option SV → Tr SV) → (Nat → Option SV → Tr SV) → (Nat → Option SV → Tr SV) → (Nat → Option SV → Tr SV) → Nat → Option SV → Tr SV := fun v c0 c1 c2 c3 c4 c5 c6 c7 s0 s1 s2 s3 s4 s5 s6 s7 q x => .node v (s0 q x) c1 c2 c3 c4 c5 c6 c7
def nS0 : Tr SV → Tr SV := fun s => .node none s .nil .nil .nil .nil .nil .nil .nil
def jS1 : Option SV → Tr SV → Tr SV → Tr SV → Tr SV → Tr SV → Tr SV → Tr SV → Tr SV → (Nat → Option SV → Tr SV) → (Nat → Option SV → Tr SV) → (Nat → Option SV → Tr SV) → (Nat → Option SV → Tr SV) → (Nat → Option SV → Tr SV) → (Nat → Option SV → Tr SV) → (Nat → Option SV → Tr SV) → (Nat → Option SV → Tr SV) → Nat → Option SV → Tr SV := fun v c0 c1 c2 c3 c4 c5 c6 c7 s0 s1 s2 s3 s4 s5 s6 s7 q x => .node v c0 (s1 q x) c2 c3 c4 c5 c6 c7
def nS1 : Tr SV → Tr SV := fun s => .node none .nil s .nil .nil .nil .nil .nil .nil
def jS2 : Option SV → Tr SV → Tr SV → Tr SV → Tr SV → Tr SV → Tr SV → Tr SV → Tr SV → (Nat → Option SV → Tr SV) → (Nat → Option SV → Tr SV) → (Nat → Option SV → Tr SV) → (Nat → Option SV → Tr SV) → (Nat → Option SV → Tr SV) → (Nat → Option SV → Tr SV) → (Nat → Option SV → Tr SV) → (Nat → Option SV → Tr SV) → Nat → Option SV → Tr SV := fun v c0 c1 c2 c3 c4 c5 c6 c7 s0 s1 s2 s3 s4 s5 s6 s7 q x => .node v c0 c1 (s2 q x) c3 c4 c5 c6 c7
def nS2 : Tr SV → Tr SV := fun s => .node none .nil .nil s .nil .nil .nil .nil .nil
def jS3 : Option SV → Tr SV → Tr SV → Tr SV → Tr SV → Tr SV → Tr SV → Tr SV → Tr SV → (Nat → Option SV → Tr SV) → (Nat → Option SV → Tr SV) → (Nat → Option SV → Tr SV) → (Nat → Option SV → Tr SV) → (Nat → Option SV → Tr SV) → (Nat → Option SV → Tr SV) → (Nat → Option SV → Tr SV) → (Nat → Option SV → Tr SV) → Nat → Option SV → Tr SV := fun v c0 c1 c2 c3 c4 c5 c6 c7 s0 s1 s2 s3 s4 s5 s6 s7 q x => .node v c0 c1 c2 (s3 q x) c4 c5 c6 c7
def nS3 : Tr SV → Tr SV := fun s => .node none .nil .nil .nil s .nil .nil .nil .nil
def jS4 : Option SV → Tr SV → Tr SV → Tr SV → Tr SV → Tr SV → Tr SV → Tr SV → Tr SV → (Nat → Option SV → Tr SV) → (Nat → Option SV → Tr SV) → (Nat → Option SV → Tr SV) → (Nat → Option SV → Tr SV) → (Nat → Option SV → Tr SV) → (Nat → Option SV → Tr SV) → (Nat → Option SV → Tr SV) → (Nat → Option SV → Tr SV) → Nat → Option SV → Tr SV := fun v c0 c1 c2 c3 c4 c5 c6 c7 s0 s1 s2 s3 s4 s5 s6 s7 q x => .node v c0 c1 c2 c3 (s4 q x) c5 c6 c7
def nS4 : Tr SV → Tr SV := fun s => .node none .nil .nil .nil .nil s .nil .nil .nil
def jS5 : Option SV → Tr SV → Tr SV → Tr SV → Tr SV → Tr SV → Tr SV → Tr SV → Tr SV → (Nat → Option SV → Tr SV) → (Nat → Option SV → Tr SV) → (Nat → Option SV → Tr SV) → (Nat → Option SV → Tr SV) → (Nat → Option SV → Tr SV) → (Nat → Option SV → Tr SV) → (Nat → Option SV → Tr SV) → (Nat → Option SV → Tr SV) → Nat → Option SV → Tr SV := fun v c0 c1 c2 c3 c4 c5 c6 c7 s0 s1 s2 s3 s4 s5 s6 s7 q x => .node v c0 c1 c2 c3 c4 (s5 q x) c6 c7
def nS5 : Tr SV → Tr SV := fun s => .node none .nil .nil .nil .nil .nil s .nil .nil
def jS6 : Option SV → Tr SV → Tr SV → Tr SV → Tr SV → Tr SV → Tr SV → Tr SV → Tr SV → (Nat → Option SV → Tr SV) → (Nat → Option SV → Tr SV) → (Nat → Option SV → Tr SV) → (Nat → Option SV → Tr SV) → (Nat → Option SV → Tr SV) → (Nat → Option SV → Tr SV) → (Nat → Option SV → Tr SV) → (Nat → Option SV → Tr SV) → Nat → Option SV → Tr SV := fun v c0 c1 c2 c3 c4 c5 c6 c7 s0 s1 s2 s3 s4 s5 s6 s7 q x => .node v c0 c1 c2 c3 c4 c5 (s6 q x) c7
def nS6 : Tr SV → Tr SV := fun s => .node none .nil .nil .nil .nil .nil .nil s .nil
def jS7 : Option SV → Tr SV → Tr SV → Tr SV → Tr SV → Tr SV → Tr SV → Tr SV → Tr SV → (Nat → Option SV → Tr SV) → (Nat → Option SV → Tr SV) → (Nat → Option SV → Tr SV) → (Nat → Option SV → Tr SV) → (Nat → Option SV → Tr SV) → (Nat → Option SV → Tr SV) → (Nat → Option SV → Tr SV) → (Nat → Option SV → Tr SV) → Nat → Option SV → Tr SV := fun v c0 c1 c2 c3 c4 c5 c6 c7 s0 s1 s2 s3 s4 s5 s6 s7 q x => .node v c0 c1 c2 c3 c4 c5 c6 (s7 q x)
def nS7 : Tr SV → Tr SV := fun s => .node none .nil .nil .nil .nil .nil .nil .nil s
def mqS : Nat → Nat → Option SV → Tr SV := @Nat.rec (fun _ => Nat → Option SV → Tr SV) (fun _ _ => .nil)
  (fun _ ih k x => @Bool.rec (fun _ => Tr SV) (@D8.rec (fun _ => Tr SV → Tr SV) nS0 nS1 nS2 nS3 nS4 nS5 nS6 nS7 (dg k) (ih (nx k) x)) (.node x .nil .nil .nil .nil .nil .nil .nil .nil) (Nat.beq k 0))
theorem mqS_eq : ∀ (f k : Nat) (x : Option SV), mqS f k x = Tr.mk x f k
  | 0, k, x => rfl
  | f + 1, 0, x => rfl
  | f + 1, p + 1, x => by
    show (@D8.rec (fun _ => Tr SV → Tr SV) nS0 nS1 nS2 nS3 nS4 nS5 nS6 nS7 (d8 (Nat.land p 7)) (mqS f (Nat.div p 8) x)) = sel (Nat.land p 7) k0 k1 k2 k3 k4 k5 k6 k7 none .nil .nil .nil .nil .nil .nil .nil .nil (Tr.mk x f (Nat.div p 8))
    rw [d8_sel, mqS_eq f]
    generalize Nat.land p 7 = r
    rcases r with _ | _ | _ | _ | _ | _ | _ | r <;> rfl
def stS : Tr SV → Nat → Option SV → Tr SV := @Tr.rec SV (fun _ => Nat → Option SV → Tr SV) (fun k x => mqS (Nat.succ k) k x)
  (fun v c0 c1 c2 c3 c4 c5 c6 c7 s0 s1 s2 s3 s4 s5 s6 s7 k x => @Bool.rec (fun _ => Tr SV) (@D8.rec (fun _ => Option SV → Tr SV → Tr SV → Tr SV → Tr SV → Tr SV → Tr SV → Tr SV → Tr SV → (Nat → Option SV → Tr SV) → (Nat → Option SV → Tr SV) → (Nat → Option SV → Tr SV) → (Nat → Option SV → Tr SV) → (Nat → Option SV → Tr SV) → (Nat → Option SV → Tr SV) → (Nat → Option SV → Tr SV) → (Nat → Option SV → Tr SV) → Nat → Option SV → Tr SV) jS0 jS1 jS2 jS3 jS4 jS5 jS6 jS7 (dg k) v c0 c1 c2 c3 c4 c5 c6 c7 s0 s1 s2 s3 s4 s5 s6 s7 (nx k) x) (.node x c0 c1 c2 c3 c4 c5 c6 c7) (Nat.beq k 0))
theorem stS_eq (t : Tr SV) (k : Nat) (x : Option SV) : stS t k x = t.set k x := by
  unfold Tr.set
  induction t generalizing k with
  | nil =>
    show mqS (Nat.succ k) k x = Tr.mk x (Nat.succ k) k
    exact mqS_eq _ _ _
  | node v c0 c1 c2 c3 c4 c5 c6 c7 h0 h1 h2 h3 h4 h5 h6 h7 =>
    cases k with
    | zero => rfl
    | succ p =>
      show (@D8.rec (fun _ => Option SV → Tr SV → Tr SV → Tr SV → Tr SV → Tr SV → Tr SV → Tr SV → Tr SV → (Nat → Option SV → Tr SV) → (Nat → Option SV → Tr SV) → (Nat → Option SV → Tr SV) → (Nat → Option SV → Tr SV) → (Nat → Option SV → Tr SV) → (Nat → Option SV → Tr SV) → (Nat → Option SV → Tr SV) → (Nat → Option SV → Tr SV) → Nat → Option SV → Tr SV) jS0 jS1 jS2 jS3 jS4 jS5 jS6 jS7 (d8 (Nat.land p 7)) v c0 c1 c2 c3 c4 c5 c6 c7 (stS c0) (stS c1) (stS c2) (stS c3) (stS c4) (stS c5) (stS c6) (stS c7) (Nat.div p 8) x) =
        sel (Nat.land p 7) k0 k1 k2 k3 k4 k5 k6 k7 v c0 c1 c2 c3 c4 c5 c6 c7 (sel (Nat.land p 7) (Tr.st c0 x) (Tr.st c1 x) (Tr.st c2 x) (Tr.st c3 x) (Tr.st c4 x) (Tr.st c5 x) (Tr.st c6 x) (Tr.st c7 x) (Nat.div p 8))
      rw [d8_sel]
      generalize Nat.land p 7 = r
      rcases r with _ | _ | _ | _ | _ | _ | _ | r
      · exact congrArg (fun s => Tr.node v s c1 c2 c3 c4 c5 c6 c7) (h0 _)
      · exact congrArg (fun s => Tr.node v c0 s c2 c3 c4 c5 c6 c7) (h1 _)
      · exact congrArg (fun s => Tr.node v c0 c1 s c3 c4 c5 c6 c7) (h2 _)
      · exact congrArg (fun s => Tr.node v c0 c1 c2 s c4 c5 c6 c7) (h3 _)
      · exact congrArg (fun s => Tr.node v c0 c1 c2 c3 s c5 c6 c7) (h4 _)
      · exact congrArg (fun s => Tr.node v c0 c1 c2 c3 c4 s c6 c7) (h5 _)
      · exact congrArg (fun s => Tr.node v c0 c1 c2 c3 c4 c5 s c7) (h6 _)
      · exact congrArg (fun s => Tr.node v c0 c1 c2 c3 c4 c5 c6 s) (h7 _)

def getB : Tr Blk → Nat → Option Blk := @Tr.rec Blk (fun _ => Nat → Option Blk) (fun _ => none)
  (fun v _ _ _ _ _ _ _ _ g0 g1 g2 g3 g4 g5 g6 g7 k => @Bool.rec (fun _ => Option Blk) (@D8.rec (fun _ => Nat → Option Blk) g0 g1 g2 g3 g4 g5 g6 g7 (dg k) (nx k)) v (Nat.beq k 0))
theorem getB_eq (t : Tr Blk) (k : Nat) : getB t k = t.get k := by
  induction t generalizing k with
  | nil => rfl
  | node v c0 c1 c2 c3 c4 c5 c6 c7 h0 h1 h2 h3 h4 h5 h6 h7 =>
    cases k with
    | zero => rfl
    | succ p =>
      show (@D8.rec (fun _ => Nat → Option Blk) (getB c0) (getB c1) (getB c2) (getB c3) (getB c4) (getB c5) (getB c6) (getB c7) (d8 (Nat.land p 7)) (Nat.div p 8)) = _
      rw [d8_sel, show getB c0 = c0.get from funext h0, show getB c1 = c1.get from funext h1, show getB c2 = c2.get from funext h2, show getB c3 = c3.get from funext h3, show getB c4 = c4.get from funext h4, show getB c5 = c5.get from funext h5, show getB c6 = c6.get from funext h6, show getB c7 = c7.get from funext h7]
      rfl
def jB0 : Option Blk → Tr Blk → Tr Blk → Tr Blk → Tr Blk → Tr Blk → Tr Blk → Tr Blk → Tr Blk → (Nat → Option Blk → Tr Blk) → (Nat → Option Blk → Tr Blk) → (Nat → Option Blk → Tr Blk) → (Nat → Option Blk → Tr Blk) → (Nat → Option Blk → Tr Blk) → (Nat → Option Blk → Tr Blk) → (Nat → Option Blk → Tr Blk) → (Nat → Option Blk → Tr Blk) → Nat → Option Blk → Tr Blk := fun v c0 c1 c2 c3 c4 c5 c6 c7 s0 s1 s2 s3 s4 s5 s6 s7 q x => .node v (s0 q x) c1 c2 c3 c4 c5 c6 c7
def nB0 : Tr Blk → Tr Blk := fun s => .node none s .nil .nil .nil .nil .nil .nil .nil
def jB1 : Option Blk → Tr Blk → Tr Blk → Tr Blk → Tr Blk → Tr Blk → Tr Blk → Tr Blk → Tr Blk → (Nat → Option Blk → Tr Blk) → (Nat → Option Blk → Tr Blk) → (Nat → Option Blk → Tr Blk) → (Nat → Option Blk → Tr Blk) → (Nat → Option Blk → Tr Blk) → (Nat → Option Blk → Tr Blk) → (Nat → Option Blk → Tr Blk) → (Nat → Option Blk → Tr Blk) → Nat → Option Blk → Tr Blk := fun v c0 c1 c2 c3 c4 c5 c6 c7 s0 s1 s2 s3 s4 s5 s6 s7 q x => .node v c0 (s1 q x) c2 c3 c4 c5 c6 c7
def nB1 : Tr Blk → Tr Blk := fun s => .node none .nil s .nil .nil .nil .nil .nil .nil
def jB2 : Option Blk → Tr Blk → Tr Blk → Tr Blk → Tr Blk → Tr Blk → Tr Blk → Tr Blk → Tr Blk → (Nat → Option Blk → Tr Blk) → (Nat → Option Blk → Tr Blk) → (Nat → Option Blk → Tr Blk) → (Nat → Option Blk → Tr Blk) → (Nat → Option Blk → Tr Blk) → (Nat → Option Blk → Tr Blk) → (Nat → Option Blk → Tr Blk) → (Nat → Option Blk → Tr Blk) → Nat → Option Blk → Tr Blk := fun v c0 c1 c2 c3 c4 c5 c6 c7 s0 s1 s2 s3 s4 s5 s6 s7 q x => .node v c0 c1 (s2 q x) c3 c4 c5 c6 c7
def nB2 : Tr Blk → Tr Blk := fun s => .node none .nil .nil s .nil .nil .nil .nil .nil
def jB3 : Option Blk → Tr Blk → Tr Blk → Tr Blk → Tr Blk → Tr Blk → Tr Blk → Tr Blk → Tr Blk → (Nat → Option Blk → Tr Blk) → (Nat → Option Blk → Tr Blk) → (Nat → Option Blk → Tr Blk) → (Nat → Option Blk → Tr Blk) → (Nat → Option Blk → Tr Blk) → (Nat → Option Blk → Tr Blk) → (Nat → Option Blk → Tr Blk) → (Nat → Option Blk → Tr Blk) → Nat → Option Blk → Tr Blk := fun v c0 c1 c2 c3 c4 c5 c6 c7 s0 s1 s2 s3 s4 s5 s6 s7 q x => .node v c0 c1 c2 (s3 q x) c4 c5 c6 c7
def nB3 : Tr Blk → Tr Blk := fun s => .node none .nil .nil .nil s .nil .nil .nil .nil
def jB4 : Option Blk → Tr Blk → Tr Blk → Tr Blk → Tr Blk → Tr Blk → Tr Blk → Tr Blk → Tr Blk → (Nat → Option Blk → Tr Blk) → (Nat → Option Blk → Tr Blk) → (Nat → Option Blk → Tr Blk) → (Nat → Option Blk → Tr Blk) → (Nat → Option Blk → Tr Blk) → (Nat → Option Blk → Tr Blk) → (Nat → Option Blk → Tr Blk) → (Nat → Option Blk → Tr Blk) → Nat → Option Blk → Tr Blk := fun v c0 c1 c2 c3 c4 c5 c6 c7 s0 s1 s2 s3 s4 s5 s6 s7 q x => .node v c0 c1 c2 c3 (s4 q x) c5 c6 c7
def nB4 : Tr Blk → Tr Blk := fun s => .node none .nil .nil .nil .nil s .nil .nil .nil
def jB5 : Option Blk → Tr Blk → Tr Blk → Tr Blk → Tr Blk → Tr Blk → Tr Blk → Tr Blk → Tr Blk → (Nat → Option Blk → Tr Blk) → (Nat → Option Blk → Tr Blk) → (Nat → Option Blk → Tr Blk) → (Nat → Option Blk → Tr Blk) → (Nat → Option Blk → Tr Blk) → (Nat → Option Blk → Tr Blk) → (Nat → Option Blk → Tr Blk) → (Nat → Option Blk → Tr Blk) → Nat → Option Blk → Tr Blk := fun v c0 c1 c2 c3 c4 c5 c6 c7 s0 s1 s2 s3 s4 s5 s6 s7 q x => .node v c0 c1 c2 c3 c4 (s5 q x) c6 c7
def nB5 : Tr Blk → Tr Blk := fun s => .node none .nil .nil .nil .nil .nil s .nil .nil
def jB6 : Option Blk → Tr Blk → Tr Blk → Tr Blk → Tr Blk → Tr Blk → Tr Blk → Tr Blk → Tr Blk → (Nat → Option Blk → Tr Blk) → (Nat → Option Blk → Tr Blk) → (Nat → Option Blk → Tr Blk) → (Nat → Option Blk → Tr Blk) → (Nat → Option Blk → Tr Blk) → (Nat → Option Blk → Tr Blk) → (Nat → Option Blk → Tr Blk) → (Nat → Option Blk → Tr Blk) → Nat → Option Blk → Tr Blk := fun v c0 c1 c2 c3 c4 c5 c6 c7 s0 s1 s2 s3 s4 s5 s6 s7 q x => .node v c0 c1 c2 c3 c4 c5 (s6 q x) c7
def nB6 : Tr Blk → Tr Blk := fun s => .node none .nil .nil .nil .nil .nil .nil s .nil
def jB7 : Option Blk → Tr Blk → Tr Blk → Tr Blk → Tr Blk → Tr Blk → Tr Blk → Tr Blk → Tr Blk → (Nat → Option Blk → Tr Blk) → (Nat → Option Blk → Tr Blk) → (Nat → Option Blk → Tr Blk) → (Nat → Option Blk → Tr Blk) → (Nat → Option Blk → Tr Blk) → (Nat → Option Blk → Tr Blk) → (Nat → Option Blk → Tr Blk) → (Nat → Option Blk → Tr Blk) → Nat → Option Blk → Tr Blk := fun v c0 c1 c2 c3 c4 c5 c6 c7 s0 s1 s2 s3 s4 s5 s6 s7 q x => .node v c0 c1 c2 c3 c4 c5 c6 (s7 q x)
def nB7 : Tr Blk → Tr Blk := fun s => .node none .nil .nil .nil .nil .nil .nil .nil s
def mqB : Nat → Nat → Option Blk → Tr Blk := @Nat.rec (fun _ => Nat → Option Blk → Tr Blk) (fun _ _ => .nil)
  (fun _ ih k x => @Bool.rec (fun _ => Tr Blk) (@D8.rec (fun _ => Tr Blk → Tr Blk) nB0 nB1 nB2 nB3 nB4 nB5 nB6 nB7 (dg k) (ih (nx k) x)) (.node x .nil .nil .nil .nil .nil .nil .nil .nil) (Nat.beq k 0))
theorem mqB_eq : ∀ (f k : Nat) (x : Option Blk), mqB f k x = Tr.mk x f k
  | 0, k, x => rfl
  | f + 1, 0, x => rfl
  | f + 1, p + 1, x => by
    show (@D8.rec (fun _ => Tr Blk → Tr Blk) nB0 nB1 nB2 nB3 nB4 nB5 nB6 nB7 (d8 (Nat.land p 7)) (mqB f (Nat.div p 8) x)) = sel (Nat.land p 7) k0 k1 k2 k3 k4 k5 k6 k7 none .nil .nil .nil .nil .nil .nil .nil .nil (Tr.mk x f (Nat.div p 8))
    rw [d8_sel, mqB_eq f]
    generalize Nat.land p 7 = r
    rcases r with _ | _ | _ | _ | _ | _ | _ | r <;> rfl
def stB : Tr Blk → Nat → Option Blk → Tr Blk := @Tr.rec Blk (fun _ => Nat → Option Blk → Tr Blk) (fun k x => mqB (Nat.succ k) k x)
  (fun v c0 c1 c2 c3 c4 c5 c6 c7 s0 s1 s2 s3 s4 s5 s6 s7 k x => @Bool.rec (fun _ => Tr Blk) (@D8.rec (fun _ => Option Blk → Tr Blk → Tr Blk → Tr Blk → Tr Blk → Tr Blk → Tr Blk → Tr Blk → Tr Blk → (Nat → Option Blk → Tr Blk) → (Nat → Option Blk → Tr Blk) → (Nat → Option Blk → Tr Blk) → (Nat → Option Blk → Tr Blk) → (Nat → Option Blk → Tr Blk) → (Nat → Option Blk → Tr Blk) → (Nat → Option Blk → Tr Blk) → (Nat → Option Blk → Tr Blk) → Nat → Option Blk → Tr Blk) jB0 jB1 jB2 jB3 jB4 jB5 jB6 jB7 (dg k) v c0 c1 c2 c3 c4 c5 c6 c7 s0 s1 s2 s3 s4 s5 s6 s7 (nx k) x) (.node x c0 c1 c2 c3 c4 c5 c6 c7) (Nat.beq k 0))
theorem stB_eq (t : Tr Blk) (k : Nat) (x : Option Blk) : stB t k x = t.set k x := by
  unfold Tr.set
  induction t generalizing k with
  | nil =>
    show mqB (Nat.succ k) k x = Tr.mk x (Nat.succ k) k
    exact mqB_eq _ _ _
  | node v c0 c1 c2 c3 c4 c5 c6 c7 h0 h1 h2 h3 h4 h5 h6 h7 =>
    cases k with
    | zero => rfl
    | succ p =>
      show (@D8.rec (fun _ => Option Blk → Tr Blk → Tr Blk → Tr Blk → Tr Blk → Tr Blk → Tr Blk → Tr Blk → Tr Blk → (Nat → Option Blk → Tr Blk) → (Nat → Option Blk → Tr Blk) → (Nat → Option Blk → Tr Blk) → (Nat → Option Blk → Tr Blk) → (Nat → Option Blk → Tr Blk) → (Nat → Option Blk → Tr Blk) → (Nat → Option Blk → Tr Blk) → (Nat → Option Blk → Tr Blk) → Nat → Option Blk → Tr Blk) jB0 jB1 jB2 jB3 jB4 jB5 jB6 jB7 (d8 (Nat.land p 7)) v c0 c1 c2 c3 c4 c5 c6 c7 (stB c0) (stB c1) (stB c2) (stB c3) (stB c4) (stB c5) (stB c6) (stB c7) (Nat.div p 8) x) =
        sel (Nat.land p 7) k0 k1 k2 k3 k4 k5 k6 k7 v c0 c1 c2 c3 c4 c5 c6 c7 (sel (Nat.land p 7) (Tr.st c0 x) (Tr.st c1 x) (Tr.st c2 x) (Tr.st c3 x) (Tr.st c4 x) (Tr.st c5 x) (Tr.st c6 x) (Tr.st c7 x) (Nat.div p 8))
      rw [d8_sel]
      generalize Nat.land p 7 = r
      rcases r with _ | _ | _ | _ | _ | _ | _ | r
      · exact congrArg (fun s => Tr.node v s c1 c2 c3 c4 c5 c6 c7) (h0 _)
      · exact congrArg (fun s => Tr.node v c0 s c2 c3 c4 c5 c6 c7) (h1 _)
      · exact congrArg (fun s => Tr.node v c0 c1 s c3 c4 c5 c6 c7) (h2 _)
      · exact congrArg (fun s => Tr.node v c0 c1 c2 s c4 c5 c6 c7) (h3 _)
      · exact congrArg (fun s => Tr.node v c0 c1 c2 c3 s c5 c6 c7) (h4 _)
      · exact congrArg (fun s => Tr.node v c0 c1 c2 c3 c4 s c6 c7) (h5 _)
      · exact congrArg (fun s => Tr.node v c0 c1 c2 c3 c4 c5 s c7) (h6 _)
      · exact congrArg (fun s => Tr.node v c0 c1 c2 c3 c4 c5 c6 s) (h7 _)

def lgetF : List SV → Nat → Option SV := @List.rec SV (fun _ => Nat → Option SV) (fun _ => none) (fun x _ g n => @Bool.rec (fun _ => Option SV) (g (Nat.sub n 1)) (some x) (Nat.beq n 0))
theorem lgetF_eq : ∀ (l : List SV) (n : Nat), lgetF l n = lget l n
  | [], n => rfl
  | x :: l, 0 => rfl
  | x :: l, n + 1 => lgetF_eq l n

/-! What a value is. -/
inductive Pv
  | ptr (id off : Nat)
  | gptr (g off : Nat)
  | no
inductive Iv
  | int (k : IntKind) (z : Int)
  | no
def asP : SV → Pv := @SV.rec (fun _ => Pv) (fun _ => Unit)
  (fun _ _ => Pv.no) (fun _ _ => Pv.no) (fun _ => Pv.no) (fun _ => Pv.no) (Pv.no) Pv.ptr Pv.gptr (Pv.no) (fun _ _ _ _ => Pv.no) (fun _ _ _ _ => Pv.no) (Pv.no) (Pv.no) (fun _ => Pv.no) (fun _ _ _ _ _ => Pv.no) (Pv.no) (Pv.no) (fun _ _ => Pv.no) (fun _ _ => Pv.no)
  () (fun _ _ _ _ => ())
def asI : SV → Iv := @SV.rec (fun _ => Iv) (fun _ => Unit)
  Iv.int (fun _ _ => Iv.no) (fun _ => Iv.no) (fun _ => Iv.no) (Iv.no) (fun _ _ => Iv.no) (fun _ _ => Iv.no) (Iv.no) (fun _ _ _ _ => Iv.no) (fun _ _ _ _ => Iv.no) (Iv.no) (Iv.no) (fun _ => Iv.no) (fun _ _ _ _ _ => Iv.no) (Iv.no) (Iv.no) (fun _ _ => Iv.no) (fun _ _ => Iv.no)
  () (fun _ _ _ _ => ())
def asB : SV → Option Bool := @SV.rec (fun _ => Option Bool) (fun _ => Unit)
  (fun _ _ => Option.none) (fun _ _ => Option.none) Option.some (fun _ => Option.none) (Option.none) (fun _ _ => Option.none) (fun _ _ => Option.none) (Option.none) (fun _ _ _ _ => Option.none) (fun _ _ _ _ => Option.none) (Option.none) (Option.none) (fun _ => Option.none) (fun _ _ _ _ _ => Option.none) (Option.none) (Option.none) (fun _ _ => Option.none) (fun _ _ => Option.none)
  () (fun _ _ _ _ => ())
def evF : Operand → Tp → Option SV := @Operand.rec (fun _ => Tp → Option SV) (fun t T => getS T t) (fun v _ => ofV v) (fun g _ => some (.gptr g 0)) (fun f _ => some (.fn (.func f) [] []))
theorem evF_eq (x : Operand) (T : Tp) : evF x T = evO T x := by
  cases x <;> first
    | rfl
    | exact getS_eq _ _

section
variable (P : Program) (G : Nat → Option (List SV))
/-- operations that give a value of what is there -/
inductive Vm
  | mv (x : Operand)
  | pk (c a b : Operand)
  | ld (t : TypeId) (a : Operand)
  | nc (x : Operand)
  | bn (op : BinOp) (t : TypeId) (x y : Operand)
  | fa (x : Operand) (off : Nat)
  | ia (t : TypeId) (x i : Operand)
  | ex (x : Operand) (i : Nat)

def offO (s : TypeId) (f : Nat) : Option Nat := match P.underlying s with
  | some (.struct fs) => match lget fs.toList f with
    | some fd => match szO P fd.type with
      | some n => bif Nat.beq n 0 then none else some fd.offset
      | none => none
    | none => none
  | _ => none
theorem offO_ok {s : TypeId} {f off : Nat} (h : offO P s f = some off) (x : SV) : fieldAddrA P s x f = (match x with
    | .ptr id o => some (.ptr id (Nat.add o off))
    | .gptr g o => some (.gptr g (Nat.add o off))
    | _ => none) := by
  unfold offO at h
  unfold fieldAddrA
  split at h
  · rename_i fs hu
    split at h
    · rename_i fd hfd
      split at h
      · rename_i n hn
        cases hb : Nat.beq n 0
        · rw [hb] at h
          simp only [cond_false, Option.some.injEq] at h; subst h
          simp only [hu, hfd, hn, hb, cond_false]
          cases x <;> rfl
        · rw [hb] at h; cases h
      · cases h
    · cases h
  · cases h

/-- an operation, if it is one of these -/
def vmO : Op → Option Vm
  | .move x => some (.mv x)
  | .assign x => some (.mv x)
  | .pick c a b => some (.pk c a b)
  | .load t a => some (.ld t a)
  | .nilCheck x => some (.nc x)
  | .binOp op t x y _ => some (.bn op t x y)
  | .fieldAddr s x f => match offO P s f with
    | some off => some (.fa x off)
    | none => none
  | .extract x i => some (.ex x i)
  | _ => none
def comp (o : Oper) : Option (Nat × Vm) := match o with
  | ⟨some d, op, _, _, _, none⟩ => match vmO P op with
    | some v => some (d, v)
    | none => none
  | _ => none

abbrev Vf := Program → (Nat → Option (List SV)) → Tp → Hp → Option SV
def mvF : Operand → Vf := fun x _ _ T _ => evF x T
def pkF : Operand → Operand → Operand → Vf := fun c a b _ _ T _ => @Option.rec SV (fun _ => Option SV) none (fun v => @Option.rec Bool (fun _ => Option SV) none (fun t => @Bool.rec (fun _ => Option SV) (evF b T) (evF a T) t) (asB v)) (evF c T)
def partB : Program → TypeId → Nat → Blk → Option SV := fun P t off => @Blk.rec (fun _ => Option SV) (fun l => part P t l off) (fun _ _ => none) (fun _ _ => none) (fun _ _ _ _ => none) (fun l => part P t l off)
def partF : Program → TypeId → List SV → Nat → Option SV := fun P t l off => @Option.rec Bool (fun _ => Option SV) none (fun b => @Bool.rec (fun _ => Option SV) (lgetF l off) (part P t l off) b) (aggO P t)
theorem partF_eq (t : TypeId) (l : List SV) (off : Nat) : partF P t l off = part P t l off := by
  unfold partF
  cases h : aggO P t with
  | none => unfold part; rw [h]
  | some b =>
    cases b
    · unfold part; rw [h]; exact lgetF_eq _ _
    · rfl
def blkF : Program → TypeId → Nat → Blk → Option SV := fun P t off => @Blk.rec (fun _ => Option SV) (fun l => partF P t l off) (fun _ _ => none) (fun _ _ => none) (fun _ _ _ _ => none) (fun l => partF P t l off)
def ldF : TypeId → Operand → Vf := fun t a P G T h => @Option.rec SV (fun _ => Option SV) none (fun v => @Pv.rec (fun _ => Option SV) (fun id off => @Option.rec Blk (fun _ => Option SV) none (fun b => blkF P t off b) (getB h.t id)) (fun g off => @Option.rec (List SV) (fun _ => Option SV) none (fun l => partF P t l off) (G g)) none (asP v)) (evF a T)
def ncF : Operand → Vf := fun x _ _ T _ => @Option.rec SV (fun _ => Option SV) none (fun v => @Pv.rec (fun _ => Option SV) (fun _ _ => some v) (fun _ _ => some v) (nilCheckA v) (asP v)) (evF x T)
def faF : Operand → Nat → Vf := fun x off _ _ T _ => @Option.rec SV (fun _ => Option SV) none (fun v => @Pv.rec (fun _ => Option SV) (fun id o => some (.ptr id (Nat.add o off))) (fun g o => some (.gptr g (Nat.add o off))) none (asP v)) (evF x T)
def exF : Operand → Nat → Vf := fun x i _ _ T _ => match evO T x with
  | some (.tup l) => lget l i
  | _ => none
def iltF : Int → Int → Bool := @Int.rec (fun _ => Int → Bool) (fun n b => @Int.rec (fun _ => Bool) (fun m => Nat.blt n m) (fun _ => false) b) (fun n b => @Int.rec (fun _ => Bool) (fun _ => true) (fun m => Nat.blt m n) b)
theorem iltF_eq (a b : Int) : iltF a b = ilt a b := by cases a <;> cases b <;> rfl
def ieqF : Int → Int → Bool := @Int.rec (fun _ => Int → Bool) (fun n b => @Int.rec (fun _ => Bool) (fun m => Nat.beq n m) (fun _ => false) b) (fun n b => @Int.rec (fun _ => Bool) (fun _ => false) (fun m => Nat.beq n m) b)
theorem ieqF_eq (a b : Int) : ieqF a b = ieq a b := by cases a <;> cases b <;> rfl
def notF : Bool → Bool := @Bool.rec (fun _ => Bool) true false
abbrev Bf := IntKind → IntKind → Int → Int → Option SV
def sameK : Bf → Bf := fun f k k' a b => @Bool.rec (fun _ => Option SV) none (f k k' a b) (keq k k')
def bfQuo : Bf := fun k k' a b => binII .quo k k' a b
def bf_add : Bf := fun k k' a b => @Bool.rec (fun _ => Option SV) none (some (.int k (wrp k (a + b)))) (keq k k')
def bf_sub : Bf := fun k k' a b => @Bool.rec (fun _ => Option SV) none (some (.int k (wrp k (a - b)))) (keq k k')
def bf_mul : Bf := fun k k' a b => binII .mul k k' a b
def bf_quo : Bf := fun k k' a b => binII .quo k k' a b
def bf_rem : Bf := fun k k' a b => binII .rem k k' a b
def bf_and : Bf := fun k k' a b => binII .and k k' a b
def bf_or : Bf := fun k k' a b => binII .or k k' a b
def bf_xor : Bf := fun k k' a b => binII .xor k k' a b
def bf_shl : Bf := fun k k' a b => binII .shl k k' a b
def bf_shr : Bf := fun k k' a b => binII .shr k k' a b
def bf_andNot : Bf := fun k k' a b => binII .andNot k k' a b
def bf_eql : Bf := fun k k' a b => @Bool.rec (fun _ => Option SV) none (some (.bool (ieqF a b))) (keq k k')
def bf_neq : Bf := fun k k' a b => @Bool.rec (fun _ => Option SV) none (some (.bool (notF (ieqF a b)))) (keq k k')
def bf_lss : Bf := fun k k' a b => @Bool.rec (fun _ => Option SV) none (some (.bool (iltF a b))) (keq k k')
def bf_leq : Bf := fun k k' a b => @Bool.rec (fun _ => Option SV) none (some (.bool (notF (iltF b a)))) (keq k k')
def bf_gtr : Bf := fun k k' a b => @Bool.rec (fun _ => Option SV) none (some (.bool (iltF b a))) (keq k k')
def bf_geq : Bf := fun k k' a b => @Bool.rec (fun _ => Option SV) none (some (.bool (notF (iltF a b)))) (keq k k')
def bfF : BinOp → Bf := @BinOp.rec (fun _ => Bf) bf_add bf_sub bf_mul bf_quo bf_rem bf_and bf_or bf_xor bf_shl bf_shr bf_andNot bf_eql bf_neq bf_lss bf_leq bf_gtr bf_geq
theorem bfF_eq (op : BinOp) (k k' : IntKind) (a b : Int) : bfF op k k' a b = binII op k k' a b := by
  cases op <;> first
    | rfl
    | (show (@Bool.rec (fun _ => Option SV) none _ (keq k k')) = (bif keq k k' then _ else none)
       cases keq k k'
       · rfl
       · simp only [cond_true, binI, iltF_eq, ieqF_eq, ile, notF, Option.some.injEq, SV.bool.injEq]
         try (cases ieq a b <;> rfl)
         try (cases ilt a b <;> rfl)
         try (cases ilt b a <;> rfl))
def binO (P : Program) (op : BinOp) (t : TypeId) (x y : Operand) (a b : SV) : Option SV := match a with
  | .nili => (match b with
    | .nili => bif (isConst x || isConst y) && isIface P t then eqB op true else none
    | _ => none)
  | a => binA P op t a b
def bnF : BinOp → TypeId → Operand → Operand → Vf := fun op t x y P _ T _ => @Option.rec SV (fun _ => Option SV) none (fun a => @Option.rec SV (fun _ => Option SV) none
  (fun b => @Iv.rec (fun _ => Option SV) (fun k z => @Iv.rec (fun _ => Option SV) (fun k' z' => bfF op k k' z z') (binO P op t x y a b) (asI b)) (binO P op t x y a b) (asI a)) (evF y T)) (evF x T)
def iaF : TypeId → Operand → Operand → Vf := fun _ _ _ _ _ _ _ => none
def vmF : Vm → Vf := @Vm.rec (fun _ => Vf) mvF pkF ldF ncF bnF faF iaF exF

theorem vm_ok {op : Op} {v : Vm} (hv : vmO P op = some v) (T : Tp) (h : Hp) : opA P G T h op = vh h (vmF v P G T h) ∧ isEff op = false ∧ isNew op = false := by
  have ap : ∀ (v : SV) (p q : Nat → Nat → Option SV) (r : Option SV), @Pv.rec (fun _ => Option SV) p q r (asP v) = (match v with | .ptr id o => p id o | .gptr g o => q g o | _ => r) := by
    intro v p q r; cases v <;> rfl
  unfold vmO at hv
  split at hv
  · rename_i x; simp only [Option.some.injEq] at hv; subst hv
    exact ⟨congrArg (vh h) (evF_eq x T).symm, rfl, rfl⟩
  · rename_i x; simp only [Option.some.injEq] at hv; subst hv
    exact ⟨congrArg (vh h) (evF_eq x T).symm, rfl, rfl⟩
  · rename_i c a b; simp only [Option.some.injEq] at hv; subst hv
    refine ⟨?_, rfl, rfl⟩
    show oPick T h c a b = vh h (@Option.rec SV (fun _ => Option SV) none (fun v => @Option.rec Bool (fun _ => Option SV) none (fun t => @Bool.rec (fun _ => Option SV) (evF b T) (evF a T) t) (asB v)) (evF c T))
    unfold oPick
    rw [evF_eq c, evF_eq a, evF_eq b]
    cases hc : evO T c with
    | none => rfl
    | some q => cases q <;> first
      | rfl
      | (rename_i z; cases z <;> rfl)
  · rename_i t a; simp only [Option.some.injEq] at hv; subst hv
    refine ⟨?_, rfl, rfl⟩
    show oLoad P G T h t a = vh h (ldF t a P G T h)
    unfold oLoad ldF
    rw [evF_eq a]
    cases ha : evO T a with
    | none => rfl
    | some q =>
      show vh h (loadA P G h t q) = vh h (@Pv.rec (fun _ => Option SV) _ _ _ (asP q))
      rw [ap]
      congr 1
      unfold loadA cellsAt
      cases q <;> try rfl
      · rename_i id off
        simp only
        rw [getB_eq]
        cases hb : h.t.get id with
        | none => rfl
        | some b => cases b <;> first
          | rfl
          | exact (partF_eq P t _ _).symm
      · rename_i g off
        simp only
        cases hb : G g with
        | none => rfl
        | some l => exact (partF_eq P t _ _).symm
  · rename_i x; simp only [Option.some.injEq] at hv; subst hv
    refine ⟨?_, rfl, rfl⟩
    show oNil T h x = vh h (ncF x P G T h)
    unfold oNil ncF
    rw [evF_eq x]
    cases hx : evO T x with
    | none => rfl
    | some q =>
      show vh h (nilCheckA q) = vh h (@Pv.rec (fun _ => Option SV) _ _ _ (asP q))
      rw [ap]
      cases q <;> rfl
  · rename_i op t x y ty; simp only [Option.some.injEq] at hv; subst hv
    refine ⟨?_, rfl, rfl⟩
    show oBin P T h op t x y = vh h (bnF op t x y P G T h)
    unfold oBin bnF
    rw [evF_eq x, evF_eq y]
    cases hx : evO T x with
    | none => rfl
    | some a =>
      cases hy : evO T y with
      | none => rfl
      | some b =>
        show _ = vh h (@Iv.rec (fun _ => Option SV) (fun k z => @Iv.rec (fun _ => Option SV) (fun k' z' => bfF op k k' z z') (binO P op t x y a b) (asI b)) (binO P op t x y a b) (asI a))
        cases a <;> try rfl
        · cases b <;> first
            | rfl
            | exact congrArg (vh h) (bfF_eq _ _ _ _ _).symm
        · cases b <;> try rfl
          show (bif (isConst x || isConst y) && isIface P t then vh h (eqB op true) else Go1.no) = vh h (bif (isConst x || isConst y) && isIface P t then eqB op true else none)
          cases ((isConst x || isConst y) && isIface P t) <;> rfl
  · rename_i s x f
    split at hv
    · rename_i off ho
      simp only [Option.some.injEq] at hv; subst hv
      refine ⟨?_, rfl, rfl⟩
      show oFieldAddr P T h s x f = vh h (faF x off P G T h)
      unfold oFieldAddr faF
      rw [evF_eq x]
      cases hx : evO T x with
      | none => rfl
      | some q =>
        show vh h (fieldAddrA P s q f) = vh h (@Pv.rec (fun _ => Option SV) _ _ _ (asP q))
        rw [ap, offO_ok P ho]
    · cases hv
  · rename_i x i; simp only [Option.some.injEq] at hv; subst hv
    refine ⟨?_, rfl, rfl⟩
    show oExtract T h x i = vh h (match evO T x with | some (.tup l) => lget l i | _ => none)
    unfold oExtract
    cases hx : evO T x with
    | none => rfl
    | some q => cases q <;> rfl
  · cases hv

variable (hook : FuncId → Option (List SV → Hp → Option (SV × Hp)))
variable (ext : FuncId → Option (List SV → Option SV))
abbrev Gf := Program → (Nat → Option (List SV)) → Tp → Hp → Go1
/-- laying cells into a list -/
def lputF : List SV → Nat → List SV → Option (List SV) := @List.rec SV (fun _ => Nat → List SV → Option (List SV)) (fun n ys => lput [] n ys)
  (fun x l g n ys => @List.rec SV (fun _ => Option (List SV)) (some (x :: l)) (fun y ys' _ => @Bool.rec (fun _ => Option (List SV)) (@Option.rec (List SV) (fun _ => Option (List SV)) none (fun r => some (x :: r)) (g (Nat.sub n 1) (y :: ys'))) (@Option.rec (List SV) (fun _ => Option (List SV)) none (fun r => some (y :: r)) (g 0 ys')) (Nat.beq n 0)) ys)
theorem lputF_eq : ∀ (l : List SV) (n : Nat) (ys : List SV), lputF l n ys = lput l n ys
  | [], n, ys => rfl
  | x :: l, n, [] => rfl
  | x :: l, 0, y :: ys => by
    show (@Option.rec (List SV) (fun _ => Option (List SV)) none (fun r => some (y :: r)) (lputF l 0 ys)) = (@Option.rec (List SV) (fun _ => Option (List SV)) none (fun r => some (y :: r)) (lput l 0 ys))
    rw [lputF_eq l 0 ys]
  | x :: l, n + 1, y :: ys => by
    show (@Option.rec (List SV) (fun _ => Option (List SV)) none (fun r => some (x :: r)) (lputF l n (y :: ys))) = (@Option.rec (List SV) (fun _ => Option (List SV)) none (fun r => some (x :: r)) (lput l n (y :: ys)))
    rw [lputF_eq l n (y :: ys)]
def stoF (P : Program) (h : Hp) (t : TypeId) (id off : Nat) (v : SV) : Option Hp :=
  @Option.rec Blk (fun _ => Option Hp) none (fun b => @Blk.rec (fun _ => Option Hp)
    (fun l => @Option.rec Nat (fun _ => Option Hp) none (fun n => @Option.rec (List SV) (fun _ => Option Hp) none (fun cs => @Bool.rec (fun _ => Option Hp) none (@Option.rec (List SV) (fun _ => Option Hp) none (fun l' => some ⟨stB h.t id (some (.cells l')), h.n⟩) (lputF l off cs)) (Nat.beq cs.length n)) (cellsOf v)) (szO P t))
    (fun _ _ => none) (fun _ _ => none) (fun _ _ _ _ => none) (fun _ => none) b) (getB h.t id)
theorem stoF_eq (P : Program) (h : Hp) (t : TypeId) (id off : Nat) (v : SV) : stoF P h t id off v = storeA P h t (.ptr id off) v := by
  unfold stoF storeA
  rw [getB_eq]
  simp only
  cases h.t.get id with
  | none => rfl
  | some b => cases b <;> try rfl
              rename_i l
              show (@Option.rec Nat (fun _ => Option Hp) none _ (szO P t)) = _
              cases szO P t with
              | none => rfl
              | some n =>
                show (@Option.rec (List SV) (fun _ => Option Hp) none _ (cellsOf v)) = _
                cases cellsOf v with
                | none => rfl
                | some cs =>
                  show (@Bool.rec (fun _ => Option Hp) none (@Option.rec (List SV) (fun _ => Option Hp) none (fun l' => some ⟨stB h.t id (some (.cells l')), h.n⟩) (lputF l off cs)) (Nat.beq cs.length n)) = _
                  simp only
                  rw [lputF_eq]
                  cases Nat.beq cs.length n
                  · rfl
                  · simp only [cond_true]
                    cases lput l off cs with
                    | none => rfl
                    | some l' =>
                      show some (⟨stB h.t id (some (.cells l')), h.n⟩ : Hp) = _
                      rw [stB_eq]; rfl
def oStoreF (P : Program) (T : Tp) (h : Hp) (t : TypeId) (a x : Operand) : Go1 :=
  @Option.rec SV (fun _ => Go1) .no (fun a => @Option.rec SV (fun _ => Go1) .no (fun v => @Pv.rec (fun _ => Go1) (fun id off => @Option.rec Hp (fun _ => Go1) .no (fun h => .sk h) (stoF P h t id off v)) (fun _ _ => .no) .no (asP a)) (evF x T)) (evF a T)
theorem oStoreF_eq (P : Program) (T : Tp) (h : Hp) (t : TypeId) (a x : Operand) : oStoreF P T h t a x = oStore P T h t a x := by
  unfold oStoreF oStore
  rw [evF_eq, evF_eq]
  cases evO T a with
  | none => rfl
  | some a =>
    cases evO T x with
    | none => rfl
    | some v =>
      show (@Pv.rec (fun _ => Go1) (fun id off => @Option.rec Hp (fun _ => Go1) .no (fun h => .sk h) (stoF P h t id off v)) (fun _ _ => .no) .no (asP a)) = uh (storeA P h t a v)
      cases a <;> try rfl
      rename_i id off
      show (@Option.rec Hp (fun _ => Go1) .no (fun h => .sk h) (stoF P h t id off v)) = _
      rw [stoF_eq]
      cases storeA P h t (.ptr id off) v <;> rfl
def opG : Op → Gf := @Op.rec (fun _ => Gf)
  (fun a P G T h => vh h (evO T a))
  (fun a P G T h => vh h (evO T a))
  (fun a b c P G T h => oPick T h a b c)
  (fun a P G T h => oAlloc P h a)
  (fun a b P G T h => oBox T h b)
  (fun a b P G T h => oBuild P T h a b.toList)
  (fun a b c P G T h => oRow P T h a b c.toList)
  (fun a b c d P G T h => oUpdate P T h a b c d)
  (fun a b P G T h => oLoad P G T h a b)
  (fun a b c P G T h => oStoreF P T h a b c)
  (fun a P G T h => Go1.no)
  (fun a P G T h => Go1.no)
  (fun a P G T h => oNil T h a)
  (fun a b c d e P G T h => oBin P T h a b c d)
  (fun a b c P G T h => oUn T h a c)
  (fun a b c P G T h => oConv P T h a b c)
  (fun a b P G T h => Go1.no)
  (fun a b P G T h => Go1.no)
  (fun a b c P G T h => oFunc T h a b.toList c.toList)
  (fun a b P G T h => oMap P T h a b)
  (fun a b P G T h => Go1.no)
  (fun a b c P G T h => oMake P T h a b c)
  (fun a b c d e P G T h => oSlice P T h a b c d e)
  (fun a b c P G T h => oFieldAddr P T h a b c)
  (fun a b c P G T h => oField P T h a b c)
  (fun a b c P G T h => oIndexAddr P T h a b c)
  (fun a b c P G T h => oIndex P T h a b c)
  (fun a b c d P G T h => oLookup P T h a b c d)
  (fun a b c d P G T h => oUpdate P T h a b c d)
  (fun a b c P G T h => Go1.no)
  (fun a b c d P G T h => Go1.no)
  (fun a b P G T h => oRange P T h a b)
  (fun a b P G T h => oNext T h a b)
  (fun a P G T h => oEntry T h a)
  (fun a b c d P G T h => Go1.no)
  (fun a b P G T h => oExtract T h a b)
  (fun a P G T h => oCall P T h a)
  (fun a P G T h => Go1.no)
  (fun a P G T h => Go1.no)
  (fun a P G T h => Go1.no)
  (fun a b P G T h => Go1.no)
  (fun a b c P G T h => Go1.no)
  (fun a b P G T h => Go1.no)
theorem opG_eq (op : Op) (T : Tp) (h : Hp) : opG op P G T h = opA P G T h op := by
  cases op <;> first
    | rfl
    | exact oStoreF_eq _ _ _ _ _ _
def putF : Tp → Option Tmp → SV → Tp := fun T dst v => @Option.rec Tmp (fun _ => Tp) T (fun d => stS T d (some v)) dst
theorem putF_eq (T : Tp) (dst : Option Tmp) (v : SV) : putF T dst v = putT T dst v := by
  cases dst with
  | none => rfl
  | some d => exact stS_eq T d (some v)
def lgetG : List Func → Nat → Option Func := @List.rec Func (fun _ => Nat → Option Func) (fun _ => none) (fun x _ g n => @Bool.rec (fun _ => Option Func) (g (Nat.sub n 1)) (some x) (Nat.beq n 0))
theorem lgetG_eq : ∀ (l : List Func) (n : Nat), lgetG l n = l[n]?
  | [], n => by simp [lgetG]
  | x :: l, 0 => rfl
  | x :: l, n + 1 => by
    rw [List.getElem?_cons_succ]
    exact lgetG_eq l n
/-- a function's code and its results -/
def fnF (P : Program) (f : Nat) : Option (Code × List ResultVar) := @Option.rec Func (fun _ => Option (Code × List ResultVar)) none (fun fn => @Option.rec Code (fun _ => Option (Code × List ResultVar)) none (fun c => @Bool.rec (fun _ => Option (Code × List ResultVar)) none (some (c, fn.results.toList)) (fitsC fn.ntmps c)) fn.body) (lgetG P.funcs.toList f)
def argF : List SV → Nat → Tp → Tp := @List.rec SV (fun _ => Nat → Tp → Tp) (fun _ T => T) (fun v _ g i T => g (Nat.add i 1) (stS T i (some v)))
theorem argF_eq : ∀ (l : List SV) (i : Nat) (T : Tp), argF l i T = args0 l i T
  | [], i, T => rfl
  | v :: l, i, T => by
    show argF l (i + 1) (stS T i (some v)) = args0 l (Nat.succ i) (T.set i (some v))
    rw [argF_eq l, stS_eq]
/-- what is told, where a body has ended -/
def endF (P : Program) (G : Nat → Option (List SV)) (rs : List ResultVar) : Out → Option (SV × Hp) := @Out.rec (fun _ => Option (SV × Hp)) (fun T h => @Option.rec (List SV) (fun _ => Option (SV × Hp)) none (fun l => some (one l, h)) (resSs P G T h rs)) (fun _ _ _ => none) (fun T h => @Option.rec (List SV) (fun _ => Option (SV × Hp)) none (fun l => some (one l, h)) (resSs P G T h rs))
def callF (rec : Code → Tp → Hp → Option Out) (f : FuncId) (args : List SV) (h : Hp) : Option (SV × Hp) :=
  @Option.rec (List SV → Hp → Option (SV × Hp)) (fun _ => Option (SV × Hp))
    (@Option.rec (List SV → Option SV) (fun _ => Option (SV × Hp))
      (@Option.rec (Code × List ResultVar) (fun _ => Option (SV × Hp)) none (fun q => @Option.rec Out (fun _ => Option (SV × Hp)) none (endF P G q.2) (rec q.1 (argF args 0 .nil) h)) (fnF P f))
      (fun k => @Option.rec SV (fun _ => Option (SV × Hp)) none (fun v => some (v, h)) (k args)) (ext f))
    (fun k => k args h) (hook f)
theorem callF_eq (rec : Code → Tp → Hp → Option Out) (f : FuncId) (args : List SV) (h : Hp) : callF P G hook ext rec f args h = callA P G hook ext rec f args h := by
  unfold callF callA
  cases hook f with
  | some k => rfl
  | none =>
    simp only
    cases ext f with
    | some k =>
      show (@Option.rec SV (fun _ => Option (SV × Hp)) none (fun v => some (v, h)) (k args)) = (match k args with | some v => some (v, h) | none => none)
      cases k args <;> rfl
    | none =>
      simp only
      have e : lgetG P.funcs.toList f = P.funcs[f]? := by rw [lgetG_eq]; simp
      unfold fnF
      rw [e]
      cases P.funcs[f]? with
      | none => rfl
      | some fn =>
        simp only
        cases hb : fn.body with
        | none => rfl
        | some c =>
          simp only
          cases fitsC fn.ntmps c
          · rfl
          · simp only [cond_true]
            show (@Option.rec Out (fun _ => Option (SV × Hp)) none (endF P G fn.results.toList) (rec c (argF args 0 .nil) h)) = _
            rw [argF_eq]
            cases rec c (args0 args 0 .nil) h with
            | none => rfl
            | some r =>
              cases r with
              | norm T h =>
                show (@Option.rec (List SV) (fun _ => Option (SV × Hp)) none (fun l => some (one l, h)) (resSs P G T h fn.results.toList)) = _
                simp only
                cases resSs P G T h fn.results.toList <;> rfl
              | exit id T h => rfl
              | ret T h =>
                show (@Option.rec (List SV) (fun _ => Option (SV × Hp)) none (fun l => some (one l, h)) (resSs P G T h fn.results.toList)) = _
                simp only
                cases resSs P G T h fn.results.toList <;> rfl
def goG (rec : Code → Tp → Hp → Option Out) (k : Tp → Hp → Option Out) (T : Tp) (h : Hp) (dst : Option Tmp) (r : Go1) : Option Out :=
  @Go1.rec (fun _ => Option Out) none (fun v h => k (putF T dst v) h) (fun h => k (putF T dst (.tup [])) h) (fun f args => @Option.rec (SV × Hp) (fun _ => Option Out) none (fun q => k (putF T dst q.1) q.2) (callF P G hook ext rec f args h)) r
theorem goG_eq (rec : Code → Tp → Hp → Option Out) (k : Tp → Hp → Option Out) (T : Tp) (h : Hp) (dst : Option Tmp) (r : Go1) : goG P G hook ext rec k T h dst r = goOn P G hook ext rec k T h dst r := by
  cases r with
  | no => rfl
  | val v h => exact congrArg (fun T => k T h) (putF_eq T dst v)
  | sk h => exact congrArg (fun T => k T h) (putF_eq T dst (.tup []))
  | call f args =>
    show (@Option.rec (SV × Hp) (fun _ => Option Out) none (fun q => k (putF T dst q.1) q.2) (callF P G hook ext rec f args h)) = _
    rw [callF_eq]
    unfold goOn
    simp only
    cases callA P G hook ext rec f args h with
    | none => rfl
    | some q => exact congrArg (fun T => k T q.2) (putF_eq T dst q.1)
/-- an operation that is none of these -/
def oneG (rec : Code → Tp → Hp → Option Out) (ops : List Oper) (o : Oper) (k : Tp → Hp → Option Out) (T : Tp) (h : Hp) : Option Out :=
  @Option.rec Bool (fun _ => Option Out) none (fun b => @Bool.rec (fun _ => Option Out) (k (putF T o.dst (.tup [])) h) (goG P G hook ext rec k T h o.dst (opG o.op P G T h)) b) (wantS ops T o.guard)
theorem oneG_eq (rec : Code → Tp → Hp → Option Out) (ops : List Oper) (o : Oper) (k : Tp → Hp → Option Out) (T : Tp) (h : Hp) : oneG P G hook ext rec ops o k T h = oneA P G hook ext rec ops o k T h := by
  obtain ⟨dst, op, ty, pos, af, g⟩ := o
  unfold oneG oneA
  simp only
  cases wantS ops T g with
  | none => rfl
  | some b => cases b
              · exact congrArg (fun T => k T h) (putF_eq T dst (.tup []))
              · show goG P G hook ext rec k T h dst (opG op P G T h) = _
                rw [goG_eq, opG_eq]
def oneF (rec : Code → Tp → Hp → Option Out) (ops : List Oper) (o : Oper) (k : Tp → Hp → Option Out) (T : Tp) (h : Hp) : Option Out :=
  @Option.rec (Nat × Vm) (fun _ => Option Out) (oneG P G hook ext rec ops o k T h) (fun dv => @Option.rec SV (fun _ => Option Out) none (fun v => k (stS T dv.1 (some v)) h) (vmF dv.2 P G T h)) (comp P o)
theorem oneF_eq (rec : Code → Tp → Hp → Option Out) (ops : List Oper) (o : Oper) (k : Tp → Hp → Option Out) (T : Tp) (h : Hp) : oneF P G hook ext rec ops o k T h = oneA P G hook ext rec ops o k T h := by
  unfold oneF
  cases hc : comp P o with
  | none => exact oneG_eq P G hook ext rec ops o k T h
  | some dv =>
    unfold comp at hc
    split at hc
    · rename_i d op ty pos af
      split at hc
      · rename_i v hv
        simp only [Option.some.injEq] at hc; subst hc
        show (@Option.rec SV (fun _ => Option Out) none (fun u => k (stS T d (some u)) h) (vmF v P G T h)) = goOn P G hook ext rec k T h (some d) (opA P G T h op)
        rw [(vm_ok P G hv T h).1]
        cases vmF v P G T h with
        | none => rfl
        | some u => exact congrArg (fun T => k T h) (stS_eq T d (some u))
      · cases hc
    · cases hc
def opsF (rec : Code → Tp → Hp → Option Out) (ops : List Oper) (l : List Oper) : Tp → Hp → Option Out :=
  @List.rec Oper (fun _ => Tp → Hp → Option Out) (fun T h => some (.norm T h)) (fun o _ k => oneF P G hook ext rec ops o k) l
theorem opsF_eq (rec : Code → Tp → Hp → Option Out) (ops : List Oper) : ∀ (l : List Oper), opsF P G hook ext rec ops l = opsA P G hook ext rec ops l
  | [] => rfl
  | o :: l => by
    funext T h
    show oneF P G hook ext rec ops o (opsF P G hook ext rec ops l) T h = oneA P G hook ext rec ops o (opsA P G hook ext rec ops l) T h
    rw [oneF_eq, opsF_eq rec ops l]

/-! Sets of places as numbers. -/
def and2 (a b : Bool) : Bool := @Bool.rec (fun _ => Bool) false b a
def or2 (a b : Bool) : Bool := @Bool.rec (fun _ => Bool) b true a
theorem and2_eq (a b : Bool) : and2 a b = (a && b) := by cases a <;> rfl
theorem or2_eq (a b : Bool) : or2 a b = (a || b) := by cases a <;> rfl
def bitF (m j : Nat) : Bool := Nat.beq (Nat.land (Nat.shiftRight m j) 1) 1
theorem bitF_eq (m j : Nat) : bitF m j = m.testBit j := by
  unfold bitF
  rw [show Nat.land (Nat.shiftRight m j) 1 = (m >>> j) &&& 1 from rfl, Nat.and_one_is_mod, Nat.testBit_eq_decide_div_mod_eq, Nat.shiftRight_eq_div_pow]
  cases h : Nat.beq (m / 2 ^ j % 2) 1
  · have := Nat.ne_of_beq_eq_false h; simp [this]
  · have := Nat.eq_of_beq_eq_true h; simp [this]
def memF : List Nat → Nat → Bool := @List.rec Nat (fun _ => Nat → Bool) (fun _ => false) (fun m _ g n => @Bool.rec (fun _ => Bool) (g n) true (Nat.beq n m))
theorem memF_eq : ∀ (l : List Nat) (n : Nat), memF l n = memN n l
  | [], n => rfl
  | m :: l, n => by
    show (@Bool.rec (fun _ => Bool) (memF l n) true (Nat.beq n m)) = (bif Nat.beq n m then true else memN n l)
    rw [memF_eq l n]
    cases Nat.beq n m <;> rfl
def RM (m : Nat) (b : List Nat) : Prop := ∀ j, bitF m j = memN j b
def RL : List Nat → List (List Nat) → Prop
  | [], [] => True
  | m :: ms, b :: bs => RM m b ∧ RL ms bs
  | _, _ => False
theorem RL.snoc : ∀ {ms : List Nat} {bs : List (List Nat)} {m : Nat} {b : List Nat}, RL ms bs → RM m b → RL (ms ++ [m]) (bs ++ [b])
  | [], [], m, b, _, h => ⟨h, trivial⟩
  | _ :: _, _ :: _, m, b, h, k => ⟨h.1, RL.snoc h.2 k⟩
  | [], _ :: _, _, _, h, _ => h.elim
  | _ :: _, [], _, _, h, _ => h.elim
theorem RL.get : ∀ {ms : List Nat} {bs : List (List Nat)}, RL ms bs → ∀ i, (lget ms i = none ∧ lget bs i = none) ∨ ∃ m b, lget ms i = some m ∧ lget bs i = some b ∧ RM m b
  | [], [], _, i => .inl ⟨rfl, rfl⟩
  | m :: _, b :: _, h, 0 => .inr ⟨m, b, rfl, rfl, h.1⟩
  | m :: _, b :: _, h, i + 1 => RL.get h.2 i
  | [], _ :: _, h, _ => h.elim
  | _ :: _, [], h, _ => h.elim
def lgetN : List Nat → Nat → Option Nat := @List.rec Nat (fun _ => Nat → Option Nat) (fun _ => none) (fun x _ g n => @Bool.rec (fun _ => Option Nat) (g (Nat.sub n 1)) (some x) (Nat.beq n 0))
theorem lgetN_eq : ∀ (l : List Nat) (n : Nat), lgetN l n = lget l n
  | [], n => rfl
  | x :: l, 0 => rfl
  | x :: l, n + 1 => lgetN_eq l n
theorem memN_union : ∀ (l m : List Nat) (j : Nat), memN j (unionN l m) = (memN j l || memN j m)
  | [], m, j => rfl
  | x :: l, m, j => by
    unfold unionN
    have ih := memN_union l m j
    have e : memN j (x :: l) = (bif Nat.beq j x then true else memN j l) := rfl
    rw [e]
    cases hx : memN x m
    · simp only [cond_false]
      show (bif Nat.beq j x then true else memN j (unionN l m)) = _
      rw [ih]
      cases Nat.beq j x <;> simp
    · simp only [cond_true]
      rw [ih]
      cases hj : Nat.beq j x
      · rfl
      · have := Nat.eq_of_beq_eq_true hj; subst this
        simp [hx]
def aheadM (ms : List Nat) : List Nat → Nat := @List.rec Nat (fun _ => Nat) 0 (fun d _ r => Nat.lor (Nat.lor (Nat.shiftLeft 1 d) (@Option.rec Nat (fun _ => Nat) 0 (fun m => m) (lgetN ms d))) r)
theorem aheadM_ok {ms : List Nat} {bs : List (List Nat)} (h : RL ms bs) : ∀ (l : List Nat), RM (aheadM ms l) (aheadOf bs l)
  | [], j => by rw [bitF_eq]; simp [aheadM, aheadOf, memN]
  | d :: l, j => by
    have ih := aheadM_ok h l j
    unfold aheadOf
    rw [memN_union, ← ih]
    show bitF (Nat.lor (Nat.lor (Nat.shiftLeft 1 d) (@Option.rec Nat (fun _ => Nat) 0 (fun m => m) (lgetN ms d))) (aheadM ms l)) j = _
    rw [bitF_eq, bitF_eq]
    rw [show ∀ a b, Nat.lor a b = a ||| b from fun _ _ => rfl, show ∀ a b, Nat.lor a b = a ||| b from fun _ _ => rfl, Nat.testBit_or, Nat.testBit_or]
    congr 1
    have e1 : (Nat.shiftLeft 1 d).testBit j = Nat.beq j d := by
      rw [show Nat.shiftLeft 1 d = 1 <<< d from rfl, Nat.one_shiftLeft, Nat.testBit_two_pow]
      cases hj : Nat.beq j d
      · have := Nat.ne_of_beq_eq_false hj; simp; omega
      · have := Nat.eq_of_beq_eq_true hj; simp [this]
    rw [e1, lgetN_eq]
    rcases h.get d with ⟨h1, h2⟩ | ⟨m, b, h1, h2, h3⟩
    · rw [h1, h2]
      show (Nat.beq j d || Nat.testBit 0 j) = (bif Nat.beq j d then true else false)
      cases Nat.beq j d <;> simp
    · rw [h1, h2]
      show (Nat.beq j d || Nat.testBit m j) = (bif Nat.beq j d then true else memN j b)
      rw [← h3 j, bitF_eq]
      cases Nat.beq j d <;> simp
def aheadsM : List Oper → List Nat → List Nat := @List.rec Oper (fun _ => List Nat → List Nat) (fun ms => ms) (fun o _ g ms => g (ms ++ [aheadM ms (direct o)]))
theorem aheadsM_ok : ∀ (l : List Oper) {ms : List Nat} {bs : List (List Nat)}, RL ms bs → RL (aheadsM l ms) (aheads l bs)
  | [], _, _, h => h
  | o :: l, _, _, h => aheadsM_ok l (h.snoc (aheadM_ok h (direct o)))

def chainM (ms : List Nat) : List Nat → Bool := @List.rec Nat (fun _ => Bool) true (fun e es r => @List.rec Nat (fun _ => Bool) true (fun f _ _ => and2 (@Option.rec Nat (fun _ => Bool) false (fun m => bitF m e) (lgetN ms f)) r) es)
theorem chainM_eq {ms : List Nat} {bs : List (List Nat)} (h : RL ms bs) : ∀ (l : List Nat), chainM ms l = chainOk bs l
  | [] => rfl
  | [_] => rfl
  | e :: f :: l => by
    show and2 (@Option.rec Nat (fun _ => Bool) false (fun m => bitF m e) (lgetN ms f)) (chainM ms (f :: l)) = ((match lget bs f with | some b => memN e b | none => false) && chainOk bs (f :: l))
    rw [and2_eq, chainM_eq h (f :: l), lgetN_eq]
    congr 1
    rcases h.get f with ⟨h1, h2⟩ | ⟨m, b, h1, h2, h3⟩
    · rw [h1, h2]
    · rw [h1, h2]; exact h3 e
def ssaM : List Oper → List Nat → Bool → Nat → Nat → List Nat → Nat → Bool := @List.rec Oper (fun _ => List Nat → Bool → Nat → Nat → List Nat → Nat → Bool) (fun _ _ _ _ _ _ => true)
  (fun p _ g ms strict i m ls j => and2 (@Option.rec Nat (fun _ => Bool) true (fun d => @Bool.rec (fun _ => Bool) true (or2 (bitF m j) (and2 (notF strict) (@Option.rec Nat (fun _ => Bool) false (fun c => bitF c i) (lgetN ms j)))) (memF ls d)) p.dst) (g ms strict i m ls (Nat.add j 1)))
theorem ssaM_eq {ms : List Nat} {bs : List (List Nat)} (h : RL ms bs) (strict : Bool) (i : Nat) {m : Nat} {b : List Nat} (hm : RM m b) (ls : List Nat) : ∀ (l : List Oper) (j : Nat), ssaM l ms strict i m ls j = ssaAt bs strict i b ls l j
  | [], j => rfl
  | p :: l, j => by
    show and2 (@Option.rec Nat (fun _ => Bool) true (fun d => @Bool.rec (fun _ => Bool) true (or2 (bitF m j) (and2 (notF strict) (@Option.rec Nat (fun _ => Bool) false (fun c => bitF c i) (lgetN ms j)))) (memF ls d)) p.dst) (ssaM l ms strict i m ls (Nat.add j 1)) = _
    unfold ssaAt
    rw [and2_eq, ssaM_eq h strict i hm ls l]
    congr 1
    cases p.dst with
    | none => rfl
    | some d =>
      show (@Bool.rec (fun _ => Bool) true (or2 (bitF m j) (and2 (notF strict) (@Option.rec Nat (fun _ => Bool) false (fun c => bitF c i) (lgetN ms j)))) (memF ls d)) = (bif memN d ls then (memN j b || (!strict && (match lget bs j with | some c => memN i c | none => false))) else true)
      rw [memF_eq, or2_eq, and2_eq, hm j, lgetN_eq]
      have e : notF strict = !strict := by cases strict <;> rfl
      rw [e]
      have e2 : (@Option.rec Nat (fun _ => Bool) false (fun c => bitF c i) (lget ms j)) = (match lget bs j with | some c => memN i c | none => false) := by
        rcases h.get j with ⟨h1, h2⟩ | ⟨m, b, h1, h2, h3⟩
        · rw [h1, h2]
        · rw [h1, h2]; exact h3 i
      rw [e2]
      cases memN d ls <;> rfl
def allSsaM (ops : List Oper) (ms : List Nat) : List Oper → Nat → Bool := @List.rec Oper (fun _ => Nat → Bool) (fun _ => true)
  (fun o _ g i => and2 (and2 (@Option.rec Nat (fun _ => Bool) false (fun m => ssaM ops ms (isRead o.op && !isEff o.op) i m (looks ops o) 0) (lgetN ms i)) (notF (isRange o.op))) (g (Nat.add i 1)))
theorem allSsaM_eq (ops : List Oper) {ms : List Nat} {bs : List (List Nat)} (h : RL ms bs) : ∀ (l : List Oper) (i : Nat), allSsaM ops ms l i = allSsa ops bs l i
  | [], i => rfl
  | o :: l, i => by
    show and2 (and2 (@Option.rec Nat (fun _ => Bool) false (fun m => ssaM ops ms (isRead o.op && !isEff o.op) i m (looks ops o) 0) (lgetN ms i)) (notF (isRange o.op))) (allSsaM ops ms l (Nat.add i 1)) = _
    unfold allSsa
    rw [and2_eq, and2_eq, allSsaM_eq ops h l, lgetN_eq]
    have e : notF (isRange o.op) = !isRange o.op := by cases isRange o.op <;> rfl
    rw [e]
    congr 2
    rcases h.get i with ⟨h1, h2⟩ | ⟨m, b, h1, h2, h3⟩
    · rw [h1, h2]
    · rw [h1, h2]; exact ssaM_eq h _ i h3 _ ops 0
def distinctF : List Nat → Bool := @List.rec Nat (fun _ => Bool) true (fun x l r => and2 (notF (memF l x)) r)
theorem distinctF_eq : ∀ (l : List Nat), distinctF l = distinctN l
  | [] => rfl
  | x :: l => by
    show and2 (notF (memF l x)) (distinctF l) = (!memN x l && distinctN l)
    rw [and2_eq, memF_eq, distinctF_eq l]
    cases memN x l <;> rfl
def msOf (ops : List Oper) : List Nat := aheadsM ops []
theorem msOf_ok (ops : List Oper) : RL (msOf ops) (planOf ops).bs := aheadsM_ok ops (ms := []) (bs := []) trivial
def planM (ops : List Oper) : Bool := and2 (backOk ops 0) (and2 (chainM (msOf ops) (effsOf ops 0)) (and2 (distinctF (dstsOf ops)) (allSsaM ops (msOf ops) ops 0)))
theorem planM_eq (ops : List Oper) : planM ops = planOk ops (planOf ops) := by
  unfold planM planOk
  rw [and2_eq, and2_eq, and2_eq, chainM_eq (msOf_ok ops), distinctF_eq, allSsaM_eq ops (msOf_ok ops)]
  show (_ && (chainOk (planOf ops).bs (effsOf ops 0) && _)) = (_ && chainOk (planOf ops).bs (effsOf ops 0) && _ && _)
  simp only [Bool.and_assoc]
def countM (m : Nat) : List Nat → Nat := @List.rec Nat (fun _ => Nat) 0 (fun e _ r => @Bool.rec (fun _ => Nat) r (Nat.add r 1) (bitF m e))
theorem countM_eq {m : Nat} {b : List Nat} (h : RM m b) : ∀ (l : List Nat), countM m l = countIn b l
  | [] => rfl
  | e :: l => by
    show (@Bool.rec (fun _ => Nat) (countM m l) (Nat.add (countM m l) 1) (bitF m e)) = (bif memN e b then Nat.succ (countIn b l) else countIn b l)
    rw [countM_eq h l, h e]
    cases memN e b <;> rfl
def loM (effs : List Nat) : List Nat → List Nat := @List.rec Nat (fun _ => List Nat) [] (fun m _ r => countM m effs :: r)
theorem loM_eq (effs : List Nat) : ∀ {ms : List Nat} {bs : List (List Nat)}, RL ms bs → loM effs ms = bs.map fun b => countIn b effs
  | [], [], _ => rfl
  | m :: ms, b :: bs, h => by
    show countM m effs :: loM effs ms = _
    rw [countM_eq h.1, loM_eq effs h.2]; rfl
  | [], _ :: _, h => h.elim
  | _ :: _, [], h => h.elim
def hiM1 (ms : List Nat) (i : Nat) : List Nat → Nat := @List.rec Nat (fun _ => Nat) 0 (fun e _ r => @Option.rec Nat (fun _ => Nat) 0 (fun m => @Bool.rec (fun _ => Nat) (Nat.add r 1) 0 (bitF m i)) (lgetN ms e))
theorem hiM1_eq {ms : List Nat} {bs : List (List Nat)} (h : RL ms bs) (i : Nat) : ∀ (l : List Nat), hiM1 ms i l = hiOf bs i l
  | [] => rfl
  | e :: l => by
    show (@Option.rec Nat (fun _ => Nat) 0 (fun m => @Bool.rec (fun _ => Nat) (Nat.add (hiM1 ms i l) 1) 0 (bitF m i)) (lgetN ms e)) = _
    unfold hiOf
    rw [lgetN_eq, hiM1_eq h i l]
    rcases h.get e with ⟨h1, h2⟩ | ⟨m, b, h1, h2, h3⟩
    · rw [h1, h2]
    · rw [h1, h2]
      show (@Bool.rec (fun _ => Nat) (Nat.add (hiOf bs i l) 1) 0 (bitF m i)) = (bif memN i b then 0 else Nat.succ (hiOf bs i l))
      rw [h3 i]
      cases memN i b <;> rfl
def hiM (ms effs : List Nat) : List Oper → Nat → List Nat := @List.rec Oper (fun _ => Nat → List Nat) (fun _ => []) (fun _ _ g i => hiM1 ms i effs :: g (Nat.add i 1))
theorem hiM_eq {ms : List Nat} {bs : List (List Nat)} (h : RL ms bs) (effs : List Nat) : ∀ (l : List Oper) (i : Nat), hiM ms effs l i = (upto l.length i).map fun i => hiOf bs i effs
  | [], i => rfl
  | o :: l, i => by
    show hiM1 ms i effs :: hiM ms effs l (Nat.add i 1) = _
    rw [hiM1_eq h, hiM_eq h effs l]
    rfl

def absM (m : Nat) : Pend → Hp → Pend × Hp := @List.rec (Nat × Nat × Blk) (fun _ => Hp → Pend × Hp) (fun h => ([], h))
  (fun e _ g h => @Prod.rec Pend Hp (fun _ => Pend × Hp) (fun l' h' => @Bool.rec (fun _ => Pend × Hp) (e :: l', h') (l', ⟨stB h'.t e.2.1 (some e.2.2), h'.n⟩) (bitF m e.1)) (g h))
theorem absM_eq {m : Nat} {b : List Nat} (hm : RM m b) : ∀ (l : Pend) (h : Hp), absM m l h = absorb b l h
  | [], h => rfl
  | (i, id, bk) :: l, h => by
    show (@Prod.rec Pend Hp (fun _ => Pend × Hp) (fun l' h' => @Bool.rec (fun _ => Pend × Hp) ((i, id, bk) :: l', h') (l', ⟨stB h'.t id (some bk), h'.n⟩) (bitF m i)) (absM m l h)) = _
    unfold absorb
    rw [absM_eq hm l h, hm i]
    obtain ⟨l', h'⟩ := absorb b l h
    show (@Bool.rec (fun _ => Pend × Hp) ((i, id, bk) :: l', h') (l', ⟨stB h'.t id (some bk), h'.n⟩) (memN i b)) = (bif memN i b then (l', h'.put id bk) else ((i, id, bk) :: l', h'))
    cases memN i b
    · rfl
    · show (l', (⟨stB h'.t id (some bk), h'.n⟩ : Hp)) = (l', h'.put id bk)
      rw [stB_eq]; rfl
def effG (rec : Code → Tp → Hp → Option Out) (r : Go1) : Option (SV × Hp) :=
  @Go1.rec (fun _ => Option (SV × Hp)) none (fun v h => some (v, h)) (fun h => some (.tup [], h)) (fun f args => none) r
def effF (rec : Code → Tp → Hp → Option Out) (o : Oper) (i : Nat) (s : Rs) (pd : Pend) (h : Hp) : Option Rs :=
  @Go1.rec (fun _ => Option Rs) none (fun v h' => some ⟨putF s.T o.dst v, h', h' :: s.cores, pd, s.id⟩) (fun h' => some ⟨putF s.T o.dst (.tup []), h', h' :: s.cores, pd, s.id⟩)
    (fun f args => @Option.rec (SV × Hp) (fun _ => Option Rs) none (fun q => some ⟨putF s.T o.dst q.1, q.2, q.2 :: s.cores, pd, s.id⟩) (callF P G hook ext rec f args h)) (opG o.op P G s.T h)
theorem effF_eq (rec : Code → Tp → Hp → Option Out) (o : Oper) (i : Nat) (s : Rs) (pd : Pend) (h : Hp) : effF P G hook ext rec o i s pd h = (match effA P G hook ext rec s.T h o.op with | some (v, h') => some ⟨putT s.T o.dst v, h', h' :: s.cores, pd, s.id⟩ | none => none) := by
  unfold effF effA
  rw [opG_eq]
  cases opA P G s.T h o.op with
  | no => rfl
  | val v h' => simp only; rw [putF_eq]
  | sk h' => simp only; rw [putF_eq]
  | call f args =>
    simp only
    rw [callF_eq]
    cases callA P G hook ext rec f args h with
    | none => rfl
    | some q => simp only; rw [putF_eq]
def newF (o : Oper) (i : Nat) (s : Rs) : Option Rs :=
  @Go1.rec (fun _ => Option Rs) none (fun v h => @Option.rec Blk (fun _ => Option Rs) none (fun b => some ⟨putF s.T o.dst v, s.h, s.cores, (i, s.id, b) :: s.pend, Nat.succ s.id⟩) (getB h.t s.id)) (fun _ => none) (fun _ _ => none) (opG o.op P G s.T ⟨.nil, s.id⟩)
theorem newF_eq (o : Oper) (i : Nat) (s : Rs) : newF P G o i s = (match newA P G s.id s.T o.op with | some (v, bk) => some ⟨putT s.T o.dst v, s.h, s.cores, (i, s.id, bk) :: s.pend, Nat.succ s.id⟩ | none => none) := by
  unfold newF newA
  rw [opG_eq]
  cases opA P G s.T ⟨.nil, s.id⟩ o.op with
  | no => rfl
  | sk h => rfl
  | call f a => rfl
  | val v h =>
    simp only
    rw [getB_eq]
    cases h.t.get s.id with
    | none => rfl
    | some b => simp only; rw [putF_eq]
def purF (o : Oper) (s : Rs) : Option Rs := @Go1.rec (fun _ => Option Rs) none (fun v h1 => @Bool.rec (fun _ => Option Rs) none (some ⟨putF s.T o.dst v, s.h, s.cores, s.pend, s.id⟩) (Nat.beq h1.n s.h.n)) (fun _ => none) (fun _ _ => none) (opG o.op P G s.T s.h)
theorem purF_eq (o : Oper) (s : Rs) : purF P G o s = (match opA P G s.T s.h o.op with
  | .val v h1 => bif Nat.beq h1.n s.h.n then some ⟨putT s.T o.dst v, s.h, s.cores, s.pend, s.id⟩ else none
  | _ => none) := by
  unfold purF
  rw [opG_eq]
  cases opA P G s.T s.h o.op with
  | no => rfl
  | sk h => rfl
  | call f a => rfl
  | val v h1 =>
    simp only
    rw [putF_eq]
    cases Nat.beq h1.n s.h.n <;> rfl
def stepM (rec : Code → Tp → Hp → Option Out) (ops : List Oper) (m : Nat) (i : Nat) (o : Oper) (s : Rs) : Option Rs :=
  @Option.rec Bool (fun _ => Option Rs) none (fun w => @Bool.rec (fun _ => Option Rs)
    (@Bool.rec (fun _ => Option Rs) (some ⟨putF s.T o.dst (.tup []), s.h, s.cores, s.pend, s.id⟩) (@Prod.rec Pend Hp (fun _ => Option Rs) (fun pd h => some ⟨putF s.T o.dst (.tup []), h, h :: s.cores, pd, s.id⟩) (absM m s.pend s.h)) (isEff o.op))
    (@Bool.rec (fun _ => Option Rs) (@Bool.rec (fun _ => Option Rs) (purF P G o s) (newF P G o i s) (isNew o.op)) (@Prod.rec Pend Hp (fun _ => Option Rs) (fun pd h => effF P G hook ext rec o i s pd h) (absM m s.pend s.h)) (isEff o.op)) w) (wantS ops s.T o.guard)
theorem stepM_eq (rec : Code → Tp → Hp → Option Out) (ops : List Oper) {m : Nat} {b : List Nat} (hm : RM m b) (i : Nat) (o : Oper) (s : Rs) : stepM P G hook ext rec ops m i o s = stepD P G hook ext rec ops b i o s := by
  unfold stepM stepD
  rw [absM_eq hm, putF_eq]
  cases wantS ops s.T o.guard with
  | none => rfl
  | some w =>
    cases w
    · cases isEff o.op
      · rfl
      · simp only [cond_true]
    · cases isEff o.op
      · simp only [cond_false]
        cases isNew o.op
        · exact purF_eq P G o s
        · simp only [cond_true]
          exact newF_eq P G o i s
      · simp only [cond_true]
        obtain ⟨pd, h⟩ := absorb b s.pend s.h
        exact effF_eq P G hook ext rec o i s pd h

def stepF (rec : Code → Tp → Hp → Option Out) (ops : List Oper) (m : Nat) (i : Nat) (o : Oper) (s : Rs) : Option Rs :=
  @Option.rec (Nat × Vm) (fun _ => Option Rs) (stepM P G hook ext rec ops m i o s) (fun dv => @Option.rec SV (fun _ => Option Rs) none (fun v => some ⟨stS s.T dv.1 (some v), s.h, s.cores, s.pend, s.id⟩) (vmF dv.2 P G s.T s.h)) (comp P o)
theorem stepF_eq (rec : Code → Tp → Hp → Option Out) (ops : List Oper) {m : Nat} {b : List Nat} (hm : RM m b) (i : Nat) (o : Oper) (s : Rs) : stepF P G hook ext rec ops m i o s = stepD P G hook ext rec ops b i o s := by
  unfold stepF
  cases hc : comp P o with
  | none => exact stepM_eq P G hook ext rec ops hm i o s
  | some dv =>
    unfold comp at hc
    split at hc
    · rename_i d op ty pos af
      split at hc
      · rename_i v hv
        simp only [Option.some.injEq] at hc; subst hc
        obtain ⟨h1, h2, h3⟩ := vm_ok P G hv s.T s.h
        unfold stepD
        simp only [wantS, h2, h3, h1, cond_false]
        cases vmF v P G s.T s.h with
        | none => rfl
        | some u =>
          show some (Rs.mk (stS s.T d (some u)) s.h s.cores s.pend s.id) = (bif Nat.beq s.h.n s.h.n then some ⟨s.T.set d (some u), s.h, s.cores, s.pend, s.id⟩ else none)
          rw [Nat.beq_refl, stS_eq]
          rfl
      · cases hc
    · cases hc
def passF (rec : Code → Tp → Hp → Option Out) (ops : List Oper) (l : List Oper) : List Nat → Nat → Rs → Option Rs :=
  @List.rec Oper (fun _ => List Nat → Nat → Rs → Option Rs) (fun _ _ s => some s)
    (fun o _ g ms i s => @List.rec Nat (fun _ => Option Rs) none (fun m ms _ => @Option.rec Rs (fun _ => Option Rs) none (fun s' => g ms (Nat.add i 1) s') (stepF P G hook ext rec ops m i o s)) ms) l
theorem passF_eq (rec : Code → Tp → Hp → Option Out) (ops : List Oper) : ∀ (l : List Oper) {ms : List Nat} {bs : List (List Nat)} (i : Nat) (s : Rs), RL ms bs → passF P G hook ext rec ops l ms i s = passD P G hook ext rec ops l bs i s
  | [], ms, bs, i, s, _ => by cases bs <;> rfl
  | o :: l, [], [], i, s, _ => rfl
  | o :: l, m :: ms, b :: bs, i, s, h => by
    show (@Option.rec Rs (fun _ => Option Rs) none (fun s' => passF P G hook ext rec ops l ms (Nat.add i 1) s') (stepF P G hook ext rec ops m i o s)) = _
    rw [stepF_eq P G hook ext rec ops h.1]
    unfold passD
    cases stepD P G hook ext rec ops b i o s with
    | none => rfl
    | some s' => exact passF_eq rec ops l (i + 1) s' h.2
  | o :: l, [], _ :: _, i, s, h => h.elim
  | o :: l, _ :: _, [], i, s, h => h.elim
def passC (rec : Code → Tp → Hp → Option Out) (ops : List Oper) (l : List Oper) : List Nat → Nat → Tp → Hp → List Hp → Pend → Nat → Option Rs :=
  @List.rec Oper (fun _ => List Nat → Nat → Tp → Hp → List Hp → Pend → Nat → Option Rs) (fun _ _ T h cores pend id => some ⟨T, h, cores, pend, id⟩)
    (fun o _ g ms i T h cores pend id => @List.rec Nat (fun _ => Option Rs) none (fun m ms _ =>
      @Option.rec (Nat × Vm) (fun _ => Option Rs)
        (@Option.rec Rs (fun _ => Option Rs) none (fun s' => @Rs.rec (fun _ => Option Rs) (g ms (Nat.add i 1)) s') (stepM P G hook ext rec ops m i o ⟨T, h, cores, pend, id⟩))
        (fun dv => @Option.rec SV (fun _ => Option Rs) none (fun v => g ms (Nat.add i 1) (stS T dv.1 (some v)) h cores pend id) (vmF dv.2 P G T h)) (comp P o)) ms) l
theorem passC_eq (rec : Code → Tp → Hp → Option Out) (ops : List Oper) : ∀ (l : List Oper) (ms : List Nat) (i : Nat) (T : Tp) (h : Hp) (cores : List Hp) (pend : Pend) (id : Nat), passC P G hook ext rec ops l ms i T h cores pend id = passF P G hook ext rec ops l ms i ⟨T, h, cores, pend, id⟩
  | [], ms, i, T, h, cores, pend, id => rfl
  | o :: l, [], i, T, h, cores, pend, id => rfl
  | o :: l, m :: ms, i, T, h, cores, pend, id => by
    show (@Option.rec (Nat × Vm) (fun _ => Option Rs)
        (@Option.rec Rs (fun _ => Option Rs) none (fun s' => @Rs.rec (fun _ => Option Rs) (passC P G hook ext rec ops l ms (Nat.add i 1)) s') (stepM P G hook ext rec ops m i o ⟨T, h, cores, pend, id⟩))
        (fun dv => @Option.rec SV (fun _ => Option Rs) none (fun v => passC P G hook ext rec ops l ms (Nat.add i 1) (stS T dv.1 (some v)) h cores pend id) (vmF dv.2 P G T h)) (comp P o)) =
      (@Option.rec Rs (fun _ => Option Rs) none (fun s' => passF P G hook ext rec ops l ms (Nat.add i 1) s') (stepF P G hook ext rec ops m i o ⟨T, h, cores, pend, id⟩))
    unfold stepF
    cases comp P o with
    | none =>
      simp only
      cases stepM P G hook ext rec ops m i o ⟨T, h, cores, pend, id⟩ with
      | none => rfl
      | some s' => obtain ⟨a, b, c, d, e⟩ := s'; exact passC_eq rec ops l ms (i + 1) a b c d e
    | some dv =>
      simp only
      cases vmF dv.2 P G T h with
      | none => rfl
      | some v => exact passC_eq rec ops l ms (i + 1) _ _ _ _ _
def rdC (o : Oper) : Bool := isRead o.op && !isEff o.op
def readsF (T : Tp) (ops : List Oper) (cores : List Hp) (l : List Oper) : List Nat → List Nat → Bool :=
  @List.rec Oper (fun _ => List Nat → List Nat → Bool) (fun _ _ => true)
    (fun o _ g los his => @List.rec Nat (fun _ => Bool) false (fun lo los _ => @List.rec Nat (fun _ => Bool) false (fun hi his _ =>
      and2 (@Bool.rec (fun _ => Bool) true (@Option.rec Bool (fun _ => Bool) false (fun w => @Bool.rec (fun _ => Bool) true (@Bool.rec (fun _ => Bool) (readOk P G T o cores 0 lo hi) true (Nat.beq lo hi)) w) (wantS ops T o.guard)) (rdC o)) (g los his)) his) los) l
theorem readsF_eq (T : Tp) (ops : List Oper) (cores : List Hp) : ∀ (l : List Oper) (los his : List Nat), readsF P G T ops cores l los his = readsOk P G T ops cores l los his
  | [], los, his => by unfold readsOk; rfl
  | o :: l, [], his => by unfold readsOk; rfl
  | o :: l, lo :: los, [] => by unfold readsOk; rfl
  | o :: l, lo :: los, hi :: his => by
    show and2 (@Bool.rec (fun _ => Bool) true (@Option.rec Bool (fun _ => Bool) false (fun w => @Bool.rec (fun _ => Bool) true (@Bool.rec (fun _ => Bool) (readOk P G T o cores 0 lo hi) true (Nat.beq lo hi)) w) (wantS ops T o.guard)) (rdC o)) (readsF P G T ops cores l los his) = _
    unfold readsOk
    rw [and2_eq, readsF_eq T ops cores l]
    congr 1
    show _ = (bif rdC o then _ else true)
    cases rdC o
    · rfl
    · show (@Option.rec Bool (fun _ => Bool) false _ (wantS ops T o.guard)) = _
      cases wantS ops T o.guard with
      | none => rfl
      | some w => cases w
        <;> first
          | rfl
          | (show (@Bool.rec (fun _ => Bool) (readOk P G T o cores 0 lo hi) true (Nat.beq lo hi)) = (bif Nat.beq lo hi then true else readOk P G T o cores 0 lo hi)
             cases Nat.beq lo hi <;> rfl)
def layF : Pend → Hp → Hp := @List.rec (Nat × Nat × Blk) (fun _ => Hp → Hp) (fun h => h) (fun e _ g h => ⟨stB (g h).t e.2.1 (some e.2.2), (g h).n⟩)
theorem layF_eq : ∀ (l : Pend) (h : Hp), layF l h = layAll l h
  | [], h => rfl
  | (i, id, bk) :: l, h => by
    show (⟨stB (layF l h).t id (some bk), (layF l h).n⟩ : Hp) = _
    rw [stB_eq, layF_eq l h]
    rfl
def regF (rec : Code → Tp → Hp → Option Out) (ops : List Oper) (T : Tp) (h : Hp) : Option Out :=
  @Bool.rec (fun _ => Option Out) none
    (@Option.rec Rs (fun _ => Option Out) none (fun s => @Bool.rec (fun _ => Option Out) none (some (.norm s.T (layF s.pend s.h))) (readsF P G s.T ops s.cores.reverse ops (loM (effsOf ops 0) (msOf ops)) (hiM (msOf ops) (effsOf ops 0) ops 0)))
      (passC P G hook ext rec ops ops (msOf ops) 0 T ⟨h.t, Nat.add h.n (countNew ops)⟩ [⟨h.t, Nat.add h.n (countNew ops)⟩] [] h.n))
    (planM ops)
theorem regF_eq (rec : Code → Tp → Hp → Option Out) (ops : List Oper) (T : Tp) (h : Hp) : regF P G hook ext rec ops T h = regD P G hook ext rec ops T h := by
  unfold regF regD
  rw [passC_eq, passF_eq P G hook ext rec ops ops 0 _ (msOf_ok ops), planM_eq]
  cases planOk ops (planOf ops)
  · rfl
  · simp only [cond_true]
    cases passD P G hook ext rec ops ops (planOf ops).bs 0 ⟨T, ⟨h.t, Nat.add h.n (countNew ops)⟩, [⟨h.t, Nat.add h.n (countNew ops)⟩], [], h.n⟩ with
    | none => rfl
    | some s =>
      simp only
      rw [readsF_eq, loM_eq (effsOf ops 0) (msOf_ok ops), hiM_eq (msOf_ok ops), layF_eq]
      show (@Bool.rec (fun _ => Option Out) none (some (.norm s.T (layAll s.pend s.h))) (readsOk P G s.T ops s.cores.reverse ops (planOf ops).lo (planOf ops).hi)) = _
      cases readsOk P G s.T ops s.cores.reverse ops (planOf ops).lo (planOf ops).hi <;> rfl

abbrev Rf := Code → Tp → Hp → Option Out
abbrev Cf := Program → (Nat → Option (List SV)) → (FuncId → Option (List SV → Hp → Option (SV × Hp))) → (FuncId → Option (List SV → Option SV)) → Rf → Tp → Hp → Option Out
/-- on, where code has come to its end -/
def onN : Out → (Tp → Hp → Option Out) → Option Out := @Out.rec (fun _ => (Tp → Hp → Option Out) → Option Out) (fun T h k => k T h) (fun id T h _ => some (.exit id T h)) (fun T h _ => some (.ret T h))
def onE : Out → Nat → Option Out := @Out.rec (fun _ => Nat → Option Out) (fun T h _ => some (.norm T h)) (fun id' T h id => @Bool.rec (fun _ => Option Out) (some (.exit id' T h)) (some (.norm T h)) (Nat.beq id' id)) (fun T h _ => some (.ret T h))
def cReg : Nat → Array Oper → Bool → Cf := fun _ ops draw P G hook ext rec T h => @Bool.rec (fun _ => Option Out) (opsF P G hook ext rec ops.toList ops.toList T h) (regF P G hook ext rec ops.toList T h) draw
def cSeq : Code → Code → Cf → Cf → Cf := fun a b _ _ _ _ _ _ rec T h => @Option.rec Out (fun _ => Option Out) none (fun r => onN r (rec b)) (rec a T h)
def cCond : Operand → Code → Code → Cf → Cf → Cf := fun c x y _ _ _ _ _ _ rec T h => @Option.rec SV (fun _ => Option Out) none (fun v => @Option.rec Bool (fun _ => Option Out) none (fun t => @Bool.rec (fun _ => Option Out) (rec y T h) (rec x T h) t) (asB v)) (evF c T)
def cBlock : Nat → Code → Cf → Cf := fun id c _ _ _ _ _ rec T h => @Option.rec Out (fun _ => Option Out) none (fun r => onE r id) (rec c T h)
def cLoop : Code → Cf → Cf := fun c _ _ _ _ _ rec T h => @Option.rec Out (fun _ => Option Out) none (fun r => onN r (rec (.loop c))) (rec c T h)
def codeF : Code → Cf := @Code.rec (fun _ => Cf) (fun _ _ _ _ _ T h => some (.norm T h)) cReg cSeq cCond cBlock cLoop (fun _ _ _ _ _ _ _ _ _ _ _ _ _ => none) (fun id _ _ _ _ _ T h => some (.exit id T h)) (fun c _ _ _ _ _ rec T h => rec c T h)
  (fun _ _ _ _ _ _ T h => some (.norm T h)) (fun _ _ _ _ _ _ _ _ => none) (fun _ _ _ _ _ T h => some (.ret T h)) (fun _ _ _ _ _ _ _ _ => none)
theorem codeF_eq (rec : Rf) (c : Code) (T : Tp) (h : Hp) : codeF c P G hook ext rec T h = codeA P G hook ext rec c T h := by
  cases c with
  | region id ops draw =>
    show (@Bool.rec (fun _ => Option Out) (opsF P G hook ext rec ops.toList ops.toList T h) (regF P G hook ext rec ops.toList T h) draw) = (bif draw then regD P G hook ext rec ops.toList T h else opsA P G hook ext rec ops.toList ops.toList T h)
    cases draw
    · exact congrFun (congrFun (opsF_eq P G hook ext rec ops.toList ops.toList) T) h
    · exact regF_eq P G hook ext rec ops.toList T h
  | seq a b =>
    show (@Option.rec Out (fun _ => Option Out) none (fun r => onN r (rec b)) (rec a T h)) = (match rec a T h with | some (.norm T h) => rec b T h | r => r)
    cases rec a T h with
    | none => rfl
    | some r => cases r <;> rfl
  | cond q x y =>
    show (@Option.rec SV (fun _ => Option Out) none (fun v => @Option.rec Bool (fun _ => Option Out) none (fun t => @Bool.rec (fun _ => Option Out) (rec y T h) (rec x T h) t) (asB v)) (evF q T)) = (match evO T q with | some (.bool true) => rec x T h | some (.bool false) => rec y T h | _ => none)
    rw [evF_eq]
    cases evO T q with
    | none => rfl
    | some v => cases v <;> first
      | rfl
      | (rename_i b; cases b <;> rfl)
  | block id x =>
    show (@Option.rec Out (fun _ => Option Out) none (fun r => onE r id) (rec x T h)) = (match rec x T h with | some (.exit id' T h) => bif Nat.beq id' id then some (.norm T h) else some (.exit id' T h) | r => r)
    cases rec x T h with
    | none => rfl
    | some r => cases r <;> first
      | rfl
      | (rename_i id' T' h'
         show (@Bool.rec (fun _ => Option Out) (some (.exit id' T' h')) (some (.norm T' h')) (Nat.beq id' id)) = (bif Nat.beq id' id then some (Out.norm T' h') else some (.exit id' T' h'))
         cases Nat.beq id' id <;> rfl)
  | loop x =>
    show (@Option.rec Out (fun _ => Option Out) none (fun r => onN r (rec (.loop x))) (rec x T h)) = (match rec x T h with | some (.norm T h) => rec (.loop x) T h | r => r)
    cases rec x T h with
    | none => rfl
    | some r => cases r <;> rfl
  | _ => rfl
def execF (n : Nat) : Rf := @Nat.rec (fun _ => Rf) (fun _ _ _ => none) (fun _ rec c T h => codeF c P G hook ext rec T h) n
theorem execF_eq : ∀ n, execF P G hook ext n = exec P G hook ext n
  | 0 => rfl
  | n + 1 => by
    funext c T h
    show codeF c P G hook ext (execF P G hook ext n) T h = codeA P G hook ext (exec P G hook ext n) c T h
    rw [codeF_eq, execF_eq n]

/-! The checks, by it. -/
def runF (n : Nat) : List Code → Tp → Hp → Option (Tp × Hp)
  | [], T, h => some (T, h)
  | c :: l, T, h => match execF P G hook ext n c T h with
    | some (.norm T' h') => runF n l T' h'
    | _ => none
theorem runF_eq (n : Nat) : ∀ (l : List Code) (T : Tp) (h : Hp), runF P G hook ext n l T h = runL P G hook ext n l T h
  | [], T, h => rfl
  | c :: l, T, h => by
    unfold runF runL
    rw [execF_eq]
    cases exec P G hook ext n c T h with
    | none => rfl
    | some r => cases r <;> first
      | rfl
      | exact runF_eq n l _ _
def chkF (n : Nat) (l : List Code) (T : Tp) (h : Hp) (lt : List (Nat × SV)) (lh : List (Nat × Blk)) (m : Nat) : Bool := match runF P G hook ext n l T h with
  | some (T', h') => subT T' lt && subB h'.t lh && Nat.ble h'.n m
  | _ => false
theorem chkF_eq (n : Nat) (l : List Code) (T : Tp) (h : Hp) (lt : List (Nat × SV)) (lh : List (Nat × Blk)) (m : Nat) : chkF P G hook ext n l T h lt lh m = chk P G hook ext n l T h lt lh m := by
  unfold chkF chk
  rw [runF_eq]
  rfl
def retF (s n : Nat) (c : Code) (T : Tp) (h : Hp) : Bool := match execF P G hook ext n c T h with
  | some (.ret T' _) => (match T'.get s with | some (.bool b) => b | _ => false)
  | _ => false
theorem retF_eq (s n : Nat) (c : Code) (T : Tp) (h : Hp) : retF P G hook ext s n c T h = chkRet P G hook ext s n c T h := by
  unfold retF chkRet
  rw [execF_eq]
  rfl
end
end
end
end Go.Proofs.YtgfahpnndmocbaaGreatDoor.Sx
