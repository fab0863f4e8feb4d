/- Two flows, in plain Lean: what each does, what is between them. -/
import Derived.Test.YtjldgialhgfhmaaXFlow7
import Derived.Test.YtjldgialhgfhmaaNc
namespace Go.Proofs.Ytjldgialhgfhmaa
set_option linter.unusedVariables false
set_option linter.unusedSimpArgs false
set_option linter.unusedVariables false
set_option linter.unusedSimpArgs false
/-- A segment, as flows see it. -/
structure Sm where
  seq : Int
  ack : Int
  syn : Bool
  acks : Bool
  fin : Bool
  xs : List Int
def Ot.seg (o : Ot) : Sm := ⟨o.p.seq, o.ack, o.p.syn, o.acks, o.p.fin, o.p.xs⟩
/-- All is sent again. -/
def Fl.again (S : Fl) (tick : Int) : Fl := ({ S with tw := true, out := S.out ++ S.ps.map S.putting } : Fl).arm tick
def Fl.waits (S : Fl) (tick : Int) : Fl := { S with st := 9, at_ := tick + 8, has := true }
def wentOne (tick : Int) (S : Fl) (p : Pc) : Fl :=
  if p.syn = true ∧ S.st = 2 then { S with st := 3 }
  else if p.fin = true ∧ S.st = 4 then { S with st := 5 }
  else if p.fin = true ∧ S.st = 7 then S.waits tick
  else if p.fin = true ∧ S.st = 8 then { S with st := 10 }
  else S
def Fl.sampled (S : Fl) (tick : Int) : Fl := if S.tw = true then S else { S with r := S.r.next (tick - S.since) }
def Fl.renew (S : Fl) (tick : Int) : Fl := if S.ps = [] then { S with tries := 0, tw := true, k := 0, at_ := 0, has := false } else ({ S with tries := 0, tw := true, k := 0, at_ := 0, has := false } : Fl).arm tick
def Fl.went (S : Fl) (l : List Pc) (tick : Int) : Fl := if l = [] then S else l.foldl (wentOne tick) ((S.sampled tick).renew tick)
def Fl.ackd (S : Fl) (a : Int) : Nat := ackK S.ps (dist (beginQ S.ps S.e) a)
def Fl.acks (S : Fl) (a tick : Int) : Fl := ({ S with ps := S.ps.drop (S.ackd a) } : Fl).went (S.ps.take (S.ackd a)) tick
def Fl.ackable (S : Fl) (a : Int) : Prop := dist (beginQ S.ps S.e) a ≤ dist (beginQ S.ps S.e) S.e
def Fl.dialed (S : Fl) (s : Sm) (tick : Int) : Fl :=
  if s.syn = true ∧ s.acks = true ∧ s.ack = S.e then ({ S.acks s.ack tick with st := 3, rcv := onN s.seq 1 } : Fl).tell else S
def endedS (st : Int) : Int := if st = 3 then 6 else if st = 4 then 7 else 9
def isLong (s : Sm) : Prop := 0 < s.xs.length ∨ s.fin = true
def isBefore (a b : Int) : Prop := 0 < dist a b ∧ dist a b < 2147483648
instance (s : Sm) : Decidable (isLong s) := by unfold isLong; infer_instance
instance (a b : Int) : Decidable (isBefore a b) := by unfold isBefore; infer_instance
instance (S : Fl) (a : Int) : Decidable (S.ackable a) := by unfold Fl.ackable; infer_instance
def Fl.ends (S : Fl) (tick : Int) : Fl := if endedS S.st = 9 then ({ S with rcv := onN S.rcv 1 } : Fl).waits tick else { S with rcv := onN S.rcv 1, st := endedS S.st }
def Fl.takes (S : Fl) (s : Sm) (tick : Int) : Fl × Bool :=
  if s.seq ≠ S.rcv ∨ ¬ (S.st = 3 ∨ S.st = 4 ∨ S.st = 5) then (if isLong s ∨ isBefore s.seq S.rcv then S.tell else S, false)
  else
    (if s.fin = true then (({ S with rcv := onN S.rcv s.xs.length } : Fl).ends tick).tell else if isLong s then ({ S with rcv := onN S.rcv s.xs.length } : Fl).tell else { S with rcv := onN S.rcv s.xs.length }, true)
def Fl.takesIf (S : Fl) (s : Sm) (tick : Int) : Fl × Bool := if S.st < 10 ∧ S.st ≠ 2 then S.takes s tick else (S, false)
def Fl.hear (S : Fl) (s : Sm) (tick : Int) : Fl × Bool :=
  if 10 ≤ S.st then (S, false)
  else if S.st = 1 then (S.dialed s tick, false)
  else if s.syn = true ∧ S.st = 2 ∧ s.acks = false ∧ onN s.seq 1 = S.rcv then (S.again tick, false)
  else if s.syn = true then (S.tell, false)
  else (if s.acks = true ∧ S.ackable s.ack then S.acks s.ack tick else S).takesIf s tick
def Fl.expire (S : Fl) (tick : Int) : Fl :=
  if S.has = false ∨ tick < S.at_ then S
  else if S.st = 9 then { S with st := 10, at_ := 0, has := false }
  else if 4 < S.tries + 1 then ({ S with tries := S.tries + 1 } : Fl).dead
  else ({ S with tries := S.tries + 1, k := min (S.k + 1) 16 } : Fl).again tick
def dataP (xs : List Int) : Pc := ⟨0, false, false, xs, 1, false⟩
def finP : Pc := ⟨0, false, true, [], 0, false⟩
/-- Send, of data that may be sent. -/
def Fl.canSend (S : Fl) (xs : List Int) : Prop := (S.st = 3 ∨ S.st = 6) ∧ 0 < xs.length ∧ xs.length ≤ 8
instance (S : Fl) (xs : List Int) : Decidable (S.canSend xs) := by unfold Fl.canSend; infer_instance
def Fl.close (S : Fl) (tick : Int) : Fl := if S.st = 3 then ({ S with st := 4 } : Fl).send finP tick else if S.st = 6 then ({ S with st := 8 } : Fl).send finP tick else S
/-! Two flows. -/
structure Pr where
  f0 : Fl
  f1 : Option Fl
  way : List (Bool × Sm)
  s0 : List Int
  s1 : List Int
  c0 : List Int
  c1 : List Int
  tick : Int
def Fl.flushed (S : Fl) : Fl := { S with out := [] }
def outOf (f : Option Fl) : List Ot := match f with | none => [] | some S => S.out
/-- The packets that there is room for. -/
def fill (way : List (Bool × Sm)) (tb : Bool) (l : List Ot) : List (Bool × Sm) := way ++ (l.map (fun o => (tb, o.seg))).take (60 - way.length)
def Pr.flush (P : Pr) : Pr := { P with f0 := P.f0.flushed, f1 := P.f1.map Fl.flushed, way := fill (fill P.way true P.f0.out) false (outOf P.f1) }
/-- A flow that answers. -/
def answered (s : Sm) (tick : Int) : Fl := (flow0 9000 2 (onN s.seq 1)).send synP tick
def Pr.comes (P : Pr) (p : Bool × Sm) : Pr :=
  match p.1, P.f1 with
  | true, none => if p.2.syn = true ∧ p.2.acks = false then { P with f1 := some (answered p.2 P.tick) } else P
  | true, some S => { P with f1 := some (S.hear p.2 P.tick).1, c1 := if (S.hear p.2 P.tick).2 = true then P.c1 ++ p.2.xs else P.c1 }
  | false, _ => { P with f0 := (P.f0.hear p.2 P.tick).1, c0 := if (P.f0.hear p.2 P.tick).2 = true then P.c0 ++ p.2.xs else P.c0 }
def bytesN (n : Int) : List Int := (List.range (min (max n 0) 12).toNat).map fun (i : Nat) => (7 * (i : Int) + n) % 256
def Pr.pass (P : Pr) (kind : Int) (i : Nat) : Pr :=
  match P.way[i]? with
  | none => P
  | some p =>
    let P1 : Pr := if kind = 2 then P else { P with way := P.way.eraseIdx i }
    if kind = 1 then P1 else P1.comes p
def Pr.sends (P : Pr) (to1 : Bool) (xs : List Int) : Pr :=
  match to1, P.f1 with
  | false, _ => if P.f0.canSend xs then { P with f0 := P.f0.send (dataP xs) P.tick, s0 := P.s0 ++ xs } else P
  | true, none => P
  | true, some S => if S.canSend xs then { P with f1 := some (S.send (dataP xs) P.tick), s1 := P.s1 ++ xs } else P
def Pr.act (P : Pr) (kind i : Int) : Pr :=
  if 0 ≤ kind ∧ kind ≤ 2 ∧ P.way ≠ [] then P.pass kind (min (max i 0) (P.way.length - 1)).toNat
  else if kind = 3 then P.sends false (bytesN i)
  else if kind = 4 then P.sends true (bytesN i)
  else if kind = 5 then { P with f0 := P.f0.close P.tick }
  else if kind = 6 then { P with f1 := P.f1.map (fun S => S.close P.tick) }
  else if kind = 7 then { P with tick := P.tick + 1, f0 := P.f0.expire (P.tick + 1), f1 := P.f1.map (fun S => S.expire (P.tick + 1)) }
  else P
def Pr.step (P : Pr) (kind i : Int) : Pr := (P.flush.act kind i).flush
def pair0 (iss : Int) : Pr := ⟨(flow0 iss 1 0).send synP 0, none, [], [], [], [], [], 0⟩
def stepped (iss : Int) (l : List (Int × Int)) : Pr := l.foldl (fun P a => P.step a.1 a.2) (pair0 iss)
end Go.Proofs.Ytjldgialhgfhmaa
