/-
  Operations of regions that draw their order: what they look at, what they make.
-/
import Derived.Test.YtgfahpnndmocbaaGreatDoorSx16
namespace Go.Proofs.YtgfahpnndmocbaaGreatDoor.Sx
noncomputable section
open Go Go.RowKit
set_option linter.unusedVariables false
set_option linter.unusedSimpArgs false

section
variable {P : Program} {E : En} {N : Nat} {W : World} {β : Bm} {h : Hp} {F : Nat → Option Blk} {w : World} {T : Tp} {a : Act} {G : Nat → Option (List SV)}

/-- slots, none but those that a list names -/
def cut (T : Tp) : List Nat → Tp
  | [] => .nil
  | t :: l => (cut T l).set t (T.get t)
theorem cut_get (T : Tp) (t : Nat) : ∀ L : List Nat, (cut T L).get t = if t ∈ L then T.get t else none
  | [] => by simp [cut, Tr.get_nil]
  | u :: l => by
    simp only [cut, Tr.get_set, cut_get T t l, List.mem_cons]
    by_cases e : t = u
    · subst e; simp
    · simp [e]
theorem evO_cut {L : List Nat} {x : Operand} (h : ∀ t, x = .tmp t → t ∈ L) : evO (cut T L) x = evO T x := by
  cases x with
  | tmp t => simp only [evO]; rw [cut_get, if_pos (h t rfl)]
  | _ => rfl
theorem evOs_congr {T' : Tp} : ∀ {l : List Operand}, (∀ x ∈ l, evO T' x = evO T x) → evOs T' l = evOs T l
  | [], _ => rfl
  | x :: l, h => by simp only [evOs]; rw [h x (by simp), evOs_congr fun y hy => h y (by simp [hy])]
theorem evPs_congr {T' : Tp} : ∀ {l : List (Nat × Operand)}, (∀ x ∈ l.map (·.2), evO T' x = evO T x) → evPs T' l = evPs T l
  | [], _ => rfl
  | (i, x) :: l, h => by simp only [evPs]; rw [h x (by simp), evPs_congr fun y hy => h y (by simp at hy ⊢; exact .inr hy)]
theorem evOp_congr {T' : Tp} {x : Option Operand} (h : ∀ y ∈ optL x, evO T' y = evO T y) : evOp T' x = evOp T x := by
  cases x with
  | none => rfl
  | some y => simp only [evOp]; rw [h y (by simp [optL])]

theorem opA_congr {T' : Tp} {op : Op} (H : ∀ x ∈ opnds op, evO T' x = evO T x) : opA P G T' h op = opA P G T h op := by
  cases op <;> simp only [opA] <;> try rfl
  case move x => rw [H x (by simp [opnds])]
  case assign x => rw [H x (by simp [opnds])]
  case pick c x y => unfold oPick; rw [H c (by simp [opnds]), H x (by simp [opnds]), H y (by simp [opnds])]
  case box t x => unfold oBox; rw [H x (by simp [opnds])]
  case build t ps => unfold oBuild; rw [evPs_congr fun x hx => H x (by simpa [opnds] using hx)]
  case buildSlice t len ps => unfold oRow; rw [evPs_congr fun x hx => H x (by simpa [opnds] using hx)]
  case insert t m k x => unfold oUpdate; rw [H m (by simp [opnds]), H k (by simp [opnds]), H x (by simp [opnds])]
  case load t x => unfold oLoad; rw [H x (by simp [opnds])]
  case store t x y => unfold oStore; rw [H x (by simp [opnds]), H y (by simp [opnds])]
  case nilCheck x => unfold oNil; rw [H x (by simp [opnds])]
  case binOp op t x y z => unfold oBin; rw [H x (by simp [opnds]), H y (by simp [opnds])]
  case unOp op t x => unfold oUn; rw [H x (by simp [opnds])]
  case convert s d x => unfold oConv; rw [H x (by simp [opnds])]
  case makeFunc f x y => unfold oFunc; rw [evOs_congr fun z hz => H z (by simp [opnds] at hz ⊢; exact .inl hz), evOs_congr fun z hz => H z (by simp [opnds] at hz ⊢; exact .inr hz)]
  case makeMap t r =>
    unfold oMap
    cases r with
    | none => rfl
    | some x => simp only; rw [H x (by simp [opnds, optL])]
  case makeSlice t l c => unfold oMake; rw [H l (by simp [opnds]), H c (by simp [opnds])]
  case slice t x lo hi mx =>
    unfold oSlice
    rw [H x (by simp [opnds]), evOp_congr fun z hz => H z (by simp only [opnds, List.mem_cons, List.mem_append]; exact .inr (.inl hz)),
      evOp_congr fun z hz => H z (by simp only [opnds, List.mem_cons, List.mem_append]; exact .inr (.inr (.inl hz))), evOp_congr fun z hz => H z (by simp only [opnds, List.mem_cons, List.mem_append]; exact .inr (.inr (.inr hz)))]
  case fieldAddr s x f => unfold oFieldAddr; rw [H x (by simp [opnds])]
  case field t x f => unfold oField; rw [H x (by simp [opnds])]
  case indexAddr t x i => unfold oIndexAddr; rw [H x (by simp [opnds]), H i (by simp [opnds])]
  case index t x i => unfold oIndex; rw [H x (by simp [opnds]), H i (by simp [opnds])]
  case lookup t x i ok => unfold oLookup; rw [H x (by simp [opnds]), H i (by simp [opnds])]
  case mapUpdate t m k x => unfold oUpdate; rw [H m (by simp [opnds]), H k (by simp [opnds]), H x (by simp [opnds])]
  case range t x => unfold oRange; rw [H x (by simp [opnds])]
  case next it s => unfold oNext; rw [H it (by simp [opnds])]
  case entry it => unfold oEntry; rw [H it (by simp [opnds])]
  case extract x i => unfold oExtract; rw [H x (by simp [opnds])]
  case call c =>
    obtain ⟨callee, args, ts⟩ := c
    have e := evOs_congr (T := T) (T' := T') (l := args.toList) fun z hz => H z (by simp only [opnds, List.mem_append]; exact .inr hz)
    unfold oCall
    simp only [e]
    cases callee with
    | value f => simp only [H f (by simp [opnds])]
    | _ => rfl
theorem opTs_mem {t : Nat} : ∀ {l : List Operand}, .tmp t ∈ l → t ∈ opTs l
  | [], h => by simp at h
  | x :: l, h => by
    rcases List.mem_cons.1 h with rfl | h
    · simp [opTs]
    · have := opTs_mem h
      cases x <;> simp [opTs, this]
theorem opA_cut {L : List Nat} {op : Op} (H : ∀ t ∈ opTs (opnds op), t ∈ L) : opA P G (cut T L) h op = opA P G T h op :=
  opA_congr fun x hx => evO_cut fun t ht => H t (opTs_mem (ht ▸ hx))

/-- the slot that a guard looks at -/
theorem wantS_cut {L : List Nat} {ops : List Oper} {o : Oper} (H : ∀ t ∈ looks ops o, t ∈ L) : wantS ops (cut T L) o.guard = wantS ops T o.guard := by
  unfold wantS
  split
  · rfl
  · rename_i j want hg
    cases hj : lget ops j with
    | none => rfl
    | some p =>
      simp only
      cases hd : p.dst with
      | none => rfl
      | some d =>
        simp only
        rw [cut_get, if_pos (H d (by simp [looks, hg, hj, hd]))]

/-- neither makes nor reads nor turns memory -/
theorem opA_pure {op : Op} (he : isEff op = false) (hn : isNew op = false) (hr : isRead op = false) (hg : isRange op = false) {v : SV} {h1 : Hp} (ho : opA P G T h op = .val v h1) (hnn : h1.n = h.n) (h2 : Hp) : opA P G T h2 op = .val v h2 := by
  have vh' : ∀ (x : Option SV), vh h x = .val v h1 → vh h2 x = .val v h2 := by
    intro x hx
    cases x with
    | none => cases hx
    | some y => simp only [vh, Go1.val.injEq] at hx ⊢; exact ⟨hx.1, trivial⟩
  cases op <;> simp only [opA] at ho ⊢ <;> first
    | (simp [isEff] at he; done)
    | (simp [isNew] at hn; done)
    | (simp [isRead] at hr; done)
    | (simp [isRange] at hg; done)
    | (cases ho; done)
    | exact vh' _ ho
    | (simp only [oPick, oBuild, oNil, oBin, oUn, oConv, oFunc, oSlice, oFieldAddr, oField, oIndexAddr, oIndex, oExtract] at ho ⊢
       repeat' split at ho
       all_goals first
         | (cases ho; done)
         | exact vh' _ ho
         | (rename_i x y _ _ _ _
            cases hq : ((isConst x || isConst y) && isIface P _) <;> rw [hq] at ho ⊢ <;> first
              | (cases ho; done)
              | exact vh' _ ho)
         | (generalize hq : isRow8 P _ = q at ho ⊢
            cases q
            · exact vh' _ ho
            · simp only [cond_true, Go1.val.injEq] at ho
              obtain ⟨_, rfl⟩ := ho
              simp [Hp.new] at hnn)
         | (generalize hq : (_ && isIface P _) = q at ho ⊢
            cases q
            · cases ho
            · exact vh' _ ho)
         | (simp only [Go1.val.injEq] at ho ⊢; exact ⟨ho.1, trivial⟩))
/-- a read leaves memory as it is -/
theorem opA_read {op : Op} (he : isEff op = false) (hr : isRead op = true) {v : SV} {h1 : Hp} (ho : opA P G T h op = .val v h1) : h1 = h := by
  have vh' : ∀ (x : Option SV), vh h x = .val v h1 → h1 = h := by
    intro x hx
    cases x with
    | none => cases hx
    | some y => simp only [vh, Go1.val.injEq] at hx; exact hx.2.symm
  cases op <;> simp only [opA] at ho <;> first
    | (simp [isEff] at he; done)
    | (simp [isRead] at hr; done)
    | (simp only [oLoad, oLookup, oEntry] at ho
       repeat' split at ho
       all_goals first
         | (cases ho; done)
         | exact vh' _ ho)
    | skip
  case call c =>
    obtain ⟨callee, args, ts⟩ := c
    unfold oCall at ho
    simp only at ho
    split at ho
    · cases callee with
      | builtin b =>
        simp only at ho
        unfold builtinA at ho
        cases b <;> simp only at ho <;> first
          | (simp [isEff] at he; done)
          | (cases ho; done)
          | (simp only [bLen, bMin] at ho
             repeat' split at ho
             all_goals first
               | (cases ho; done)
               | exact vh' _ ho)
      | _ => simp [isEff] at he
    · cases ho

/-- Memory is made, whatever its name. -/
def Fresh (P : Program) (E : En) (β : Bm) (w : World) (s : Sem Value) (mk : Nat → SV) (b : Blk) : Prop :=
  ∃ v o e, s.run P w = .ok v { w with heap := w.heap.push o } ∧ (∀ β', Le β β' → BR E β' { w with heap := w.heap.push o } (w.heap.size, 0, e) b) ∧ ∀ β' id, β' id = some (w.heap.size, 0, e) → VR E β' (mk id) v
theorem fresh_row {cs : List SV} {ws : Array Value} {t : TypeId} (hc : VRs E β cs ws.toList) (h1 : allOne cs = true) {s : Sem Value} {mk : Nat → SV} {v : Value}
    (hrun : s.run P w = .ok v { w with heap := w.heap.push (.cells ws t) }) (hv : ∀ β' id, β' id = some (w.heap.size, 0, ws.size) → VR E β' (mk id) v) : Fresh P E β w s mk (.cells cs) :=
  ⟨v, _, ws.size, hrun, fun β' hle => ⟨h1, ws, t, [], ws.toList, [], by simp, rfl, hc.mono hle, by simp, rfl⟩, hv⟩
theorem alloc_fresh {t : TypeId} {z : List SV} (hz : zeroC P t = some z) : Fresh P E β w (Instr.alloc t true (.tuple #[])) (fun id => .ptr id 0) (.cells z) := by
  obtain ⟨zv, h1, h2, h3⟩ := zeroC_ok (P := P) (E := E) (w := w) hz β
  refine fresh_row (t := t) h2 h3 ?_ fun β' id hb => .ptr _ _ _ _ _ hb
  simp only [Instr.alloc, Sem.run_bind, h1, Result.andThen_ok]
  rfl
theorem box_fresh {t : TypeId} {x : SV} {v : Value} {cs : List SV} (hx : VR E β x v) (hc : cellsOf x = some cs) : Fresh P E β w (Instr.box t v) (fun id => .ptr id 0) (.cells cs) := by
  obtain ⟨h2, h3⟩ := hx.cells hc
  exact fresh_row (t := t) h2 h3 rfl fun β' id hb => .ptr _ _ _ _ _ hb
theorem row_fresh {t : TypeId} {len : Nat} {parts : List (Nat × SV)} {vparts : Array (Nat × Value)} {cs : List SV} (hp : PRs E β parts vparts.toList) (hr : rowA P t len parts = some cs) :
    Fresh P E β w (Instr.buildSlice t len vparts) (fun id => .sli id 0 len len) (.cells cs) := by
  unfold rowA at hr
  split at hr
  · rename_i e n he
    obtain ⟨hu, hn⟩ := elemO_ok he
    split at hr
    · rename_i z hz
      cases hb : (Nat.beq z.length n && Nat.blt 0 n && Nat.ble (Nat.mul len n) 16777216)
      · rw [hb] at hr; cases hr
      · rw [hb] at hr
        simp only [Bool.and_eq_true] at hb
        obtain ⟨⟨b1, b2⟩, b3⟩ := hb
        have e1 : z.length = n := Nat.eq_of_beq_eq_true b1
        have e2 : 0 < n := by rw [blt_eq] at b2; simpa using b2
        have e3 : len * n ≤ 16777216 := Nat.le_of_ble_eq_true b3
        simp only [cond_true] at hr
        obtain ⟨zv, h1, h2, h3⟩ := zeroC_ok (P := P) (E := E) (w := w) hz β
        have hzs : zv.cells.size = n := by rw [← e1]; have := h2.length; simpa using this.symm
        obtain ⟨r1, r2⟩ := rep_ok h2 h3 len
        have hz0 : ∀ (zz : Array Value), (if len * n = 0 then #[] else zv.cells) = zz → ((Array.range (len * n)).map (fun i => zz[i % zz.size]!)).toList = (List.replicate len zv.cells.toList).flatten := by
          intro zz hzz
          by_cases h0 : len * n = 0
          · have : len = 0 := by
              rcases Nat.mul_eq_zero.1 h0 with h | h
              · exact h
              · omega
            subst this
            simp
          · rw [if_neg h0] at hzz
            subst hzz
            have := zeros_eq zv.cells (by omega) len
            rw [hzs] at this ⊢
            exact this
        obtain ⟨vl, g1, g2, g3⟩ := fill_ok (vcells := (Array.range (len * n)).map (fun i => (if len * n = 0 then #[] else zv.cells)[i % (if len * n = 0 then #[] else zv.cells).size]!)) hp (by rw [hz0 _ rfl]; exact r1) r2 hr
        refine fresh_row (t := e) g2 g3 ?_ fun β' id hb => .sli _ _ _ _ _ _ _ hb
        have hlim : ¬ len * n > 2 ^ 24 := by omega
        simp only [Instr.buildSlice, Sem.run_bind, run_und hu, szO_run hn, Result.andThen_ok, hlim, if_false]
        by_cases h0 : len * n = 0
        · simp only [h0, if_true] at g1 ⊢
          simp only [Sem.run_bind, Sem.run_pure, Result.andThen_ok]
          rw [show (fun i => some (i * n, n)) = (fun i => some (Nat.mul i n, n)) from rfl, g1]
          rfl
        · simp only [h0, if_false] at g1 ⊢
          simp only [Sem.run_bind, h1, Sem.run_pure, Result.andThen_ok]
          rw [show (fun i => some (i * n, n)) = (fun i => some (Nat.mul i n, n)) from rfl, g1]
          rfl
    · cases hr
  · cases hr

theorem make_fresh {t : TypeId} {l c r : SV} {vl vc : Value} {h' : Hp} (hl : VR E β l vl) (hc : VR E β c vc) (hm : makeSl P h t l c = .val r h') :
    ∃ mk b, r = mk h.n ∧ h' = h.new b ∧ Fresh P E β w (Instr.makeSlice t vl vc) mk b := by
  unfold makeSl at hm
  split at hm
  · rename_i ln cn hln hcn
    obtain ⟨k1, rfl⟩ := natOf_ok hl hln
    obtain ⟨k2, rfl⟩ := natOf_ok hc hcn
    split at hm
    · rename_i e n he
      obtain ⟨hu, hn⟩ := elemO_ok he
      split at hm
      · rename_i z hz
        cases hb : (Nat.ble ln cn && Nat.blt cn 1048576 && Nat.beq z.length n && Nat.blt 0 n && smallT P e)
        · rw [hb] at hm; cases hm
        · rw [hb] at hm
          simp only [Bool.and_eq_true] at hb
          obtain ⟨⟨⟨⟨b1, b2⟩, b3⟩, b4⟩, b5⟩ := hb
          have e1 : ln ≤ cn := Nat.le_of_ble_eq_true b1
          have e2 : cn < 1048576 := by rw [blt_eq] at b2; simpa using b2
          have e3 : z.length = n := Nat.eq_of_beq_eq_true b3
          have e4 : 0 < n := by rw [blt_eq] at b4; simpa using b4
          obtain ⟨i, hi, hbytes⟩ := smallT_ok b5
          simp only [cond_true, Go1.val.injEq] at hm
          obtain ⟨rfl, rfl⟩ := hm
          obtain ⟨zv, h1, h2, h3⟩ := zeroC_ok (P := P) (E := E) (w := w) hz β
          have hzs : zv.cells.size = n := by rw [← e3]; have := h2.length; simpa using this.symm
          obtain ⟨r1, r2⟩ := rep_ok h2 h3 cn
          have wc : IntKind.i64.wrap (cn : Int) = cn := by simp [IntKind.wrap, IntKind.bits, IntKind.signed]; omega
          have wl : IntKind.i64.wrap (ln : Int) = ln := by simp [IntKind.wrap, IntKind.bits, IntKind.signed]; omega
          have hmul : i.bytes * cn ≤ 1048576 * 1048576 := Nat.mul_le_mul hbytes (by omega)
          have hnot : ¬ (((decide ((cn : Int) < 0) || decide ((i.bytes : Int) * cn > 2 ^ 48)) || decide ((ln : Int) < 0) || decide ((ln : Int) > cn)) = true) := by
            simp only [Bool.or_eq_true, decide_eq_true_eq, not_or]
            refine ⟨⟨⟨by omega, ?_⟩, by omega⟩, by omega⟩
            have : (i.bytes : Int) * cn = ((i.bytes * cn : Nat) : Int) := by simp
            rw [this]; omega
          by_cases h0 : cn * n = 0
          · have hcn0 : cn = 0 := by
              rcases Nat.mul_eq_zero.1 h0 with h | h
              · exact h
              · omega
            subst hcn0
            refine ⟨fun id => .sli id 0 ln 0, .cells (rep z 0), rfl, rfl, fresh_row (t := e) (ws := ((Array.range (0 * n)).map (fun i => (#[] : Array Value)[i % (#[] : Array Value).size]!))) (by simpa using r1) r2 ?_ fun β' id hb => .sli _ _ _ _ _ _ _ hb⟩
            simp only [Instr.makeSlice, Sem.run_bind, run_und hu, asInt, asIntOf, Sem.run_pure, Result.andThen_ok, typeInfo, run_program, hi, wc, wl]
            rw [if_neg (by simpa using hnot)]
            simp only [Sem.run_bind, run_askRoom, Result.andThen_ok, szO_run hn, Int.toNat_natCast, Nat.zero_mul, if_true, Sem.run_pure]
            rfl
          · refine ⟨fun id => .sli id 0 ln cn, .cells (rep z cn), rfl, rfl, fresh_row (t := e) (ws := ((Array.range (cn * n)).map (fun i => zv.cells[i % zv.cells.size]!))) (by
              have := zeros_eq zv.cells (by omega) cn
              rw [← hzs, this]; exact r1) r2 ?_ fun β' id hb => .sli _ _ _ _ _ _ _ hb⟩
            simp only [Instr.makeSlice, Sem.run_bind, run_und hu, asInt, asIntOf, Sem.run_pure, Result.andThen_ok, typeInfo, run_program, hi, wc, wl]
            rw [if_neg (by simpa using hnot)]
            simp only [Sem.run_bind, run_askRoom, Result.andThen_ok, szO_run hn, Int.toNat_natCast, h0, if_false, Sem.run_pure, h1]
            rfl
      · cases hm
    · cases hm
  · cases hm

/-- What makes memory: it has a name of its own, whatever that is. -/
theorem new_ok (hT : TR E β T a) {o : Oper} (hn : isNew o.op = true) {id : Nat} {r : SV} {b : Blk} (ho : newA P G id T o.op = some (r, b)) :
    ∃ s mk, execOp a.eval o = (do pure (.value (← s))) ∧ r = mk id ∧ Fresh P E β w s mk b := by
  obtain ⟨dst, op, type, pos, after, guard⟩ := o
  simp only at hn ho ⊢
  unfold newA at ho
  have got : ∀ (c : Blk) (r1 : SV), (match (Go1.val r1 ((⟨.nil, id⟩ : Hp).new c)) with | .val v h => (match h.t.get id with | some b => some (v, b) | none => none) | _ => none) = some (r, b) → r1 = r ∧ c = b := by
    intro c r1 hq
    simp only [Hp.new, Tr.get_set, if_true, Option.some.injEq, Prod.mk.injEq] at hq
    exact hq
  cases op <;> (try (simp [isNew] at hn; done)) <;> simp only [opA] at ho <;> simp only [execOp]
  case alloc t =>
    unfold oAlloc at ho
    cases hz : zeroC P t with
    | none => rw [hz] at ho; cases ho
    | some z =>
      rw [hz] at ho
      obtain ⟨rfl, rfl⟩ := got _ _ ho
      exact ⟨_, fun id => .ptr id 0, rfl, rfl, alloc_fresh hz⟩
  case box t x =>
    unfold oBox at ho
    cases hx : evO T x with
    | none => rw [hx] at ho; cases ho
    | some v =>
      rw [hx] at ho
      simp only at ho
      cases hc : cellsOf v with
      | none => rw [hc] at ho; cases ho
      | some cs =>
        rw [hc] at ho
        obtain ⟨rfl, rfl⟩ := got _ _ ho
        exact ⟨_, fun id => .ptr id 0, rfl, rfl, box_fresh (evO_ok hT hx) hc⟩
  case buildSlice t len ps =>
    unfold oRow at ho
    cases hx : evPs T ps.toList with
    | none => rw [hx] at ho; cases ho
    | some l =>
      rw [hx] at ho
      simp only at ho
      cases hc : rowA P t len l with
      | none => rw [hc] at ho; cases ho
      | some cs =>
        rw [hc] at ho
        obtain ⟨rfl, rfl⟩ := got _ _ ho
        exact ⟨_, fun id => .sli id 0 len len, rfl, rfl, row_fresh (by simpa using evPs_ok hT hx) hc⟩
  case makeMap t x =>
    have fr : ∀ s : Sem Value, s.run P w = .ok (.map (some w.heap.size)) { w with heap := w.heap.push (.map #[] 0) } → Fresh P E β w s (fun id => .map id) (.mp [] 0) := fun s hs =>
      ⟨_, _, 0, hs, fun β' _ => ⟨#[], by simp, trivial, rfl⟩, fun β' id hb => .map _ _ _ hb⟩
    unfold oMap at ho
    cases x with
    | none =>
      obtain ⟨rfl, rfl⟩ := got _ _ ho
      exact ⟨_, fun id => .map id, rfl, rfl, fr _ rfl⟩
    | some x =>
      simp only at ho
      cases hu : P.underlying t with
      | none => rw [hu] at ho; cases ho
      | some tt =>
        cases hx : evO T x with
        | none => rw [hu, hx] at ho; cases tt <;> cases ho
        | some z =>
          rw [hu, hx] at ho
          cases tt <;> first | (cases ho; done) | skip
          cases z <;> first | (cases ho; done) | skip
          obtain ⟨rfl, rfl⟩ := got _ _ ho
          refine ⟨_, fun id => .map id, rfl, rfl, fr _ ?_⟩
          have := evO_ok hT hx
          generalize hvx : a.eval x = vx at this
          cases this
          simp [Instr.makeMap, run_und hu, asInt, asIntOf, hvx]
          try rfl
  case makeSlice t l c =>
    unfold oMake at ho
    cases hl : evO T l with
    | none => rw [hl] at ho; cases ho
    | some u =>
      cases hc : evO T c with
      | none => rw [hl, hc] at ho; cases ho
      | some v =>
        rw [hl, hc] at ho
        simp only at ho
        cases hm : makeSl P (⟨.nil, id⟩ : Hp) t u v with
        | val r1 h1 =>
          rw [hm] at ho
          obtain ⟨mk, c1, rfl, rfl, hf⟩ := make_fresh (P := P) (w := w) (evO_ok hT hl) (evO_ok hT hc) hm
          obtain ⟨rfl, rfl⟩ := got _ _ ho
          exact ⟨_, mk, rfl, rfl, hf⟩
        | no => rw [hm] at ho; cases ho
        | sk h' => rw [hm] at ho; cases ho
        | call f args => rw [hm] at ho; cases ho
end
end
end Go.Proofs.YtgfahpnndmocbaaGreatDoor.Sx
