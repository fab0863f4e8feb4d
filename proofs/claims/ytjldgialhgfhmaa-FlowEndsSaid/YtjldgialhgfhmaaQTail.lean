/- A region that draws its order: quiet operations, and behind all of them a tail in order. -/
import Derived.StillTail
import Derived.Deep.Quiet
import Derived.KernelRfl
namespace Go.Proofs.Ytjldgialhgfhmaa
open Go
set_option linter.unusedVariables false
set_option linter.unusedSimpArgs false
section
variable {P : Program} {md : Region.Mode} {C : World → Prop}
/-- The head's guards lie in the head. -/
def guardsB (l : List Oper) (n : Nat) : Bool := (l.take n).all fun o => match o.guard with | none => true | some g => decide (g.1 < n)
theorem head_get {l : List Oper} {n i : Nat} (h : i < n) : ((l.take n).toArray)[i]? = (l.toArray)[i]? := by
  simp [List.getElem?_take, h]
theorem ready_head {l : List Oper} {n : Nat} {listed lh : Array Bool} (hf : ∀ j, lh.getD j false = listed.getD j false) (ht : ∀ j, j < n → lh.getD j true = listed.getD j true) {i : Nat} (hi : i < n) (hn : n ≤ l.length) :
    i ∈ Region.ready md l.toArray listed ↔ i ∈ Region.ready md (l.take n).toArray lh := by
  have e : (fun e : Edge => !Region.binds md e || listed.getD e.on false) = (fun e : Edge => !Region.binds md e || lh.getD e.on false) := by
    funext e
    rw [hf]
  unfold Region.ready
  rw [List.mem_filter, List.mem_filter, head_get hi, ht i hi, e]
  simp
  omega
theorem yielded_head {l : List Oper} {n : Nat} {tmps : Array Value} {j : Nat} (h : j < n) : yielded (l.take n).toArray tmps j = yielded l.toArray tmps j := by
  unfold yielded
  rw [head_get h]
theorem wanted_head {l : List Oper} {n : Nat} {tmps : Array Value} {o : Oper} (ho : ∀ g, o.guard = some g → g.1 < n) : Region.wanted o (yielded (l.take n).toArray tmps) = Region.wanted o (yielded l.toArray tmps) := by
  unfold Region.wanted
  cases hg : o.guard with
  | none => rfl
  | some g =>
    simp only
    rw [yielded_head (ho g hg)]
theorem guard_lt {l : List Oper} {n i : Nat} {o : Oper} (hB : guardsB l n = true) (hi : i < n) (ho : (l.toArray)[i]? = some o) : ∀ g, o.guard = some g → g.1 < n := by
  intro g hg
  rw [← head_get hi] at ho
  have hm : o ∈ l.take n := by
    have := Array.mem_of_getElem? ho
    simpa using this
  have h := List.all_eq_true.1 hB o hm
  rw [hg] at h
  simpa using h
/-- Each operation waits for earlier ones alone. -/
def backB (ops : Array Oper) : Bool := (List.range ops.size).all fun i => match ops[i]? with | none => true | some o => o.after.all fun e => decide (e.on < i)
theorem backB_spec {ops : Array Oper} (h : backB ops = true) : ∀ (i : Nat) (o : Oper), ops[i]? = some o → ∀ e ∈ o.after, e.on < i := by
  intro i o ho e he
  have hi := (Array.getElem?_eq_some_iff.1 ho).1
  have h1 := List.all_eq_true.1 h i (List.mem_range.2 hi)
  rw [ho] at h1
  have h2 := Array.all_eq_true_iff_forall_mem.1 h1 e he
  simpa using h2
theorem ready_none {ops : Array Oper} {listed : Array Bool} (hs : listed.size = ops.size) (hback : ∀ (i : Nat) (o : Oper), ops[i]? = some o → ∀ e ∈ o.after, e.on < i) (h : Region.ready md ops listed = []) : ∀ i, i < ops.size → listed.getD i true = true := by
  intro i
  induction i using Nat.strongRecOn with
  | ind i ih =>
    intro hi
    cases hl : listed.getD i true with
    | true => rfl
    | false =>
      exfalso
      have : i ∈ Region.ready md ops listed := by
        unfold Region.ready
        rw [List.mem_filter]
        refine ⟨by simpa using hi, ?_⟩
        rw [hl, Array.getElem?_eq_getElem hi]
        simp only [Bool.not_false, Bool.true_and, Option.map_some, Option.getD_some]
        rw [Array.all_eq_true_iff_forall_mem]
        intro e he
        have hb := hback i _ (Array.getElem?_eq_getElem hi) e he
        have h2 := ih _ hb (by omega)
        have hlt : e.on < listed.size := by omega
        rw [Array.getD_eq_getD_getElem?, Array.getElem?_eq_getElem hlt] at h2 ⊢
        simp only [Option.getD_some] at h2 ⊢
        rw [h2]; simp
      rw [h] at this
      cases this
theorem wpAny_of_headQ {l : List Oper} {n g : Nat} {Qh : Act → Prop} {Q' : Exit → Act → World → Prop} (hs : Region.sinkB md l.toArray n = true) (hc : Region.chainB md l.toArray n = true) (hn : n < l.length) (hB : guardsB l n = true) (hbk : backB (l.take n).toArray = true)
    (hQ : ∀ a w listed, C w → HeadInv md l.toArray n listed → (∀ j, j < n → listed.getD j false = true) → Qh a → wpAny P md l.toArray Q' g listed a w) :
    ∀ (f : Nat) (listed lh : Array Bool) (a : Act) (w : World), HeadInv md l.toArray n listed → lh.size = n → (∀ j, lh.getD j false = listed.getD j false) → (∀ j, j < n → lh.getD j true = listed.getD j true) → lh.toList.count false = f → C w →
      wpAnyQ P md (l.take n).toArray C Qh f lh a → wpAny P md l.toArray Q' (f + g) listed a w := by
  intro f
  induction f with
  | zero =>
    intro listed lh a w inv hsz hf ht hcnt hw h
    rw [Nat.zero_add]
    refine hQ a w listed hw inv (fun j hj => ?_) h.2
    have hlt : j < lh.size := by omega
    rw [← hf]
    rw [Array.getD_eq_getD_getElem?, Array.getElem?_eq_getElem hlt, Option.getD_some]
    cases e : lh[j] with
    | true => rfl
    | false =>
      have hm : false ∈ lh.toList := by
        rw [← e]
        exact Array.mem_toList_iff.2 (Array.getElem_mem hlt)
      have := List.count_pos_iff.2 hm
      omega
  | succ f ih =>
    intro listed lh a w inv hsz hf ht hcnt hw h
    rw [show f + 1 + g = (f + g) + 1 by omega]
    obtain ⟨i0, hi0, hun⟩ : ∃ i, i < n ∧ listed.getD i true = false := by
      have hm : false ∈ lh.toList := List.count_pos_iff.1 (by omega)
      obtain ⟨i, hi, e⟩ := List.getElem_of_mem hm
      have hi' : i < lh.size := by simpa using hi
      refine ⟨i, by omega, ?_⟩
      rw [← ht i (by omega), Array.getD_eq_getD_getElem?, Array.getElem?_eq_getElem hi', Option.getD_some]
      simpa using e
    have hlt : ∀ i, i ∈ Region.ready md l.toArray listed → i < n := fun i hi => by
      rcases Nat.lt_or_ge i n with h1 | h1
      · exact h1
      · exact absurd hi (tail_waits hs hc (by simpa using hn) inv _ i0 rfl hi0 hun i h1)
    refine ⟨fun h0 => ?_, fun i hi => ?_⟩
    · exfalso
      have hr : Region.ready md (l.take n).toArray lh = [] := by
        rw [List.eq_nil_iff_forall_not_mem]
        intro i hi
        have hin : i < n := by
          have := (mem_ready.1 hi).1
          rcases Nat.lt_or_ge i n with h1 | h1
          · exact h1
          · rw [Array.getD_eq_getD_getElem?, Array.getElem?_eq_none (by omega)] at this
            cases this
        have := (ready_head hf ht hin (by omega)).2 hi
        rw [h0] at this
        cases this
      have hall := ready_none (by simp; omega) (backB_spec hbk) hr i0 (by simp; omega)
      rw [ht i0 hi0, hun] at hall
      cases hall
    · have hin := hlt i hi
      have hq := h.2 i ((ready_head hf ht hin (by omega)).1 hi)
      have hlh : lh[i]? = some false := by
        have h1 := (mem_ready.1 hi).1
        rw [← ht i hin, Array.getD_eq_getD_getElem?] at h1
        have hlt : i < lh.size := by omega
        rw [Array.getElem?_eq_getElem hlt] at h1 ⊢
        simpa using h1
      have hstep : ∀ a' w', C w' → wpAnyQ P md (l.take n).toArray C Qh f (lh.setIfInBounds i true) a' → wpAny P md l.toArray Q' (f + g) (listed.setIfInBounds i true) a' w' := fun a' w' hw' h' => by
        refine ih _ _ a' w' (inv.set hi hin) (by simpa using hsz) (fun j => ?_) (fun j hj => ?_) ?_ hw' h'
        · have hli : i < listed.size := by rw [inv.size]; simp; omega
          have hlhi : i < lh.size := by omega
          by_cases hij : i = j
          · subst hij
            simp [Array.getD_eq_getD_getElem?, hli, hlhi]
          · rw [getD_set_ne false hij, getD_set_ne false hij]; exact hf j
        · have hli : i < listed.size := by rw [inv.size]; simp; omega
          have hlhi : i < lh.size := by omega
          by_cases hij : i = j
          · subst hij
            simp [Array.getD_eq_getD_getElem?, hli, hlhi]
          · rw [getD_set_ne true hij, getD_set_ne true hij]; exact ht j hj
        · have hlt : i < lh.size := by omega
          have e : (lh.setIfInBounds i true).toList = lh.toList.set i true := by simp
          rw [e, List.count_set (by simpa using hlt)]
          have h3 : lh.toList[i]'(by simpa using hlt) = false := by
            rw [Array.getElem?_eq_getElem hlt] at hlh
            simpa using hlh
          rw [h3, hcnt]
          simp
      unfold qOp at hq
      rw [head_get hin] at hq
      unfold wpOp
      cases ho : (l.toArray)[i]? with
      | none =>
        rw [ho] at hq
        exact hstep a w hw hq
      | some o =>
        rw [ho] at hq
        simp only at hq ⊢
        rw [wanted_head (guard_lt hB hin ho)] at hq
        split
        · rename_i hwt
          simp only [hwt, if_true] at hq
          exact .inl (Oper.wp_of_quiet hw hstep hq)
        · rename_i hwt
          simp only [hwt] at hq
          exact hstep _ w hw hq
/-- One walk of the head in the text's order, then the tail, in any world of the class. -/
theorem wp_region_quiet_tail {id : Nat} {Q : Exit → Act → World → Prop} {a : Act} {w : World} {l : List Oper} (n : Nat) (hm : P.follows .mixedOrders = true)
    (hB : (Region.lexB .any (l.take n).toArray && guardsB l n && backB (l.take n).toArray && decide (n < l.length) && Region.sinkB .any l.toArray n && Region.chainB .any l.toArray n && Region.seqB .any l.toArray (l.length - n) n ((Array.replicate n true) ++ (Array.replicate (l.length - n) false))) = true) (hC : C w.drew)
    (h : wpQuiet P (l.take n).toArray C (fun a' => ∀ w', C w' → wpList P l.toArray Q (l.drop n) a' w') (l.take n) a) : (Code.region id l.toArray true).wp P Q a w := by
  simp only [Bool.and_eq_true, decide_eq_true_eq] at hB
  obtain ⟨⟨⟨⟨⟨⟨hlex, hg⟩, hbk⟩, hn⟩, hs⟩, hc⟩, hsq⟩ := hB
  simp only [Region.lexB, Bool.and_eq_true] at hlex
  have htl : (l.take n).length = n := by simp; omega
  refine wp_region_any hm ?_
  have inv0 : HeadInv .any l.toArray n (Array.replicate l.toArray.size false) :=
    ⟨by simp, fun j oj _ hl => (by rw [getD_replicate_false] at hl; cases hl), fun t _ ht => getD_in (by simpa using ht) (getD_replicate_false _ _)⟩
  have hq := wpAnyQ_lex (C := C) (P := P) (md := .any) (ops := (l.take n).toArray) hlex.1 (l.take n) 0 (Array.replicate n false) a (by simp) (by simpa [htl] using hlex.2) h
  rw [htl] at hq
  have := wpAny_of_headQ (md := .any) (C := C) (P := P) (g := l.length - n) (Q' := Q) (Qh := fun a' => ∀ w', C w' → wpList P l.toArray Q (l.drop n) a' w') hs hc hn hg hbk (fun a' w' listed hw' inv hall hQ => ?_) n (Array.replicate l.toArray.size false) (Array.replicate n false) a w.drew inv0 (by simp)
    (fun j => by rw [getD_replicate_false, getD_replicate_false]) (fun j hj => by simp [Array.getD_eq_getD_getElem?, Array.getElem?_replicate, hj, show j < l.length by omega]) (by simp [List.count_replicate]) hC hq
  · rw [show n + (l.length - n) = l.toArray.size by simp; omega] at this
    exact this
  · have e : listed = (Array.replicate n true) ++ (Array.replicate (l.length - n) false) := by
      apply Array.ext
      · rw [inv.size]; simp; omega
      · intro j hj1 hj2
        rw [inv.size] at hj1
        by_cases hjn : j < n
        · have h1 := hall j hjn
          rw [Array.getD_eq_getD_getElem?, Array.getElem?_eq_getElem (by rw [inv.size]; exact hj1), Option.getD_some] at h1
          rw [h1, Array.getElem_append_left (by simpa using hjn)]
          simp
        · have h1 := inv.tail j (by omega) hj1
          rw [Array.getD_eq_getD_getElem?, Array.getElem?_eq_getElem (by rw [inv.size]; exact hj1), Option.getD_some] at h1
          rw [h1, Array.getElem_append_right (by simp; omega)]
          simp
    have := wpAny_of_seq (md := .any) (Q' := Q) (l.drop n) n listed a' w' (fun j => by simp [List.getElem?_drop]) (by rw [List.length_drop, e]; exact hsq) (hQ w' hw')
    rwa [List.length_drop] at this
end
end Go.Proofs.Ytjldgialhgfhmaa
