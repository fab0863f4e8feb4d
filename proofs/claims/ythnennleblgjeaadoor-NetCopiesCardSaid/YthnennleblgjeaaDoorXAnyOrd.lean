/- A statement whose parts are done in any order: an invariant that each part keeps. -/
import Derived.Orders
import Derived.Deep.Draws
import Derived.KernelRfl
namespace Go.Proofs.YthnennleblgjeaaDoor
set_option linter.unusedVariables false
set_option linter.unusedSimpArgs false
open Go
set_option linter.unusedVariables false
section
variable {P : Program} {ops : Array Oper} {Q : Exit → Act → World → Prop} {md : Region.Mode}
theorem ready_mem {listed : Array Bool} {i : Nat} (h : i ∈ Region.ready md ops listed) :
    i < ops.size ∧ listed.getD i true = false ∧ ∀ o : Oper, ops[i]? = some o → ∀ e ∈ o.after, Region.binds md e = true → listed[e.on]? = some true := by
  unfold Region.ready at h
  rw [List.mem_filter] at h
  obtain ⟨h1, h2⟩ := h
  simp only [List.mem_range] at h1
  simp only [Bool.and_eq_true, Bool.not_eq_true'] at h2
  refine ⟨h1, h2.1, fun o ho e he hb => ?_⟩
  rw [ho] at h2
  simp only [Option.map_some, Option.getD_some] at h2
  have h3 := Array.all_eq_true_iff_forall_mem.1 h2.2 e he
  rw [hb] at h3
  simp only [Bool.not_true, Bool.false_or] at h3
  rw [Array.getD_eq_getD_getElem?] at h3
  cases hl : listed[e.on]? with
  | none => rw [hl] at h3; cases h3
  | some x => rw [hl] at h3; exact congrArg some h3
theorem ready_nil {listed : Array Bool} (hs : listed.size = ops.size) (hback : ∀ (i : Nat) (o : Oper), ops[i]? = some o → ∀ e ∈ o.after, e.on < i) (h : Region.ready md ops listed = []) : ∀ i, i < ops.size → listed.getD i true = true := by
  intro i
  induction i using Nat.strongRecOn with
  | ind i ih =>
    intro hi
    cases hl : listed.getD i true with
    | true => rfl
    | false =>
      exfalso
      have : i ∈ Region.ready md ops listed := by
        unfold Region.ready
        rw [List.mem_filter]
        refine ⟨by simpa using hi, ?_⟩
        rw [hl, Array.getElem?_eq_getElem hi]
        simp only [Bool.not_false, Bool.true_and, Option.map_some, Option.getD_some]
        rw [Array.all_eq_true_iff_forall_mem]
        intro e he
        have hb := hback i _ (Array.getElem?_eq_getElem hi) e he
        have h2 := ih _ hb (by omega)
        have hlt : e.on < listed.size := by omega
        rw [Array.getD_eq_getD_getElem?, Array.getElem?_eq_getElem hlt] at h2 ⊢
        simp only [Option.getD_some] at h2 ⊢
        rw [h2]; simp
      rw [h] at this
      cases this
theorem wpAny_inv (R : Array Bool → Act → World → Prop)
    (hstep : ∀ listed a w i, listed.size = ops.size → R listed a w → i ∈ Region.ready md ops listed → wpOp P ops Q i (R (listed.setIfInBounds i true)) a w)
    (hend : ∀ listed a w, listed.size = ops.size → R listed a w → Region.ready md ops listed = [] → Q .normal a w) :
    ∀ (fuel : Nat) (listed : Array Bool) (a : Act) (w : World), listed.size = ops.size → listed.toList.count false ≤ fuel → R listed a w → wpAny P md ops Q fuel listed a w := by
  intro fuel
  induction fuel with
  | zero =>
    intro listed a w hs hc hR
    have hr : Region.ready md ops listed = [] := by
      rw [List.eq_nil_iff_forall_not_mem]
      intro i hi
      obtain ⟨h1, h2, _⟩ := ready_mem hi
      have hlt : i < listed.size := by omega
      rw [Array.getD_eq_getD_getElem?, Array.getElem?_eq_getElem hlt, Option.getD_some] at h2
      have hm : false ∈ listed.toList := by
        rw [← h2]
        exact Array.mem_toList_iff.2 (Array.getElem_mem hlt)
      have := List.count_pos_iff.2 hm
      omega
    exact ⟨hr, hend listed a w hs hR hr⟩
  | succ fuel ih =>
    intro listed a w hs hc hR
    refine ⟨fun hr => hend listed a w hs hR hr, fun i hi => ?_⟩
    obtain ⟨h1, h2, _⟩ := ready_mem hi
    have hlt : i < listed.size := by omega
    refine wpOp_mono (fun a' w' hR' => ih _ a' w' (by simpa using hs) ?_ hR') (hstep listed a w i hs hR hi)
    have h2' : listed[i] = false := by rw [Array.getD_eq_getD_getElem?, Array.getElem?_eq_getElem hlt, Option.getD_some] at h2; exact h2
    have e : (listed.setIfInBounds i true).toList = listed.toList.set i true := by simp
    rw [e, List.count_set (by simpa using hlt)]
    have h3 : listed.toList[i]'(by simpa using hlt) = false := by simpa using h2'
    rw [h3]
    have hm : false ∈ listed.toList := by rw [← h3]; exact List.getElem_mem _
    have h4 := List.count_pos_iff.2 hm
    have e2 : ((false == false) = true) := rfl
    have e3 : ¬ ((true == false) = true) := by decide
    rw [if_pos e2, if_neg e3]
    omega
theorem wp_region_inv {id : Nat} {a : Act} {w : World} (hm : P.follows .mixedOrders = true) (R : Array Bool → Act → World → Prop)
    (hstart : R (Array.replicate ops.size false) a w.drew)
    (hstep : ∀ listed a w i, listed.size = ops.size → R listed a w → i ∈ Region.ready .any ops listed → wpOp P ops Q i (R (listed.setIfInBounds i true)) a w)
    (hend : ∀ listed a w, listed.size = ops.size → R listed a w → Region.ready .any ops listed = [] → Q .normal a w) :
    (Code.region id ops true).wp P Q a w :=
  wp_region_any hm (wpAny_inv R hstep hend _ _ _ _ (by simp) (by simp [List.count_replicate]) hstart)
end
end Go.Proofs.YthnennleblgjeaaDoor
