/-
  Regions that draw their order: what the plan says.
-/
import Derived.Test.YtgfahpnndmocbaaGreatDoorSx15
namespace Go.Proofs.YtgfahpnndmocbaaGreatDoor.Sx
noncomputable section
open Go Go.RowKit
set_option linter.unusedVariables false
set_option linter.unnecessarySimpa false
set_option linter.unusedSimpArgs false

theorem mem_memN {n : Nat} {l : List Nat} : memN n l = true ↔ n ∈ l := by
  rw [memN_eq]; simp
theorem mem_unionN {x : Nat} : ∀ {l m : List Nat}, x ∈ unionN l m ↔ x ∈ l ∨ x ∈ m
  | [], m => by simp [unionN]
  | y :: l, m => by
    simp only [unionN]
    cases hy : memN y m
    · simp only [cond_false, List.mem_cons, mem_unionN]
      exact ⟨fun h => by rcases h with h | h | h <;> simp [h], fun h => by rcases h with (h | h) | h <;> simp [h]⟩
    · simp only [cond_true, mem_unionN, List.mem_cons]
      have := mem_memN.1 hy
      exact ⟨fun h => by rcases h with h | h <;> simp [h], fun h => by
        rcases h with (rfl | h) | h
        · exact .inr this
        · exact .inl h
        · exact .inr h⟩
theorem mem_aheadOf {bs : List (List Nat)} {x : Nat} : ∀ {l : List Nat}, x ∈ aheadOf bs l → ∃ d ∈ l, x = d ∨ ∃ b : List Nat, bs[d]? = some b ∧ x ∈ b
  | [], h => by simp [aheadOf] at h
  | d :: l, h => by
    simp only [aheadOf, mem_unionN, List.mem_cons] at h
    rcases h with (rfl | h) | h
    · exact ⟨x, by simp, .inl rfl⟩
    · rw [lget_eq] at h
      cases hb : bs[d]? with
      | none => rw [hb] at h; simp at h
      | some b => rw [hb] at h; exact ⟨d, by simp, .inr ⟨b, hb, h⟩⟩
    · obtain ⟨e, he, k⟩ := mem_aheadOf h
      exact ⟨e, by simp [he], k⟩

theorem aheads_spec : ∀ (l : List Oper) (acc : List (List Nat)), ∃ r : List (List Nat), aheads l acc = acc ++ r ∧ r.length = l.length ∧
    ∀ (q : Nat) (o : Oper), l[q]? = some o → (acc ++ r)[acc.length + q]? = some (aheadOf ((acc ++ r).take (acc.length + q)) (direct o))
  | [], acc => ⟨[], by simp [aheads], rfl, fun q o h => by simp at h⟩
  | o :: l, acc => by
    obtain ⟨r, h1, h2, h3⟩ := aheads_spec l (acc ++ [aheadOf acc (direct o)])
    refine ⟨aheadOf acc (direct o) :: r, by simp [aheads, h1], by simp [h2], fun q o' hq => ?_⟩
    cases q with
    | zero =>
      simp at hq; subst hq
      simp
    | succ q =>
      simp at hq
      have := h3 q o' hq
      have e1 : acc ++ [aheadOf acc (direct o)] ++ r = acc ++ aheadOf acc (direct o) :: r := by simp
      rw [e1] at this
      have e2 : (acc ++ [aheadOf acc (direct o)]).length + q = acc.length + (q + 1) := by simp; omega
      rw [e2] at this
      exact this

/-- What must come ahead of each operation. -/
structure Bs (ops : List Oper) (bs : List (List Nat)) : Prop where
  len : bs.length = ops.length
  direct : ∀ (i : Nat) (o : Oper) (b : List Nat) (j : Nat), ops[i]? = some o → bs[i]? = some b → j ∈ b → ∃ d ∈ direct o, j = d ∨ ∃ c, bs[d]? = some c ∧ j ∈ c
  lt : ∀ (i : Nat) (b : List Nat) (j : Nat), bs[i]? = some b → j ∈ b → j < i
  back : ∀ (i : Nat) (o : Oper) (d : Nat), ops[i]? = some o → d ∈ Sx.direct o → d < i

theorem backOk_spec : ∀ (l : List Oper) (i : Nat), backOk l i = true → ∀ (q : Nat) (o : Oper) (d : Nat), l[q]? = some o → d ∈ direct o → d < i + q
  | [], i, _, q, o, d, h, _ => by simp at h
  | o :: l, i, h, q, o', d, hq, hd => by
    simp only [backOk, Bool.and_eq_true] at h
    cases q with
    | zero =>
      simp at hq; subst hq
      have := List.all_eq_true.1 h.1 d hd
      rw [blt_eq] at this
      simpa using this
    | succ q =>
      simp at hq
      have := backOk_spec l (Nat.succ i) h.2 q o' d hq hd
      omega

theorem planBs {ops : List Oper} (h : backOk ops 0 = true) : Bs ops (aheads ops []) := by
  obtain ⟨r, h1, h2, h3⟩ := aheads_spec ops []
  simp only [List.nil_append] at h1 h3
  have hb : ∀ (i : Nat) (o : Oper) (d : Nat), ops[i]? = some o → d ∈ direct o → d < i := fun i o d ho hd => by have := backOk_spec ops 0 h i o d ho hd; omega
  have hd : ∀ (i : Nat) (o : Oper) (b : List Nat) (j : Nat), ops[i]? = some o → r[i]? = some b → j ∈ b → ∃ d ∈ direct o, j = d ∨ ∃ c, r[d]? = some c ∧ j ∈ c := by
    intro i o b j ho hbi hj
    have := h3 i o ho
    simp only [List.length_nil, Nat.zero_add] at this
    rw [hbi] at this
    simp only [Option.some.injEq] at this
    rw [this] at hj
    obtain ⟨d, hd, k⟩ := mem_aheadOf hj
    refine ⟨d, hd, k.imp id fun ⟨c, hc, hx⟩ => ⟨c, ?_, hx⟩⟩
    rw [List.getElem?_take] at hc
    split at hc
    · exact hc
    · cases hc
  rw [h1]
  refine ⟨h2, hd, ?_, hb⟩
  intro i
  induction i using Nat.strongRecOn with
  | _ i ih =>
    intro b j hbi hj
    have hlt : i < ops.length := by rw [← h2]; exact (List.getElem?_eq_some_iff.1 hbi).1
    obtain ⟨d, hd', k⟩ := hd i ops[i] b j (List.getElem?_eq_getElem hlt) hbi hj
    have hdi := hb i ops[i] d (List.getElem?_eq_getElem hlt) hd'
    rcases k with rfl | ⟨c, hc, hx⟩
    · exact hdi
    · have := ih d hdi c j hc hx; omega

theorem effsOf_spec : ∀ (l : List Oper) (i : Nat) (e : Nat), e ∈ effsOf l i ↔ ∃ (q : Nat) (o : Oper), l[q]? = some o ∧ isEff o.op = true ∧ e = i + q
  | [], i, e => by simp [effsOf]
  | o :: l, i, e => by
    simp only [effsOf]
    cases h : isEff o.op
    · simp only [cond_false]
      rw [effsOf_spec l (Nat.succ i) e]
      constructor
      · rintro ⟨q, o', h1, h2, rfl⟩; exact ⟨q + 1, o', by simpa using h1, h2, by omega⟩
      · rintro ⟨q, o', h1, h2, rfl⟩
        cases q with
        | zero => simp at h1; subst h1; rw [h] at h2; cases h2
        | succ q => exact ⟨q, o', by simpa using h1, h2, by omega⟩
    · simp only [cond_true, List.mem_cons]
      rw [effsOf_spec l (Nat.succ i) e]
      constructor
      · rintro (rfl | ⟨q, o', h1, h2, rfl⟩)
        · exact ⟨0, o, by simp, h, by omega⟩
        · exact ⟨q + 1, o', by simpa using h1, h2, by omega⟩
      · rintro ⟨q, o', h1, h2, rfl⟩
        cases q with
        | zero => exact .inl (by omega)
        | succ q => exact .inr ⟨q, o', by simpa using h1, h2, by omega⟩
theorem effsOf_sorted : ∀ (l : List Oper) (i : Nat), (effsOf l i).Pairwise (· < ·) ∧ ∀ e ∈ effsOf l i, i ≤ e
  | [], i => by simp [effsOf]
  | o :: l, i => by
    obtain ⟨h1, h2⟩ := effsOf_sorted l (Nat.succ i)
    simp only [effsOf]
    cases h : isEff o.op
    · simp only [cond_false]
      exact ⟨h1, fun e he => by have := h2 e he; omega⟩
    · simp only [cond_true]
      refine ⟨List.pairwise_cons.2 ⟨fun e he => by have := h2 e he; omega, h1⟩, fun e he => ?_⟩
      rcases List.mem_cons.1 he with rfl | he
      · exact Nat.le_refl _
      · have := h2 e he; omega

/-- of two effects of which none stands between, the earlier one must come ahead of the later one -/
theorem chain_spec {bs : List (List Nat)} : ∀ {es : List Nat}, es.Pairwise (· < ·) → chainOk bs es = true → ∀ f ∈ es, (∀ e ∈ es, ¬ e < f) ∨ ∃ e ∈ es, e < f ∧ (∀ g ∈ es, g < f → g ≤ e) ∧ ∃ b, bs[f]? = some b ∧ e ∈ b
  | [], _, _, f, hf => by simp at hf
  | [e], _, _, f, hf => by simp at hf; subst hf; exact .inl (by simp)
  | e :: f :: es, hp, hc, g, hg => by
    simp only [chainOk, Bool.and_eq_true] at hc
    obtain ⟨hp1, hp2⟩ := List.pairwise_cons.1 hp
    rcases List.mem_cons.1 hg with rfl | hg
    · exact .inl fun x hx hlt => by
        rcases List.mem_cons.1 hx with rfl | hx
        · omega
        · have := hp1 x hx; omega
    · rcases chain_spec hp2 hc.2 g hg with k | ⟨x, hx, hlt, hmax, hb⟩
      · -- g is the first of the rest
        have hgf : g = f := by
          rcases List.mem_cons.1 hg with rfl | hg'
          · rfl
          · have := (List.pairwise_cons.1 hp2).1 g hg'
            exact absurd this (k f (by simp))
        subst hgf
        refine .inr ⟨e, by simp, hp1 g (by simp), fun y hy hyg => ?_, ?_⟩
        · rcases List.mem_cons.1 hy with rfl | hy
          · exact Nat.le_refl _
          · exact absurd hyg (k y hy)
        · have hc1 := hc.1
          rw [lget_eq] at hc1
          cases hb : bs[g]? with
          | none => rw [hb] at hc1; cases hc1
          | some b => rw [hb] at hc1; exact ⟨b, rfl, mem_memN.1 hc1⟩
      · refine .inr ⟨x, by simp [hx], hlt, fun y hy hyg => ?_, hb⟩
        rcases List.mem_cons.1 hy with rfl | hy
        · have := hp1 x hx; omega
        · exact hmax y hy hyg

theorem dstsOf_mem {ops : List Oper} {d : Nat} : d ∈ dstsOf ops ↔ ∃ (i : Nat) (o : Oper), ops[i]? = some o ∧ o.dst = some d := by
  induction ops with
  | nil => simp [dstsOf]
  | cons o l ih =>
    simp only [dstsOf]
    constructor
    · intro h
      split at h
      · rename_i d' hd
        rcases List.mem_cons.1 h with rfl | h
        · exact ⟨0, o, by simp, hd⟩
        · obtain ⟨i, o', h1, h2⟩ := ih.1 h; exact ⟨i + 1, o', by simpa using h1, h2⟩
      · obtain ⟨i, o', h1, h2⟩ := ih.1 h; exact ⟨i + 1, o', by simpa using h1, h2⟩
    · rintro ⟨i, o', h1, h2⟩
      cases i with
      | zero => simp at h1; subst h1; rw [h2]; simp
      | succ i =>
        have := ih.2 ⟨i, o', by simpa using h1, h2⟩
        split <;> simp [this]
theorem distinct_spec {ops : List Oper} (h : distinctN (dstsOf ops) = true)  : ∀ (i j : Nat) (o p : Oper) (d : Tmp), ops[i]? = some o → ops[j]? = some p → o.dst = some d → p.dst = some d → i = j := by
  induction ops with
  | nil => intro i j o p d h1; simp at h1
  | cons q l ih =>
    have hl : distinctN (dstsOf l) = true ∧ ∀ d, q.dst = some d → d ∉ dstsOf l := by
      simp only [dstsOf] at h
      split at h
      · rename_i d hd
        simp only [distinctN, Bool.and_eq_true, Bool.not_eq_true'] at h
        refine ⟨h.2, fun d' hd' hm => ?_⟩
        rw [hd] at hd'; cases hd'
        have := mem_memN.2 hm
        rw [h.1] at this; cases this
      · rename_i hd
        exact ⟨h, fun d' hd' => by rw [hd] at hd'; cases hd'⟩
    intro i j o p d h1 h2 h3 h4
    cases i with
    | zero =>
      simp at h1; subst h1
      cases j with
      | zero => rfl
      | succ j => simp at h2; exact absurd (dstsOf_mem.2 ⟨j, p, h2, h4⟩) (hl.2 d h3)
    | succ i =>
      simp at h1
      cases j with
      | zero => simp at h2; subst h2; exact absurd (dstsOf_mem.2 ⟨i, o, h1, h3⟩) (hl.2 d h4)
      | succ j => simp at h2; rw [ih hl.1 i j o p d h1 h2 h3 h4]

theorem ssaAt_spec {bs : List (List Nat)} {strict : Bool} {i : Nat} {b ls : List Nat} : ∀ (l : List Oper) (j : Nat), ssaAt bs strict i b ls l j = true → ∀ (q : Nat) (p : Oper) (d : Tmp), l[q]? = some p → p.dst = some d → d ∈ ls →
    (j + q ∈ b) ∨ (strict = false ∧ ∃ c, bs[j + q]? = some c ∧ i ∈ c)
  | [], j, _, q, p, d, h, _, _ => by simp at h
  | p0 :: l, j, h, q, p, d, hq, hd, hm => by
    simp only [ssaAt, Bool.and_eq_true] at h
    cases q with
    | zero =>
      simp at hq; subst hq
      rw [hd] at h
      simp only [mem_memN.2 hm, cond_true, Bool.or_eq_true, Bool.and_eq_true, Bool.not_eq_true'] at h
      rcases h.1 with h1 | ⟨h1, h2⟩
      · exact .inl (by simpa using mem_memN.1 h1)
      · rw [lget_eq] at h2
        cases hb : bs[j]? with
        | none => rw [hb] at h2; cases h2
        | some c => rw [hb] at h2; exact .inr ⟨h1, c, by simpa using hb, mem_memN.1 h2⟩
    | succ q =>
      simp at hq
      have := ssaAt_spec l (Nat.succ j) h.2 q p d hq hd hm
      rw [show j + (q + 1) = j.succ + q by omega]
      exact this
theorem allSsa_spec {ops : List Oper} {bs : List (List Nat)} : ∀ (l : List Oper) (i : Nat), allSsa ops bs l i = true → ∀ (q : Nat) (o : Oper), l[q]? = some o → isRange o.op = false ∧ ∃ b, bs[i + q]? = some b ∧ ssaAt bs (isRead o.op && !isEff o.op) (i + q) b (looks ops o) ops 0 = true
  | [], i, _, q, o, h => by simp at h
  | o0 :: l, i, h, q, o, hq => by
    simp only [allSsa, Bool.and_eq_true, Bool.not_eq_true'] at h
    cases q with
    | zero =>
      simp at hq; subst hq
      refine ⟨h.1.2, ?_⟩
      have h1 := h.1.1
      rw [lget_eq] at h1
      cases hb : bs[i]? with
      | none => rw [hb] at h1; cases h1
      | some b => rw [hb] at h1; exact ⟨b, by simpa using hb, by simpa using h1⟩
    | succ q =>
      simp at hq
      have := allSsa_spec l (Nat.succ i) h.2 q o hq
      rw [show i + (q + 1) = i.succ + q by omega]
      exact this

/-- All that a sound plan says. -/
structure Plan (ops : List Oper) (bs : List (List Nat)) : Prop extends Bs ops bs where
  chain : ∀ (f : Nat) (o : Oper), ops[f]? = some o → isEff o.op = true → (∀ (e : Nat) (p : Oper), ops[e]? = some p → isEff p.op = true → ¬ e < f) ∨
    ∃ (e : Nat) (p : Oper), ops[e]? = some p ∧ isEff p.op = true ∧ e < f ∧ (∀ (g : Nat) (q : Oper), ops[g]? = some q → isEff q.op = true → g < f → g ≤ e) ∧ ∃ b, bs[f]? = some b ∧ e ∈ b
  once  : ∀ (i j : Nat) (o p : Oper) (d : Tmp), ops[i]? = some o → ops[j]? = some p → o.dst = some d → p.dst = some d → i = j
  ssa : ∀ (i : Nat) (o : Oper), ops[i]? = some o → isRange o.op = false ∧ ∃ b : List Nat, bs[i]? = some b ∧ ∀ (j : Nat) (p : Oper) (d : Tmp), ops[j]? = some p → p.dst = some d → d ∈ looks ops o → j ∈ b ∨ ((isRead o.op && !isEff o.op) = false ∧ ∃ c, bs[j]? = some c ∧ i ∈ c)

theorem plan_ok {ops : List Oper} (h : planOk ops (planOf ops) = true) : Plan ops (planOf ops).bs := by
  unfold planOk at h
  simp only [Bool.and_eq_true] at h
  obtain ⟨⟨⟨h1, h2⟩, h3⟩, h4⟩ := h
  have hb : Bs ops (planOf ops).bs := planBs h1
  refine { hb with chain := ?_, once := distinct_spec h3, ssa := ?_ }
  · intro f o hf he
    have hs := effsOf_sorted ops 0
    have hfm : f ∈ effsOf ops 0 := (effsOf_spec ops 0 f).2 ⟨f, o, hf, he, by omega⟩
    rcases chain_spec hs.1 h2 f hfm with k | ⟨e, hem, hlt, hmax, hbb⟩
    · exact .inl fun e p hp hpe => k e ((effsOf_spec ops 0 e).2 ⟨e, p, hp, hpe, by omega⟩)
    · obtain ⟨q, p, hq, hqe, rfl⟩ := (effsOf_spec ops 0 e).1 hem
      simp only [Nat.zero_add] at *
      exact .inr ⟨q, p, hq, hqe, hlt, fun g r hr hre hgf => hmax g ((effsOf_spec ops 0 g).2 ⟨g, r, hr, hre, by omega⟩) hgf, hbb⟩
  · intro i o hi
    obtain ⟨k1, b, k2, k3⟩ := allSsa_spec ops 0 h4 i o hi
    simp only [Nat.zero_add] at k2 k3
    refine ⟨k1, b, k2, fun j p d hj hd hm => ?_⟩
    have := ssaAt_spec ops 0 k3 j p d hj hd hm
    simpa using this
end
end Go.Proofs.YtgfahpnndmocbaaGreatDoor.Sx
