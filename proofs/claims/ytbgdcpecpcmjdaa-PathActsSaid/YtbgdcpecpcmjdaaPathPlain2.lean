/- Plain law of the path manager: how many pairs there are. -/
import Derived.Test.YtbgdcpecpcmjdaaPathPlain
namespace Go.Proofs.Ytbgdcpecpcmjdaa
set_option linter.unusedVariables false

theorem addrs_len_succ (p : Nat → Bool) (k : Nat) : (addrs p (k + 1)).length = (addrs p k).length + (if p k then 1 else 0) := by
  cases h : p k
  · rw [addrs_no h]; rfl
  · rw [addrs_yes h]; simp
theorem addrs_len_set {p q : Nat → Bool} {b : Nat} (hb : p b = false) (hq : q b = true) (hx : ∀ i, i ≠ b → q i = p i) (k : Nat) : (addrs q k).length = (addrs p k).length + (if b < k then 1 else 0) := by
  induction k with
  | zero => rfl
  | succ k ih =>
    rw [addrs_len_succ, addrs_len_succ, ih]
    by_cases e : k = b
    · subst e
      rw [hb, hq, if_neg (Nat.lt_irrefl _), if_pos (Nat.lt_succ_self _)]; rfl
    · rw [hx k e]
      by_cases h : b < k
      · have h2 : b < k + 1 := by omega
        simp only [h, h2, if_true]; omega
      · have h2 : ¬ b < k + 1 := by omega
        simp only [h, h2, if_false]; omega
theorem addrs_len_mono {p q : Nat → Bool} (k : Nat) (h : ∀ i, i < k → p i = true → q i = true) : (addrs p k).length ≤ (addrs q k).length := by
  induction k with
  | zero => exact Nat.le_refl _
  | succ k ih =>
    rw [addrs_len_succ, addrs_len_succ]
    have := ih (fun i hi => h i (by omega))
    cases e : p k
    · simp; omega
    · rw [h k (by omega) e]; omega
theorem addrs_len_none {p : Nat → Bool} (k : Nat) (h : ∀ i, i < k → p i = false) : (addrs p k).length = 0 := by
  induction k with
  | zero => rfl
  | succ k ih => rw [addrs_len_succ, ih (fun i hi => h i (by omega)), h k (by omega)]; rfl
theorem pairs_len_succ (L : List Bool) (k : Nat) : (pairsN L (k + 1)).length = (pairsN L k).length + (addrs (flowB L k) 4).length := by
  show (pairsN L k ++ _).length = _
  rw [List.length_append, List.length_map]
theorem pairs_len_congr {L L' : List Bool} (k : Nat) (h : ∀ a b, a < k → b < 4 → flowB L' a b = flowB L a b) : (pairsN L' k).length = (pairsN L k).length := by
  induction k with
  | zero => rfl
  | succ k ih =>
    rw [pairs_len_succ, pairs_len_succ, ih (fun a b ha hb => h a b (by omega) hb), addrs_congr (fun b hb => h k b (by omega) hb)]
theorem flow_set {L : List Bool} (hL : L.length = 24) {n k : Nat} (hn : n < 4) (hk : k < 4) (v : Bool) {a b : Nat} (ha : a < 4) (hb : b < 4) :
    flowB (L.set (8 + n * 4 + k) v) a b = if a = n ∧ b = k then v else flowB L a b := by
  unfold flowB
  rw [getD_set _ _ _ _ (by omega)]
  by_cases h : a = n ∧ b = k
  · rw [if_pos h, if_pos (by omega)]
  · rw [if_neg h, if_neg (by omega)]
theorem own_set {L : List Bool} (hL : L.length = 24) {n k : Nat} (hn : n < 4) (hk : k < 4) (v : Bool) {a : Nat} (ha : a < 4) : ownB (L.set (8 + n * 4 + k) v) a = ownB L a := by
  unfold ownB; rw [getD_set _ _ _ _ (by omega), if_neg (by omega)]
theorem oth_set {L : List Bool} (hL : L.length = 24) {n k : Nat} (hn : n < 4) (hk : k < 4) (v : Bool) {a : Nat} (ha : a < 4) : othB (L.set (8 + n * 4 + k) v) a = othB L a := by
  unfold othB; rw [getD_set _ _ _ _ (by omega), if_neg (by omega)]
theorem pairs_len_set {L : List Bool} (hL : L.length = 24) {n k : Nat} (hn : n < 4) (hk : k < 4) (hf : flowB L n k = false) (m : Nat) (hm : m ≤ 4) :
    (pairsN (L.set (8 + n * 4 + k) true) m).length = (pairsN L m).length + (if n < m then 1 else 0) := by
  induction m with
  | zero => rfl
  | succ m ih =>
    rw [pairs_len_succ, pairs_len_succ, ih (by omega)]
    by_cases e : m = n
    · subst e
      rw [if_neg (Nat.lt_irrefl _), if_pos (Nat.lt_succ_self _)]
      have h1 : (addrs (flowB (L.set (8 + m * 4 + k) true) m) 4).length = (addrs (fun b => if b = k then true else flowB L m b) 4).length :=
        congrArg List.length (addrs_congr fun b hb => by rw [flow_set hL hn hk true hn hb]; by_cases e : b = k <;> simp [e])
      rw [h1, addrs_len_set (p := flowB L m) (b := k) hf (by simp) (fun i hi => by simp [hi]), if_pos hk]
      omega
    · have h1 : addrs (flowB (L.set (8 + n * 4 + k) true) m) 4 = addrs (flowB L m) 4 :=
        addrs_congr fun b hb => by rw [flow_set hL hn hk true (by omega) hb, if_neg (fun h => e h.1)]
      rw [h1]
      by_cases h : n < m
      · have h2 : n < m + 1 := by omega
        simp only [h, h2, if_true]; omega
      · have h2 : ¬ n < m + 1 := by omega
        simp only [h, h2, if_false]; omega
/-- Flows are between addresses that were told. -/
def Sub (L : List Bool) : Prop := ∀ a b, a < 4 → b < 4 → flowB L a b = true → ownB L a = true ∧ othB L b = true
theorem sub_le {L : List Bool} (h : Sub L) (m : Nat) (hm : m ≤ 4) : (pairsN L m).length ≤ (addrs (ownB L) m).length * (addrs (othB L) 4).length := by
  induction m with
  | zero => simp [pairsN]
  | succ m ih =>
    rw [pairs_len_succ, addrs_len_succ (ownB L) m]
    have := ih (by omega)
    cases e : ownB L m
    · have : (addrs (flowB L m) 4).length = 0 := addrs_len_none 4 fun i hi => by
        cases hf : flowB L m i
        · rfl
        · have := (h m i (by omega) hi hf).1; rw [e] at this; cases this
      simp; omega
    · have h2 : (addrs (flowB L m) 4).length ≤ (addrs (othB L) 4).length := addrs_len_mono 4 fun i hi hf => (h m i (by omega) hi hf).2
      rw [if_pos rfl, Nat.add_mul, Nat.one_mul]; omega
theorem full_eq {L : List Bool} (h : Sub L) (hf : ∀ a b, a < 4 → b < 4 → ownB L a = true → othB L b = true → flowB L a b = true) (m : Nat) (hm : m ≤ 4) : (pairsN L m).length = (addrs (ownB L) m).length * (addrs (othB L) 4).length := by
  induction m with
  | zero => simp [pairsN, addrs_zero]
  | succ m ih =>
    rw [pairs_len_succ, addrs_len_succ (ownB L) m, ih (by omega)]
    cases e : ownB L m
    · have : (addrs (flowB L m) 4).length = 0 := addrs_len_none 4 fun i hi => by
        cases hf : flowB L m i
        · rfl
        · have := (h m i (by omega) hi hf).1; rw [e] at this; cases this
      rw [this]; simp
    · have h2 : addrs (flowB L m) 4 = addrs (othB L) 4 := addrs_congr fun i hi => by
        cases ho : othB L i
        · cases hf2 : flowB L m i
          · rfl
          · have := (h m i (by omega) hi hf2).2; rw [ho] at this; cases this
        · exact hf m i (by omega) hi e ho
      rw [h2, if_pos rfl, Nat.add_mul, Nat.one_mul]

/-- What holds of a manager whose pairs are joined as 'Next' tells. -/
structure Inv (L : List Bool) (m : Int) : Prop where
  len : L.length = 24
  sub : Sub L
  le : ((pairsN L 4).length : Int) ≤ m
theorem Inv.told {L L' : List Bool} {m : Int} (h : Inv L m) (hl : L'.length = 24) (hf : ∀ a b, a < 4 → b < 4 → flowB L' a b = flowB L a b) (ho : ∀ a, a < 4 → ownB L a = true → ownB L' a = true) (ht : ∀ a, a < 4 → othB L a = true → othB L' a = true) : Inv L' m :=
  ⟨hl, fun a b ha hb hx => by
    rw [hf a b ha hb] at hx
    have := h.sub a b ha hb hx
    exact ⟨ho a ha this.1, ht b hb this.2⟩, by rw [pairs_len_congr 4 (fun a b ha hb => hf a b ha hb)]; exact h.le⟩
theorem Inv.tell {L : List Bool} {m : Int} (h : Inv L m) (a : Int) : Inv (tellL L a) m := by
  have hl := h.len
  unfold tellL
  cases hm : mayI a
  · exact h
  · obtain ⟨n, rfl, hn⟩ := mayI_nat hm
    simp only [if_true, Int.toNat_natCast]
    refine h.told (by rw [List.length_set]; exact hl) (fun a b ha hb => ?_) (fun a ha hx => ?_) (fun a ha hx => ?_)
    · unfold flowB; rw [getD_set _ _ _ _ (by omega), if_neg (by omega)]
    · unfold ownB at *; rw [getD_set _ _ _ _ (by omega)]; split
      · rfl
      · exact hx
    · unfold othB at *; rw [getD_set _ _ _ _ (by omega), if_neg (by omega)]; exact hx
theorem Inv.hear {L : List Bool} {m : Int} (h : Inv L m) (a : Int) : Inv (toldL L a) m := by
  have hl := h.len
  unfold toldL
  cases hm : mayI a
  · exact h
  · obtain ⟨n, rfl, hn⟩ := mayI_nat hm
    simp only [if_true, Int.toNat_natCast]
    refine h.told (by rw [List.length_set]; exact hl) (fun a b ha hb => ?_) (fun a ha hx => ?_) (fun a ha hx => ?_)
    · unfold flowB; rw [getD_set _ _ _ _ (by omega), if_neg (by omega)]
    · unfold ownB at *; rw [getD_set _ _ _ _ (by omega), if_neg (by omega)]; exact hx
    · unfold othB at *; rw [getD_set _ _ _ _ (by omega)]; split
      · rfl
      · exact hx
theorem Inv.join {L : List Bool} {m x y : Int} (h : Inv L m) (hn : nextOf L m = some (x, y)) :
    joinC L m x y = 0 ∧ Inv (joinL L m x y) m ∧ (pairsN (joinL L m x y) 4).length = (pairsN L 4).length + 1 := by
  have hl := h.len
  unfold nextOf at hn
  split at hn
  · cases hn
  · rename_i hlt
    obtain ⟨h1, h2, h3⟩ := nextIn_some hn
    obtain ⟨a, ha, rfl, hoa⟩ := addrs_mem.1 h1
    obtain ⟨b, hb, rfl, hob⟩ := addrs_mem.1 h2
    unfold flowI at h3
    rw [Int.toNat_natCast, Int.toNat_natCast] at h3
    have e : joinC L m a b = 0 := by
      unfold joinC
      rw [mayI_of ha, mayI_of hb, Int.toNat_natCast, Int.toNat_natCast, hoa, hob, h3, if_neg hlt]
      rfl
    have e2 : joinL L m a b = L.set (8 + a * 4 + b) true := by unfold joinL; rw [e]; rfl
    refine ⟨e, ?_, ?_⟩
    · rw [e2]
      refine ⟨by rw [List.length_set]; exact hl, fun a' b' ha' hb' hf => ?_, ?_⟩
      · rw [own_set hl ha hb true ha', oth_set hl ha hb true hb']
        rw [flow_set hl ha hb true ha' hb'] at hf
        by_cases e3 : a' = a ∧ b' = b
        · rw [e3.1, e3.2]; exact ⟨hoa, hob⟩
        · rw [if_neg e3] at hf; exact h.sub a' b' ha' hb' hf
      · rw [pairs_len_set hl ha hb h3 4 (Nat.le_refl _), if_pos ha]; omega
    · rw [e2, pairs_len_set hl ha hb h3 4 (Nat.le_refl _), if_pos ha]
theorem Inv.done {L : List Bool} {m : Int} (h : Inv L m) (hn : nextOf L m = none) : ((pairsN L 4).length : Int) = min m ((addrs (ownB L) 4).length * (addrs (othB L) 4).length) := by
  have hs := sub_le h.sub 4 (Nat.le_refl _)
  have hle := h.le
  have hs' : ((pairsN L 4).length : Int) ≤ ((addrs (ownB L) 4).length : Int) * ((addrs (othB L) 4).length : Int) := by
    rw [← Int.natCast_mul]; omega
  unfold nextOf at hn
  split at hn
  · rename_i hlt; omega
  · have hall := nextIn_none hn
    have := full_eq h.sub (fun a b ha hb hoa hob => by
      have := hall a (addrs_mem.2 ⟨a, ha, rfl, hoa⟩) b (addrs_mem.2 ⟨b, hb, rfl, hob⟩)
      unfold flowI at this
      rwa [Int.toNat_natCast, Int.toNat_natCast] at this) 4 (Nat.le_refl _)
    have e : ((pairsN L 4).length : Int) = ((addrs (ownB L) 4).length : Int) * ((addrs (othB L) 4).length : Int) := by
      rw [← Int.natCast_mul]; omega
    omega
theorem pairs_len_16 (L : List Bool) : (pairsN L 4).length ≤ 16 := pairsN_le L 4
theorem prod_le {a b : Nat} (ha : a ≤ 4) (hb : b ≤ 4) : (0 : Int) ≤ (a : Int) * (b : Int) ∧ (a : Int) * (b : Int) ≤ 16 := by
  have := Nat.mul_le_mul ha hb
  have e : (a : Int) * (b : Int) = ((a * b : Nat) : Int) := by simp
  rw [e]; omega
end Go.Proofs.Ytbgdcpecpcmjdaa
