/- The laws of option: what Get answers is what the document says, no program in sight. -/
import Derived.Test.YthnennleblgjeaaDoorOptPlain2
namespace Go.Proofs.YthnennleblgjeaaDoor
open Go.ChangeShapes Go.WideShapes Go.ChangeAt Go.RowKit
set_option linter.unusedVariables false
def refGetR (xs : List Int) : (Nat → Int) × List Int × Int :=
  if xs = [] then (zeroV, [], 3)
  else if sizeK (num (xs.take 1)) = 0 then (zeroV, [], 4)
  else if (xs.length : Int) < sizeK (num (xs.take 1)) then (zeroV, [], 3)
  else if refRightB (parseV (xs.take (sizeK (num (xs.take 1))).toNat)) && decide (optB (parseV (xs.take (sizeK (num (xs.take 1))).toNat)) = xs.take (sizeK (num (xs.take 1))).toNat) then (parseV (xs.take (sizeK (num (xs.take 1))).toNat), xs.drop (sizeK (num (xs.take 1))).toNat, 0)
  else (zeroV, [], 4)
theorem parseV_ok {xs : List Int} (hb : Bytes xs) (hne : xs ≠ []) : OkV (parseV xs) := by
  have hl : 0 < xs.length := List.length_pos_iff.2 hne
  have hk := num_bd 1 (xs.take 1) (by rw [List.length_take]; omega) (hb.take 1)
  simp only [Int.reducePow] at hk
  refine parseF_ok _ _ _ (kindV_ok hk) (hb.drop 1) (fun p hp => ?_)
  have := (fieldsOf_ok _ p hp).2.2.2
  omega
theorem parseV_kind (xs : List Int) : parseV xs 0 = num (xs.take 1) := by
  unfold parseV
  rw [parseF_at _ _ _ 0 (fieldsOf_zero _)]
  rfl
theorem get_ref {xs : List Int} (hb : Bytes xs) : getR xs = refGetR xs := by
  by_cases hne : xs = []
  · subst hne; rfl
  have hl : 0 < xs.length := List.length_pos_iff.2 hne
  have hk := num_bd 1 (xs.take 1) (by rw [List.length_take]; omega) (hb.take 1)
  simp only [Int.reducePow] at hk
  have hbe : be 1 (num (xs.take 1)) = xs.take 1 := be_num 1 _ (by rw [List.length_take]; omega) (hb.take 1)
  have hpv : ∀ ys, parseV ys = parseF (fieldsOf (num (ys.take 1))) (kindV (num (ys.take 1))) (ys.drop 1) := fun _ => rfl
  have hpk := parseV_kind
  have hpo := fun n (h : xs.take n ≠ []) => parseV_ok (hb.take n) h
  have e1 : ∀ W, (xs.take (1 + W)).take 1 = xs.take 1 := fun W => by rw [List.take_take]; congr 1; omega
  have e2 : ∀ W, (xs.take (1 + W)).drop 1 = (xs.drop 1).take W := fun W => by rw [List.drop_take]; congr 1; omega
  unfold getR refGetR
  rw [if_neg hne, if_neg hne, takeAll_eq]
  obtain ⟨k, hkk⟩ : ∃ k, num (xs.take 1) = k := ⟨_, rfl⟩
  rw [hkk] at hk hbe ⊢
  by_cases hko : k < 1 ∨ 11 < k
  · rw [if_pos (sizeK_out hko), fieldsOf_out hko]
    simp only [widthF, Nat.not_lt_zero, if_false, parseF, truthsF]
    rw [right_false (V := kindV k) (by simpa [kindV] using hko)]
    rfl
  · have hk1 : 1 ≤ k ∧ k ≤ 11 := by omega
    have hsz := sizeK_width hk1
    have hnd := fieldsOf_nodup k
    have hok := fieldsOf_okP k
    have hz := fieldsOf_zero k
    obtain ⟨n, hn⟩ : ∃ n, sizeK k = n := ⟨_, rfl⟩
    rw [hn] at hsz ⊢
    obtain ⟨F, hF⟩ : ∃ F, fieldsOf k = F := ⟨_, rfl⟩
    rw [hF] at hsz hnd hok hz ⊢
    obtain ⟨W, hW⟩ : ∃ W, widthF F = W := ⟨_, rfl⟩
    have hD : (xs.drop 1).length = xs.length - 1 := List.length_drop
    have hfl := flat_parse F (kindV k) (xs.drop 1) (hb.drop 1) hnd hok
    have hap := parseF_app F (kindV k) ((xs.drop 1).take W) ((xs.drop 1).drop W)
    rw [List.take_append_drop, List.length_take] at hap
    rw [hW] at hsz hfl hap ⊢
    rw [hD] at hfl hap ⊢
    rw [if_neg (show ¬ n = 0 by omega)]
    by_cases hs : (xs.length : Int) < n
    · rw [if_pos hs, if_pos (show xs.length - 1 < W by omega)]
    · rw [if_neg hs, if_neg (show ¬ xs.length - 1 < W by omega)]
      have hnn : n.toNat = 1 + W := by omega
      rw [hnn]
      have hV : parseV (xs.take (1 + W)) = parseF F (kindV k) (xs.drop 1) := by
        rw [hpv, e1, e2, hkk, hF, hap (by omega)]
      have hVok := hpo (1 + W) (by
        intro hh
        have := congrArg List.length hh
        rw [List.length_take, List.length_nil] at this
        omega)
      have h0 := hpk (xs.take (1 + W))
      rw [e1, hkk] at h0
      rw [hV] at hVok h0 ⊢
      obtain ⟨V, hVe⟩ : ∃ V, parseF F (kindV k) (xs.drop 1) = V := ⟨_, rfl⟩
      rw [hVe] at hVok h0 hfl ⊢
      have hopt : (optB V = xs.take (1 + W) ↔ truthsF F (xs.drop 1) = true) := by
        rw [← hfl (by omega)]
        unfold optB
        rw [h0, hbe, hF, List.take_add]
        constructor
        · intro hh; exact List.append_cancel_left hh
        · intro hh; rw [hh]
      rw [← right_ref hVok]
      have hdec : decide (optB V = xs.take (1 + W)) = truthsF F (xs.drop 1) := by
        rw [Bool.eq_iff_iff, decide_eq_true_eq]; exact hopt
      simp only [hdec, Bool.and_true, List.drop_drop]
      rw [Bool.and_comm]
theorem optEq_congr {U U' V V' : Nat → Int} (hU : ∀ j, j < 14 → U j = U' j) (hV : ∀ j, j < 14 → V j = V' j) : optEq U V = optEq U' V' := by
  unfold optEq
  rw [hU 0 (by decide), hV 0 (by decide), hU 1 (by decide), hV 1 (by decide), hU 2 (by decide), hV 2 (by decide), hU 3 (by decide), hV 3 (by decide), hU 4 (by decide), hV 4 (by decide), hU 5 (by decide), hV 5 (by decide), hU 6 (by decide), hV 6 (by decide), hU 7 (by decide), hV 7 (by decide), hU 8 (by decide), hV 8 (by decide), hU 9 (by decide), hV 9 (by decide), hU 10 (by decide), hV 10 (by decide), hU 11 (by decide), hV 11 (by decide), hU 12 (by decide), hV 12 (by decide), hU 13 (by decide), hV 13 (by decide)]
theorem rightF_congr {V V' : Nat → Int} (h : ∀ j, j < 14 → V j = V' j) : rightF V = rightF V' := by
  have hF := fieldsOf_ok (V 0)
  unfold rightF
  rw [← h 0 (by decide), ← h 5 (by decide), ← h 8 (by decide), ← h 9 (by decide), ← h 10 (by decide), ← h 11 (by decide), ← h 12 (by decide), ← h 13 (by decide)]
  have e1 : (fieldsOf (V 0)).all (fun p => fitsF (fk p.1) p.2 (V p.1)) = (fieldsOf (V 0)).all (fun p => fitsF (fk p.1) p.2 (V' p.1)) := by
    rw [Bool.eq_iff_iff, List.all_eq_true, List.all_eq_true]
    exact ⟨fun hh p hp => by rw [← h p.1 (hF p hp).2.1]; exact hh p hp, fun hh p hp => by rw [h p.1 (hF p hp).2.1]; exact hh p hp⟩
  have e2 : optEq (ownV (fieldsOf (V 0)) V) V = optEq (ownV (fieldsOf (V 0)) V') V' := by
    have e3 : ∀ j, j < 14 → ownV (fieldsOf (V 0)) V j = ownV (fieldsOf (V 0)) V' j := fun j hj => by
      unfold ownV; rw [h j hj]
    exact optEq_congr e3 h
  rw [e1, e2]
theorem optB_bytes (V : Nat → Int) : Bytes (optB V) := by
  unfold optB
  refine (be_bytes _ _).append (fun x hx => ?_)
  obtain ⟨p, _, hp⟩ := List.mem_flatMap.1 hx
  exact be_bytes _ _ x hp
theorem optB_head {V : Nat → Int} (ys : List Int) (h : 1 ≤ V 0 ∧ V 0 ≤ 11) : num ((optB V ++ ys).take 1) = V 0 := by
  have h1 : (optB V ++ ys).take 1 = be 1 (V 0) := by
    unfold optB
    rw [List.append_assoc, List.take_append_of_le_length (by rw [be_length]; omega)]
    exact List.take_of_length_le (by rw [be_length]; omega)
  rw [h1, num_be1]; omega
theorem optB_tail {V : Nat → Int} (ys : List Int) : (optB V ++ ys).drop 1 = (fieldsOf (V 0)).flatMap (fieldB V) ++ ys := by
  unfold optB
  rw [List.append_assoc]
  have := List.drop_left (l₁ := be 1 (V 0)) (l₂ := (fieldsOf (V 0)).flatMap (fieldB V) ++ ys)
  rwa [be_length] at this
theorem flatMap_same {α : Type} {f g : α → List Int} : ∀ {l : List α}, (∀ x ∈ l, f x = g x) → l.flatMap f = l.flatMap g
  | [], _ => rfl
  | x :: l, h => by rw [List.flatMap_cons, List.flatMap_cons, h x List.mem_cons_self, flatMap_same (fun y hy => h y (List.mem_cons_of_mem _ hy))]
theorem get_put {V : Nat → Int} (hV : OkV V) (hr : rightF V = true) (ys : List Int) : ∃ V', getR (optB V ++ ys) = (V', ys, 0) ∧ (∀ j, j < 14 → V' j = V j) := by
  have hk := right_kind hr
  have hne : optB V ++ ys ≠ [] := by
    intro hh
    have h1 := congrArg List.length hh
    rw [List.length_append] at h1
    have := optB_size hk
    have h2 := sizeK_width hk
    simp at h1
    rw [h1.1] at this
    simp at this
    omega
  have hrr := hr
  rw [right_ref hV] at hrr
  unfold refRightB at hrr
  rw [Bool.and_eq_true, Bool.and_eq_true] at hrr
  have hop : OkV (parseV (optB V)) := parseV_ok (optB_bytes V) (by
    intro hh
    have := optB_size hk
    have h2 := sizeK_width hk
    rw [hh] at this
    simp at this
    omega)
  have heq := (optEq_iff hop hV).1 hrr.2.2
  rw [parse_optB hk, ← parse_flat] at heq
  refine ⟨_, ?_, heq⟩
  have hfw := flat_width (fieldsOf (V 0)) V
  refine (show getR (optB V ++ ys) = _ from ?_)
  have htr : truthsF (fieldsOf (V 0)) ((fieldsOf (V 0)).flatMap (fieldB V)) = true := by
    refine (flat_parse (fieldsOf (V 0)) (kindV (V 0)) ((fieldsOf (V 0)).flatMap (fieldB V)) (fun x hx => by obtain ⟨p, _, hp⟩ := List.mem_flatMap.1 hx; exact be_bytes _ _ x hp) (fieldsOf_nodup _) (fieldsOf_okP _) (by rw [hfw]; exact Nat.le_refl _)).1 ?_
    rw [List.take_of_length_le (by rw [hfw]; exact Nat.le_refl _)]
    refine flatMap_same (fun p hp => ?_)
    show be p.2 _ = be p.2 _
    rw [heq p.1 (fieldsOf_ok _ p hp).2.1]
  unfold getR
  rw [if_neg hne, optB_head ys hk, optB_tail, takeAll_eq, if_neg (by rw [List.length_append, hfw]; omega), parseF_app _ _ _ _ (by rw [hfw]; exact Nat.le_refl _), truthsF_app _ _ _ (by rw [hfw]; exact Nat.le_refl _), htr]
  simp only [Bool.and_true, Bool.true_and]
  rw [rightF_congr heq, hr, ← hfw, List.drop_left]
  rfl
theorem get_cut {V : Nat → Int} (hr : rightF V = true) {m : Nat} (hm : m < (optB V).length) : getR ((optB V).take m) = (zeroV, [], 3) := by
  have hk := right_kind hr
  cases m with
  | zero => rfl
  | succ m =>
    have hsz := optB_size hk
    have hw := sizeK_width hk
    have hlen : ((optB V).take (m + 1)).length = m + 1 := by rw [List.length_take]; omega
    have h1 : ((optB V).take (m + 1)).take 1 = (optB V).take 1 := by rw [List.take_take, show min 1 (m + 1) = 1 by omega]
    have h2 := optB_head (V := V) [] hk
    rw [List.append_nil] at h2
    unfold getR
    rw [if_neg (by intro hh; rw [hh] at hlen; simp at hlen), h1, h2, takeAll_eq, if_pos (by rw [List.length_drop, hlen]; omega)]
end Go.Proofs.YthnennleblgjeaaDoor
