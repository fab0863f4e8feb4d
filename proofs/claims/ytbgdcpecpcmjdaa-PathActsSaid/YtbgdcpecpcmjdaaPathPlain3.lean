/- Plain law of the path manager: the document's lists beside the program's truths. -/
import Derived.Test.YtbgdcpecpcmjdaaPathPlain2
namespace Go.Proofs.Ytbgdcpecpcmjdaa
set_option linter.unusedVariables false

def lexLt (p q : Int × Int) : Prop := p.1 < q.1 ∨ (p.1 = q.1 ∧ p.2 < q.2)
theorem lexLt_ne {p q : Int × Int} (h : lexLt p q) : p ≠ q := by
  rintro rfl
  unfold lexLt at h
  omega
theorem addrs_sorted (p : Nat → Bool) (k : Nat) : (addrs p k).Pairwise (· < ·) := by
  induction k with
  | zero => exact List.Pairwise.nil
  | succ k ih =>
    cases h : p k
    · rw [addrs_no h]; exact ih
    · rw [addrs_yes h]
      refine List.pairwise_append.2 ⟨ih, by simp, fun a ha b hb => ?_⟩
      obtain ⟨i, hi, rfl, _⟩ := addrs_mem.1 ha
      obtain rfl := List.mem_singleton.1 hb
      omega
theorem pairs_sorted (L : List Bool) (k : Nat) : (pairsN L k).Pairwise lexLt := by
  induction k with
  | zero => exact List.Pairwise.nil
  | succ k ih =>
    show (pairsN L k ++ _).Pairwise lexLt
    refine List.pairwise_append.2 ⟨ih, ?_, fun a ha b hb => ?_⟩
    · exact List.pairwise_map.2 ((addrs_sorted _ _).imp fun h => .inr ⟨rfl, h⟩)
    · obtain ⟨x, y⟩ := a
      obtain ⟨i, j, hi, _, rfl, rfl, _⟩ := pairsN_mem.1 ha
      obtain ⟨z, _, rfl⟩ := List.mem_map.1 hb
      exact .inl (show (i : Int) < (k : Int) by omega)
theorem pairs_nodup (L : List Bool) (k : Nat) : (pairsN L k).Nodup := (pairs_sorted L k).imp lexLt_ne
theorem withB_sorted (L : List Bool) (b k : Nat) : (withB L b k).Pairwise lexLt := List.pairwise_map.2 ((addrs_sorted _ _).imp fun h => .inl h)
/-- The document's list of pairs is the program's, in some order. -/
def Match (L : List Bool) (Ls : List (Int × Int)) : Prop := Ls.Perm (pairsN L 4)
theorem Match.len {L : List Bool} {Ls : List (Int × Int)} (h : Match L Ls) : Ls.length = (pairsN L 4).length := h.length_eq
theorem Match.nodup {L : List Bool} {Ls : List (Int × Int)} (h : Match L Ls) : Ls.Nodup := h.nodup_iff.2 (pairs_nodup L 4)
theorem Match.mem {L : List Bool} {Ls : List (Int × Int)} (h : Match L Ls) (p : Int × Int) : p ∈ Ls ↔ p ∈ pairsN L 4 := h.mem_iff
theorem Match.of {L : List Bool} {Ls : List (Int × Int)} (hn : Ls.Nodup) (h : ∀ x y, (x, y) ∈ Ls ↔ (x, y) ∈ pairsN L 4) : Match L Ls := (List.perm_ext_iff_of_nodup hn (pairs_nodup L 4)).2 fun ⟨x, y⟩ => h x y
theorem Match.flow {L : List Bool} {Ls : List (Int × Int)} (h : Match L Ls) (x y : Int) : decide ((x, y) ∈ Ls) = (mayI x && mayI y && flowB L x.toNat y.toNat) := by
  rw [Bool.eq_iff_iff, decide_eq_true_iff, h.mem, pairsN_mem]
  constructor
  · rintro ⟨a, b, ha, hb, rfl, rfl, hf⟩
    rw [mayI_of ha, mayI_of hb, Int.toNat_natCast, Int.toNat_natCast, hf]; rfl
  · intro hx
    have h1 : mayI x = true := by cases e : mayI x <;> simp [e] at hx ⊢
    have h2 : mayI y = true := by cases e : mayI y <;> simp [e] at hx ⊢
    obtain ⟨a, rfl, ha⟩ := mayI_nat h1
    obtain ⟨b, rfl, hb⟩ := mayI_nat h2
    rw [h1, h2, Int.toNat_natCast, Int.toNat_natCast] at hx
    exact ⟨a, b, ha, hb, rfl, rfl, by simpa using hx⟩
theorem Match.congr {L L' : List Bool} {Ls : List (Int × Int)} (h : Match L Ls) (hf : ∀ a b, a < 4 → b < 4 → flowB L' a b = flowB L a b) : Match L' Ls :=
  Match.of h.nodup fun x y => by
    rw [h.mem, pairsN_mem, pairsN_mem]
    constructor
    · rintro ⟨a, b, ha, hb, e1, e2, e3⟩; exact ⟨a, b, ha, hb, e1, e2, by rw [hf a b ha hb]; exact e3⟩
    · rintro ⟨a, b, ha, hb, e1, e2, e3⟩; exact ⟨a, b, ha, hb, e1, e2, by rw [← hf a b ha hb]; exact e3⟩
theorem Match.add {L : List Bool} {Ls : List (Int × Int)} (h : Match L Ls) (hL : L.length = 24) {n k : Nat} (hn : n < 4) (hk : k < 4) (hf : flowB L n k = false) : Match (L.set (8 + n * 4 + k) true) (Ls ++ [((n : Int), (k : Int))]) := by
  refine Match.of ?_ fun x y => ?_
  · refine List.nodup_append.2 ⟨h.nodup, by simp, fun a ha b hb => ?_⟩
    obtain rfl := List.mem_singleton.1 hb
    rintro rfl
    rw [h.mem] at ha
    obtain ⟨a, b, _, _, e1, e2, e3⟩ := pairsN_mem.1 ha
    obtain rfl : a = n := by omega
    obtain rfl : b = k := by omega
    rw [hf] at e3; cases e3
  · rw [List.mem_append, h.mem, pairsN_mem, pairsN_mem, List.mem_singleton]
    constructor
    · rintro (⟨a, b, ha, hb, e1, e2, e3⟩ | e)
      · exact ⟨a, b, ha, hb, e1, e2, by rw [flow_set hL hn hk true ha hb]; split; rfl; exact e3⟩
      · injection e with e1 e2
        exact ⟨n, k, hn, hk, e1, e2, by rw [flow_set hL hn hk true hn hk, if_pos ⟨rfl, rfl⟩]⟩
    · rintro ⟨a, b, ha, hb, rfl, rfl, e3⟩
      rw [flow_set hL hn hk true ha hb] at e3
      by_cases e : a = n ∧ b = k
      · exact .inr (by rw [e.1, e.2])
      · rw [if_neg e] at e3; exact .inl ⟨a, b, ha, hb, rfl, rfl, e3⟩
/-- What 'Gone' keeps. -/
def gone (Ls : List (Int × Int)) (x y : Int) : List (Int × Int) := Ls.filter fun p => decide (p ≠ (x, y))
theorem gone_le (Ls : List (Int × Int)) (x y : Int) : (gone Ls x y).length ≤ Ls.length := List.length_filter_le _ _
theorem gone_yes {Ls : List (Int × Int)} {x y : Int} {k : Nat} (h : k < Ls.length) (hp : Ls.getD k (0, 0) ≠ (x, y)) : gone (Ls.take (k + 1)) x y = gone (Ls.take k) x y ++ [Ls.getD k (0, 0)] := by
  have e : Ls.take (k + 1) = Ls.take k ++ [Ls.getD k (0, 0)] := by rw [List.take_succ_eq_append_getElem h]; simp [List.getD, h]
  rw [e]
  generalize Ls.getD k (0, 0) = v at hp
  unfold gone
  rw [List.filter_append]
  simp only [List.filter_cons, List.filter_nil, decide_eq_true hp, if_true]
theorem gone_no {Ls : List (Int × Int)} {x y : Int} {k : Nat} (h : k < Ls.length) (hp : Ls.getD k (0, 0) = (x, y)) : gone (Ls.take (k + 1)) x y = gone (Ls.take k) x y := by
  have e : Ls.take (k + 1) = Ls.take k ++ [(x, y)] := by rw [List.take_succ_eq_append_getElem h, ← hp]; simp [List.getD, h]
  rw [e]
  unfold gone
  rw [List.filter_append]
  simp
theorem Match.gone {L : List Bool} {Ls : List (Int × Int)} (h : Match L Ls) (hL : L.length = 24) (x y : Int) : Match (goneL L x y) (gone Ls x y) := by
  refine Match.of (h.nodup.filter _) fun x' y' => ?_
  unfold Ytbgdcpecpcmjdaa.gone
  rw [List.mem_filter, h.mem, pairsN_mem, pairsN_mem, decide_eq_true_iff]
  unfold goneL
  by_cases hm : (mayI x && mayI y) = true
  · have h1 : mayI x = true := by cases e : mayI x <;> simp [e] at hm ⊢
    have h2 : mayI y = true := by cases e : mayI y <;> simp [e] at hm ⊢
    obtain ⟨n, rfl, hn⟩ := mayI_nat h1
    obtain ⟨k, rfl, hk⟩ := mayI_nat h2
    rw [if_pos hm, Int.toNat_natCast, Int.toNat_natCast]
    constructor
    · rintro ⟨⟨a, b, ha, hb, rfl, rfl, e3⟩, hne⟩
      refine ⟨a, b, ha, hb, rfl, rfl, ?_⟩
      rw [flow_set hL hn hk false ha hb, if_neg]
      · exact e3
      · rintro ⟨rfl, rfl⟩; exact hne rfl
    · rintro ⟨a, b, ha, hb, rfl, rfl, e3⟩
      rw [flow_set hL hn hk false ha hb] at e3
      by_cases e : a = n ∧ b = k
      · rw [if_pos e] at e3; cases e3
      · rw [if_neg e] at e3
        refine ⟨⟨a, b, ha, hb, rfl, rfl, e3⟩, fun e2 => e ?_⟩
        injection e2 with e4 e5
        omega
  · rw [if_neg hm]
    constructor
    · exact fun h => h.1
    · rintro ⟨a, b, ha, hb, rfl, rfl, e3⟩
      refine ⟨⟨a, b, ha, hb, rfl, rfl, e3⟩, fun e2 => hm ?_⟩
      injection e2 with e4 e5
      rw [← e4, ← e5, mayI_of ha, mayI_of hb]; rfl
/-- The document's 'more', 'less' of rising lists. -/
def moreL (xs : List Int) (a : Int) : List Int := addrs (fun k => (k : Int) == a || decide ((k : Int) ∈ xs)) 4
def lessL (xs : List Int) (a : Int) : List Int := xs.filter (fun x => x != a)
theorem more_addrs {p : Nat → Bool} {n : Nat} (hn : n < 4) : moreL (addrs p 4) n = addrs (fun k => if k = n then true else p k) 4 := by
  unfold moreL
  refine addrs_congr fun i hi => ?_
  rw [addrs_has hi]
  by_cases e : i = n
  · subst e; simp
  · have : ((i : Int) == (n : Int)) = false := by rw [beq_eq_false_iff_ne]; omega
    rw [this, if_neg e]; rfl
theorem filter_addrs (p q : Nat → Bool) (f : Int → Bool) (k : Nat) (h : ∀ i, i < k → q i = (p i && f i)) : (addrs p k).filter f = addrs q k := by
  unfold addrs
  rw [List.filter_map, List.filter_filter]
  congr 1
  refine List.filter_congr fun x hx => ?_
  rw [h x (List.mem_range.1 hx), Bool.and_comm]; rfl
theorem less_addrs {p : Nat → Bool} {n : Nat} (hn : n < 4) : lessL (addrs p 4) n = addrs (fun k => if k = n then false else p k) 4 := by
  refine filter_addrs _ _ _ _ fun i hi => ?_
  by_cases e : i = n
  · subst e; simp
  · have : ((i : Int) != (n : Int)) = true := by rw [bne_iff_ne]; omega
    simp only [this, e, if_false, Bool.and_true]
theorem less_addrs_no {p : Nat → Bool} {b : Int} (hb : mayI b = false) : lessL (addrs p 4) b = addrs p 4 := by
  refine filter_addrs _ _ _ _ fun i hi => ?_
  have := mayI_no hb
  have : ((i : Int) != b) = true := by rw [bne_iff_ne]; omega
  rw [this, Bool.and_true]
end Go.Proofs.Ytbgdcpecpcmjdaa
