/- Plain law of the scheduler of layer 17: which paths are able, which are picked. -/
namespace Go.Proofs.Ytaedkhfmcfcgbaa
set_option linter.unusedVariables false

structure Pth where
  rdy : Bool
  bak : Bool
  sm : Int
  left : Int
def Pth.none : Pth := ⟨false, false, 0, 0⟩

def Pth.main (p : Pth) : Bool := p.rdy && !p.bak
def others (ps : List Pth) : Bool := ps.any Pth.main
/-- May it send? o: some other one is ready, and no backup. -/
def Pth.able (o : Bool) (p : Pth) : Bool := p.rdy && decide (p.left < 4) && (!o || !p.bak)
def okAt (ps : List Pth) (i : Nat) : Bool := Pth.able (others ps) (ps.getD i Pth.none)
/-- The places of those of the first k that are able. -/
def ables (ps : List Pth) (k : Nat) : List Int := ((List.range k).filter (okAt ps)).map (fun i : Nat => (i : Int))
theorem ables_succ (ps : List Pth) (k : Nat) : ables ps (k + 1) = ables ps k ++ (if okAt ps k then [(k : Int)] else []) := by
  unfold ables
  rw [List.range_succ, List.filter_append, List.map_append]
  congr 1
  by_cases h : okAt ps k <;> simp [h]
theorem ables_yes {ps : List Pth} {k : Nat} (h : okAt ps k = true) : ables ps (k + 1) = ables ps k ++ [(k : Int)] := by rw [ables_succ, if_pos h]
theorem ables_no {ps : List Pth} {k : Nat} (h : okAt ps k = false) : ables ps (k + 1) = ables ps k := by rw [ables_succ, if_neg (by simp [h]), List.append_nil]
theorem ables_zero (ps : List Pth) : ables ps 0 = [] := rfl
theorem ables_le (ps : List Pth) (k : Nat) : (ables ps k).length ≤ k := by
  unfold ables
  rw [List.length_map]
  exact Nat.le_trans (List.length_filter_le _ _) (by simp)
theorem ables_mem {ps : List Pth} {k : Nat} {x : Int} (h : x ∈ ables ps k) : ∃ i : Nat, i < k ∧ x = (i : Int) ∧ okAt ps i = true := by
  obtain ⟨i, hi, rfl⟩ := List.mem_map.1 h
  obtain ⟨h1, h2⟩ := List.mem_filter.1 hi
  exact ⟨i, List.mem_range.1 h1, rfl, h2⟩
theorem ables_sorted (ps : List Pth) (k : Nat) : (ables ps k).Pairwise (· < ·) := by
  induction k with
  | zero => exact List.Pairwise.nil
  | succ k ih =>
    rw [ables_succ]
    refine List.pairwise_append.2 ⟨ih, ?_, ?_⟩
    · by_cases h : okAt ps k <;> simp [h]
    · intro a ha b hb
      obtain ⟨i, hi, rfl, _⟩ := ables_mem ha
      by_cases h : okAt ps k
      · simp [h] at hb; omega
      · simp [h] at hb
/-- Strictly rising, by places. -/
theorem sorted_lt {l : List Int} (h : l.Pairwise (· < ·)) {i j : Nat} (hij : i < j) (hj : j < l.length) : l.getD i 0 < l.getD j 0 := by
  have := List.pairwise_iff_getElem.1 h i j (by omega) hj hij
  simpa [List.getD, List.getElem?_eq_getElem hj, List.getElem?_eq_getElem (show i < l.length by omega)] using this

/-! The first one with the least. -/
def least (f : Int → Int) (l : List Int) (k : Nat) : Int := ((l.take k).drop 1).foldl (fun best x => if f x < f best then x else best) (l.getD 0 0)
theorem least_one (f : Int → Int) (l : List Int) : least f l 1 = l.getD 0 0 := by
  unfold least
  cases l <;> simp
theorem least_succ (f : Int → Int) (l : List Int) (k : Nat) (hk : 1 ≤ k) (h : k < l.length) : least f l (k + 1) = if f (l.getD k 0) < f (least f l k) then l.getD k 0 else least f l k := by
  unfold least
  have e : (l.take (k + 1)).drop 1 = (l.take k).drop 1 ++ [l.getD k 0] := by
    rw [List.take_succ_eq_append_getElem h, List.drop_append_of_le_length (by rw [List.length_take]; omega)]
    simp [List.getD, h]
  rw [e, List.foldl_append]
  rfl
def FirstMin (f : Int → Int) (l : List Int) (k b : Nat) : Prop := b < k ∧ (∀ j, j < k → f (l.getD b 0) ≤ f (l.getD j 0)) ∧ ∀ j, j < b → f (l.getD b 0) < f (l.getD j 0)
theorem FirstMin.unique {f : Int → Int} {l : List Int} {k a b : Nat} (ha : FirstMin f l k a) (hb : FirstMin f l k b) : a = b := by
  obtain ⟨a1, a2, a3⟩ := ha
  obtain ⟨b1, b2, b3⟩ := hb
  rcases Nat.lt_trichotomy a b with h | h | h
  · have := b3 a h; have := a2 b b1; omega
  · exact h
  · have := a3 b h; have := b2 a a1; omega
theorem least_first (f : Int → Int) (l : List Int) (k : Nat) (hk : 1 ≤ k) (h : k ≤ l.length) : ∃ b, FirstMin f l k b ∧ least f l k = l.getD b 0 := by
  induction k with
  | zero => omega
  | succ k ih =>
    by_cases h1 : k = 0
    · subst h1
      exact ⟨0, ⟨by omega, (fun j hj => by obtain rfl : j = 0 := by omega
                                           exact Int.le_refl _), fun j hj => by omega⟩, least_one f l⟩
    · obtain ⟨b, ⟨b1, b2, b3⟩, e⟩ := ih (by omega) (by omega)
      rw [least_succ f l k (by omega) (by omega), e]
      by_cases hc : f (l.getD k 0) < f (l.getD b 0)
      · rw [if_pos hc]
        refine ⟨k, ⟨by omega, fun j hj => ?_, fun j hj => ?_⟩, rfl⟩
        · by_cases e1 : j = k
          · subst e1; exact Int.le_refl _
          · have := b2 j (by omega); omega
        · have := b2 j hj; omega
      · rw [if_neg hc]
        refine ⟨b, ⟨by omega, fun j hj => ?_, b3⟩, rfl⟩
        by_cases e1 : j = k
        · subst e1; omega
        · exact b2 j (by omega)
/-- The reference's way, from the last one down: at i. -/
def DownMin (f : Int → Int) (l : List Int) (i : Nat) (x : Int) : Prop :=
  ∃ b, b < l.length ∧ x = l.getD b 0 ∧ (b = 0 ∨ i ≤ b) ∧ f (l.getD b 0) ≤ f (l.getD 0 0) ∧ (∀ j, i ≤ j → j < l.length → f (l.getD b 0) ≤ f (l.getD j 0)) ∧ ∀ j, i ≤ j → j < b → f (l.getD b 0) < f (l.getD j 0)
theorem DownMin.start (f : Int → Int) (l : List Int) (h : 0 < l.length) : DownMin f l l.length (l.getD 0 0) :=
  ⟨0, h, rfl, .inl rfl, Int.le_refl _, fun j h1 h2 => by omega, fun j h1 h2 => by omega⟩
theorem DownMin.yes {f : Int → Int} {l : List Int} {i : Nat} {x : Int} (h : DownMin f l (i + 1) x) (hi : i < l.length) (hc : f (l.getD i 0) ≤ f x) : DownMin f l i (l.getD i 0) := by
  obtain ⟨b, h1, rfl, h3, h4, h5, h6⟩ := h
  refine ⟨i, hi, rfl, .inr (Nat.le_refl _), by omega, fun j a1 a2 => ?_, fun j a1 a2 => by omega⟩
  by_cases e : j = i
  · subst e; exact Int.le_refl _
  · have := h5 j (by omega) a2; omega
theorem DownMin.no {f : Int → Int} {l : List Int} {i : Nat} {x : Int} (h : DownMin f l (i + 1) x) (hi : i < l.length) (hc : f x < f (l.getD i 0)) : DownMin f l i x := by
  obtain ⟨b, h1, rfl, h3, h4, h5, h6⟩ := h
  refine ⟨b, h1, rfl, ?_, h4, fun j a1 a2 => ?_, fun j a1 a2 => ?_⟩
  · rcases h3 with h3 | h3
    · exact .inl h3
    · exact .inr (by omega)
  · by_cases e : j = i
    · subst e; omega
    · exact h5 j (by omega) a2
  · by_cases e : j = i
    · subst e; exact hc
    · exact h6 j (by omega) a2
theorem DownMin.done {f : Int → Int} {l : List Int} {x : Int} (h : DownMin f l 0 x) : x = least f l l.length := by
  obtain ⟨b, h1, rfl, h3, h4, h5, h6⟩ := h
  obtain ⟨c, hc, e⟩ := least_first f l l.length (by omega) (Nat.le_refl _)
  have : b = c := FirstMin.unique ⟨h1, fun j hj => h5 j (Nat.zero_le _) hj, fun j hj => h6 j (Nat.zero_le _) hj⟩ hc
  rw [e, this]
theorem least_mem (f : Int → Int) (l : List Int) (h : 0 < l.length) : least f l l.length ∈ l := by
  obtain ⟨b, ⟨h1, _, _⟩, e⟩ := least_first f l l.length h (Nat.le_refl _)
  rw [e]
  simp [List.getD, h1]
theorem least_le (f : Int → Int) (l : List Int) (x : Int) (hx : x ∈ l) : f (least f l l.length) ≤ f x := by
  obtain ⟨j, hj, rfl⟩ := List.getElem_of_mem hx
  obtain ⟨b, ⟨h1, h2, _⟩, e⟩ := least_first f l l.length (by omega) (Nat.le_refl _)
  have := h2 j hj
  rw [e]
  simpa [List.getD, hj] using this

/-! The next one behind the last. -/
def turnOf (last : Int) (l : List Int) : Int := (l.find? (fun x => decide (last < x))).getD (l.getD 0 0)
theorem turn_hit {last : Int} {l : List Int} {k : Nat} (hk : k < l.length) (h : last < l.getD k 0) (hb : ∀ j, j < k → l.getD j 0 ≤ last) : turnOf last l = l.getD k 0 := by
  unfold turnOf
  have : l.find? (fun x => decide (last < x)) = some (l.getD k 0) := by
    rw [List.find?_eq_some_iff_getElem]
    refine ⟨by simpa using h, k, hk, by simp [List.getD, hk], fun j hj => ?_⟩
    have h1 := hb j hj
    simp [List.getD, show j < l.length by omega] at h1
    simpa using h1
  rw [this]; rfl
theorem turn_miss {last : Int} {l : List Int} (hb : ∀ j, j < l.length → l.getD j 0 ≤ last) : turnOf last l = l.getD 0 0 := by
  unfold turnOf
  have : l.find? (fun x => decide (last < x)) = none := by
    rw [List.find?_eq_none]
    intro x hx
    obtain ⟨j, hj, rfl⟩ := List.getElem_of_mem hx
    have h1 := hb j hj
    simp [List.getD, hj] at h1
    simpa using h1
  rw [this]; rfl
def DownTurn (last : Int) (l : List Int) (i : Nat) (x : Int) : Prop :=
  ((∀ j, i ≤ j → j < l.length → l.getD j 0 ≤ last) ∧ x = l.getD 0 0) ∨ ∃ b, i ≤ b ∧ b < l.length ∧ x = l.getD b 0 ∧ last < l.getD b 0 ∧ ∀ j, i ≤ j → j < b → l.getD j 0 ≤ last
theorem DownTurn.start (last : Int) (l : List Int) : DownTurn last l l.length (l.getD 0 0) := .inl ⟨fun j h1 h2 => by omega, rfl⟩
theorem DownTurn.yes {last : Int} {l : List Int} {i : Nat} {x : Int} (h : DownTurn last l (i + 1) x) (hi : i < l.length) (hc : last < l.getD i 0) : DownTurn last l i (l.getD i 0) :=
  .inr ⟨i, Nat.le_refl _, hi, rfl, hc, fun j h1 h2 => by omega⟩
theorem DownTurn.no {last : Int} {l : List Int} {i : Nat} {x : Int} (h : DownTurn last l (i + 1) x) (hi : i < l.length) (hc : l.getD i 0 ≤ last) : DownTurn last l i x := by
  rcases h with ⟨h1, h2⟩ | ⟨b, h1, h2, h3, h4, h5⟩
  · refine .inl ⟨fun j a1 a2 => ?_, h2⟩
    by_cases e : j = i
    · subst e; exact hc
    · exact h1 j (by omega) a2
  · refine .inr ⟨b, by omega, h2, h3, h4, fun j a1 a2 => ?_⟩
    by_cases e : j = i
    · subst e; exact hc
    · exact h5 j (by omega) a2
theorem DownTurn.done {last : Int} {l : List Int} {x : Int} (h : DownTurn last l 0 x) : x = turnOf last l := by
  rcases h with ⟨h1, h2⟩ | ⟨b, h1, h2, h3, h4, h5⟩
  · rw [turn_miss (fun j hj => h1 j (Nat.zero_le _) hj), h2]
  · rw [turn_hit h2 h4 (fun j hj => h5 j (Nat.zero_le _) hj), h3]

/-! What is picked. -/
def smAt (ps : List Pth) (x : Int) : Int := (ps.getD x.toNat Pth.none).sm
def picked (ps : List Pth) (how last : Int) : List Int :=
  if ables ps ps.length = [] ∨ how < 0 ∨ 2 < how then [] else if how = 2 then ables ps ps.length else if how = 0 then [least (smAt ps) (ables ps ps.length) (ables ps ps.length).length] else [turnOf last (ables ps ps.length)]
theorem picked_none {ps : List Pth} {how last : Int} (h : ables ps ps.length = [] ∨ how < 0 ∨ 2 < how) : picked ps how last = [] := by unfold picked; rw [if_pos h]
theorem picked_all {ps : List Pth} {last : Int} : picked ps 2 last = ables ps ps.length := by
  unfold picked
  split
  · rename_i h
    rcases h with h | h | h
    · exact h.symm
    · omega
    · omega
  · simp
theorem picked_quick {ps : List Pth} {last : Int} (h : ables ps ps.length ≠ []) : picked ps 0 last = [least (smAt ps) (ables ps ps.length) (ables ps ps.length).length] := by
  unfold picked
  simp [h]
theorem picked_turn {ps : List Pth} {last : Int} (h : ables ps ps.length ≠ []) : picked ps 1 last = [turnOf last (ables ps ps.length)] := by
  unfold picked
  simp [h]
theorem turn_mem {last : Int} {l : List Int} (h : 0 < l.length) : turnOf last l ∈ l := by
  unfold turnOf
  cases e : l.find? (fun x => decide (last < x)) with
  | none => simp [List.getD, h]
  | some x => exact List.mem_of_find?_eq_some e
/-- Whatever is picked is able. -/
theorem picked_able {ps : List Pth} {how last x : Int} (h : x ∈ picked ps how last) : x ∈ ables ps ps.length := by
  unfold picked at h
  split at h
  · cases h
  · rename_i hn
    have hp : 0 < (ables ps ps.length).length := List.length_pos_iff.2 (fun e => hn (.inl e))
    split at h
    · exact h
    · split at h
      · rw [List.mem_singleton.1 h]; exact least_mem _ _ hp
      · rw [List.mem_singleton.1 h]; exact turn_mem hp
end Go.Proofs.Ytaedkhfmcfcgbaa
