/-
  What the sum's hook says: where its bytes lie, what their sum is.
-/
import Derived.Test.YtgfahpnndmocbaaGreatDoorSx22
import Derived.Test.YtgfahpnndmocbaaGreatDoorSx2
namespace Go.Proofs.YtgfahpnndmocbaaGreatDoor.Sx
noncomputable section
open Go Go.RowKit
set_option linter.unusedVariables false
set_option linter.unusedSimpArgs false

/-! The sum in plain numbers. -/
def fold16 (n : Int) : Int := n % 65536 + n / 65536
def addB (s : Int × Bool) (c : Int) : Int × Bool := (fold16 (s.1 + if s.2 then c else c * 256), !s.2)
def addL (s : Int × Bool) (l : List Int) : Int × Bool := l.foldl addB s
theorem addL_append (s : Int × Bool) (a b : List Int) : addL s (a ++ b) = addL (addL s a) b := by simp [addL]
theorem addL_snoc (s : Int × Bool) (a : List Int) (x : Int) : addL s (a ++ [x]) = addB (addL s a) x := by simp [addL]
def told (n : Int) : Int := 65535 - (if n = 0 then 0 else (n - 1) % 65535 + 1)
theorem told_small (n : Int) (h : 0 ≤ n) (h2 : n ≤ 65535) : told n = 65535 - n := by unfold told; split <;> omega
theorem addL_bd (l : List Int) (h : ∀ x ∈ l, 0 ≤ x ∧ x ≤ 255) (s : Int × Bool) (hs : 0 ≤ s.1 ∧ s.1 ≤ 65536) : 0 ≤ (addL s l).1 ∧ (addL s l).1 ≤ 65536 := by
  induction l generalizing s with
  | nil => exact hs
  | cons c l ih =>
    have h1 := h c (by simp)
    obtain ⟨n, o⟩ := s
    refine ih (fun x hx => h x (by simp [hx])) (addB (n, o) c) ?_
    unfold addB fold16; simp only at *; cases o <;> simp <;> omega
/-- bytes as numbers -/
def ints (l : List Nat) : List Int := l.map fun (n : Nat) => (n : Int)
theorem ints_bd {l : List Nat} (h : ∀ n ∈ l, n < 256) : ∀ x ∈ ints l, 0 ≤ x ∧ x ≤ 255 := by
  intro x hx
  obtain ⟨n, hn, rfl⟩ := List.mem_map.1 hx
  have := h n hn
  omega
theorem sumGo_addL : ∀ (l : List Nat) (o : Bool) (n : Nat), ((sumGo l o n : Nat) : Int) = (addL ((n : Int), o) (ints l)).1
  | [], o, n => rfl
  | c :: l, o, n => by
    have := sumGo_addL l (!o) ((if o then n + c else n + c * 256) % 65536 + (if o then n + c else n + c * 256) / 65536)
    simp only [sumGo]
    rw [this]
    show _ = (addL (addB ((n : Int), o) (c : Int)) (ints l)).1
    congr 2
    unfold addB fold16
    cases o <;> simp
theorem sumEnd_told (n : Nat) (h : n ≤ 65536) : ((sumEnd n : Nat) : Int) = told n := by
  unfold told
  by_cases h0 : n = 65536
  · subst h0; rfl
  · have e : sumEnd n = 65535 - n := by unfold sumEnd; simp only; omega
    rw [e]
    split <;> omega
theorem sumOf_told {l : List Nat} (h : ∀ n ∈ l, n < 256) : ((sumOf l : Nat) : Int) = told (addL (0, false) (ints l)).1 := by
  have hb := addL_bd (ints l) (ints_bd h) (0, false) (by decide)
  have e := sumGo_addL l false 0
  unfold sumOf
  have e : ((sumGo l false 0 : Nat) : Int) = (addL (0, false) (ints l)).1 := e
  rw [sumEnd_told _ (by omega), e]
theorem sumOf_lt (l : List Nat) : sumOf l < 65536 := by unfold sumOf sumEnd; simp only; omega

/-- parity, and the sum modulo 65535 -/
theorem addL_flag : ∀ (l : List Int) (s : Int × Bool), (addL s l).2 = (s.2 ^^ (l.length % 2 == 1))
  | [], s => by simp [addL]
  | c :: l, s => by
    show (addL (addB s c) l).2 = _
    rw [addL_flag l]
    have eb : (addB s c).2 = !s.2 := rfl
    rw [eb, List.length_cons]
    rcases Nat.mod_two_eq_zero_or_one l.length with hh | hh
    · have : (l.length + 1) % 2 = 1 := by omega
      cases s.2 <;> simp [hh, this]
    · have : (l.length + 1) % 2 = 0 := by omega
      cases s.2 <;> simp [hh, this]
/-- bytes that end in their own sum have the sum 0 -/
theorem sumOf_own {p : List Nat} (h : ∀ n ∈ p, n < 256) (he : p.length % 2 = 0) : sumOf (p ++ [sumOf p / 256, sumOf p % 256]) = 0 := by
  have hlt := sumOf_lt p
  have hq : ∀ n ∈ p ++ [sumOf p / 256, sumOf p % 256], n < 256 := by
    intro n hn
    rcases List.mem_append.1 hn with hn | hn
    · exact h n hn
    · simp at hn; omega
  have hs := sumOf_told h
  have hb := addL_bd (ints p) (ints_bd h) (0, false) (by decide)
  have hfl := addL_flag (ints p) (0, false)
  have hlen : (ints p).length = p.length := by simp [ints]
  have e := sumOf_told hq
  have e2 : ints (p ++ [sumOf p / 256, sumOf p % 256]) = ints p ++ [((sumOf p / 256 : Nat) : Int), ((sumOf p % 256 : Nat) : Int)] := by simp [ints]
  rw [e2, addL_append] at e
  obtain ⟨⟨G, o⟩, hG⟩ : ∃ g, addL (0, false) (ints p) = g := ⟨_, rfl⟩
  rw [hG] at hs hb hfl e
  have ho : o = false := by simp only at hfl; rw [hfl, hlen, he]; rfl
  subst ho
  simp only at hs hb
  have h0 : (sumOf (p ++ [sumOf p / 256, sumOf p % 256]) : Int) = 0 := by
    rw [e]
    simp only [addL, List.foldl_cons, List.foldl_nil, addB, fold16, Bool.not_false]
    simp only [Bool.false_eq_true, if_false, if_true]
    unfold told at hs ⊢
    generalize sumOf p = S at *
    split at hs <;> split <;> omega
  exact_mod_cast h0

section
variable {P : Program} {E : En} {N : Nat} {W : World} {F : Nat → Option Blk} {β : Bm} {h : Hp} {w : World}

/-- Cells that a slice shows. -/
def Shows (w : World) (A : Option Addr) (ws : List Value) : Prop := ∀ i u, ws[i]? = some u → ∃ b off, A = some ⟨b, off, none⟩ ∧ b < w.heap.size ∧ w.cell? ⟨b, off + i, none⟩ = some u

theorem shows_ok (m : Mem E N W F β h w) {x : SV} {v : Value} {n : Nat} {cs : List SV} (hx : VR E β x v) (hl : lenS x = some n) (hf : firstS h 1 n x = some cs) :
    ∃ A c ws, v = .slice A n c ∧ VRs E β cs ws ∧ ws.length = n ∧ Shows w A ws := by
  have row : ∀ {id off b o e : Nat} {l : List SV}, β id = some (b, o, e) → h.t.get id = some (.cells l) → lseg l off (Nat.mul n 1) = some cs →
      ∃ ws, VRs E β cs ws ∧ ws.length = n ∧ Shows w (some ⟨b, o + off, none⟩) ws := by
    intro id off b o e l hb hl hs
    obtain ⟨b', o', e', c, t, pre, vs, post, k1, k2, k3, k4, k5, k6, k7⟩ := m.row hl
    rw [hb] at k1; cases k1
    obtain ⟨e1, e2, e3⟩ := lseg_some hs
    have hm : Nat.mul n 1 = n := Nat.mul_one n
    rw [hm] at e1 e2 e3
    refine ⟨(vs.drop off).take n, ?_, ?_, ?_⟩
    · rw [e2]; exact (k5.drop off).take n
    · have h5 := (((k5.drop off).take n)).length
      rw [← e2, e3] at h5; exact h5.symm
    · intro i u hu
      refine ⟨b, o + off, rfl, (Array.getElem?_eq_some_iff.1 k3).1, ?_⟩
      rw [cell_row k3]
      have : vs[off + i]? = some u := by
        rw [List.getElem?_take] at hu
        split at hu
        · rw [List.getElem?_drop] at hu; exact hu
        · cases hu
      rw [← k7, Nat.add_assoc]
      exact cell_pre k6 this
  unfold lenS at hl
  unfold firstS at hf
  cases hx <;> simp only at hf hl <;> try (cases hl; done)
  · simp only [Option.some.injEq] at hf hl; subst hf; subst hl
    exact ⟨none, 0, [], rfl, .nil, rfl, fun i u hu => by simp at hu⟩
  · rename_i id off ln cp b o e hb
    simp only [Option.some.injEq] at hl; subst hl
    split at hf
    · rename_i l hl2
      obtain ⟨ws, h1, h2, h3⟩ := row hb hl2 hf
      exact ⟨_, _, ws, rfl, h1, h2, h3⟩
    · cases hf
  · rename_i id off ln sz' b o e c hb hn hc
    simp only [Option.some.injEq] at hl; subst hl
    split at hf
    · rename_i l hl2
      obtain ⟨ws, h1, h2, h3⟩ := row hb hl2 hf
      exact ⟨_, _, ws, rfl, h1, h2, h3⟩
    · cases hf
  · rename_i a c
    simp only [Option.some.injEq] at hl; subst hl
    simp only [Nat.beq_refl, cond_true, Option.some.injEq] at hf
    subst hf
    exact ⟨_, _, [], rfl, .nil, rfl, fun i u hu => by simp at hu⟩

theorem dens_append (E : En) : ∀ (a b : List Tm), dens E (a ++ b) = dens E a ++ dens E b
  | [], b => rfl
  | t :: a, b => by simp only [List.cons_append, dens, dens_append E a b]
theorem dens_length (E : En) : ∀ (a : List Tm), (dens E a).length = a.length
  | [] => rfl
  | t :: a => by simp only [dens, List.length_cons, dens_length E a]
/-- bytes as values -/
def u8s (l : List Nat) : List Value := l.map fun (n : Nat) => Value.int .u8 (n : Int)
theorem byteTs_ok : ∀ {l : List SV} {ts : List Tm} {ws : List Value}, byteTs l = some ts → VRs E β l ws → ws = u8s (dens E ts) ∧ ∀ n ∈ dens E ts, n < 256
  | [], ts, ws, h, hv => by
    simp only [byteTs, Option.some.injEq] at h; subst h
    cases hv
    exact ⟨rfl, by simp [dens]⟩
  | x :: l, ts, ws, h, hv => by
    simp only [byteTs] at h
    split at h
    · rename_i t ht
      split at h
      · rename_i r hr
        simp only [Option.some.injEq] at h; subst h
        cases hv with
        | cons _ v _ vs hx hs =>
          obtain ⟨h1, h2⟩ := byteTs_ok hr hs
          have hd : v = .int .u8 (den E t : Nat) ∧ den E t < 256 := by
            unfold byteT at ht
            split at ht
            · rename_i n
              cases hb : Nat.blt n 256
              · rw [hb] at ht; cases ht
              · rw [hb] at ht
                simp only [cond_true, Option.some.injEq] at ht; subst ht
                rw [blt_eq] at hb
                have hb : n < 256 := by simpa using hb
                cases hx
                simp only [den]
                rw [Nat.mod_eq_of_lt (by omega)]
                exact ⟨rfl, hb⟩
            · rename_i t'
              simp only [Option.some.injEq] at ht; subst ht
              cases hx
              rename_i hbits
              exact ⟨rfl, den_lt_of E hbits⟩
            · cases ht
          refine ⟨?_, ?_⟩
          · rw [hd.1, h1]; rfl
          · intro n hn
            simp only [dens, List.mem_cons] at hn
            rcases hn with rfl | hn
            · exact hd.2
            · exact h2 n hn
      · cases h
    · cases h

/-- what ends in its own sum has the sum 0 -/
theorem summed_ok : ∀ {e : Bool} {l r : List Tm}, summed e l r = true → (e = true ↔ r.length % 2 = 0) → (∀ n ∈ dens E (r.reverse ++ l), n < 256) → sumOf (dens E (r.reverse ++ l)) = 0
  | e, [], r, h, _, _ => by simp [summed] at h
  | e, [_], r, h, _, _ => by simp [summed] at h
  | e, [a, b], r, h, he, hb => by
    simp only [summed] at h
    split at h
    · rename_i p
      simp only [Bool.and_eq_true] at h
      have h1 := Tm.beq_eq _ _ h.1.2
      have h2 := Tm.beqs_eq _ _ h.2
      subst h1
      have e1 : dens E (r.reverse ++ [Tm.hi (.su p) 1, .bt (.su p) 0]) = dens E p ++ [sumOf (dens E p) / 256, sumOf (dens E p) % 256] := by
        rw [dens_append, ← h2]
        have := sumOf_lt (dens E p)
        simp only [dens, den, Nat.pow_one, Nat.pow_zero, Nat.div_one]
        rw [Nat.mod_eq_of_lt (show sumOf (dens E p) < 2 ^ 16 from this)]
      rw [e1] at hb ⊢
      refine sumOf_own (fun n hn => hb n (List.mem_append_left _ hn)) ?_
      rw [dens_length, h2, List.length_reverse]
      exact he.1 h.1.1
    · cases h
  | e, a :: b :: c :: l, r, h, he, hb => by
    simp only [summed] at h
    have := summed_ok (e := !e) (l := b :: c :: l) (r := a :: r) h (by
      rw [List.length_cons]
      cases e <;> simp at he ⊢ <;> omega) (by simpa using hb)
    simpa using this

/-- Pieces of bytes, as values that lie in a world. -/
def Pieces (w : World) (ws : List Value) (ls : List (List Nat)) : Prop := ws.length = ls.length ∧ ∀ (i : Nat) (ns : List Nat), ls[i]? = some ns → ns.length < 1048576 ∧ (∀ n ∈ ns, n < 256) ∧ ∃ (A : Option Addr) (c : Nat), ws[i]? = some (Value.slice A ns.length c) ∧ Shows w A (u8s ns)
theorem bytesAll_ok (m : Mem E N W F β h w) : ∀ {l : List SV} {bs : List Tm} {ws : List Value}, bytesAll h l = some bs → VRs E β l ws → ∃ ls : List (List Nat), ls.flatten = dens E bs ∧ Pieces w ws ls
  | [], bs, ws, hb, hv => by
    simp only [bytesAll, Option.some.injEq] at hb; subst hb
    cases hv
    exact ⟨[], rfl, rfl, fun i ns h => by simp at h⟩
  | x :: l, bs, ws, hb, hv => by
    simp only [bytesAll] at hb
    split at hb
    · rename_i a ha
      split at hb
      · rename_i r hr
        simp only [Option.some.injEq] at hb; subst hb
        cases hv with
        | cons _ v _ vs hx hs =>
          obtain ⟨ls, h1, h2, h3⟩ := bytesAll_ok m hr hs
          unfold bytesIn at ha
          split at ha
          · rename_i n hn
            cases hlt : Nat.blt n 1048576
            · rw [hlt] at ha; cases ha
            · rw [hlt] at ha
              simp only [cond_true] at ha
              rw [blt_eq] at hlt
              have hlt : n < 1048576 := by simpa using hlt
              split at ha
              · rename_i cs hcs
                obtain ⟨A, c, us, rfl, k1, k2, k3⟩ := shows_ok m hx hn hcs
                obtain ⟨q1, q2⟩ := byteTs_ok ha k1
                have hlen : (dens E a).length = n := by rw [← k2, q1]; simp [u8s]
                refine ⟨dens E a :: ls, ?_, by simp [h2], ?_⟩
                · rw [List.flatten_cons, h1, dens_append]
                · intro i ns hi
                  cases i with
                  | zero =>
                    simp only [List.getElem?_cons_zero, Option.some.injEq] at hi; subst hi
                    refine ⟨by omega, q2, A, c, by simp [hlen], ?_⟩
                    rw [← q1]; exact k3
                  | succ i =>
                    simp only [List.getElem?_cons_succ] at hi ⊢
                    exact h3 i ns hi
              · cases ha
          · cases ha
      · cases hb
    · cases hb
end
end
end Go.Proofs.YtgfahpnndmocbaaGreatDoor.Sx
