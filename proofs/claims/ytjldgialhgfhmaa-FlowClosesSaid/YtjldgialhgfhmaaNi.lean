/- Two flows, in plain Lean. Two flows, in plain Lean. Two flows, in plain Lean. Two flows, in plain Lean. Two flows, in plain Lean. Two flows, in plain Lean. Two flows, in plain Lean. Two flows, in plain Lean. Two flows, in plain Lean. Two flows, in plain Lean. Two flows, in plain Lean. Two flows, in plain Lean. Two flows, in plain Lean: what the calls ask for holds at all times. -/
import Derived.Test.YtjldgialhgfhmaaNh
namespace Go.Proofs.Ytjldgialhgfhmaa
set_option linter.unusedVariables false
set_option linter.unusedSimpArgs false
set_option linter.unusedVariables false
set_option linter.unusedSimpArgs false
/-- A segment that is the j-th piece; one that only tells. -/
def isPiece (s : Sm) (H : List Pc) (j : Nat) : Prop := ∃ p, H[j]? = some p ∧ s.seq = p.seq ∧ s.syn = p.syn ∧ s.fin = p.fin ∧ s.xs = p.xs
def isTell (s : Sm) : Prop := s.syn = false ∧ s.fin = false ∧ s.xs = []
/-- What hearing a segment leads to. -/
structure Hd (S S' : Fl) (f : Bool) (s : Sm) (iss : Int) (H : List Pc) (a m : Nat) (isj : Int) (J : List Pc) (mj : Nat) (b : Bool) (tick : Int) (a' m' : Nat) (new : List Ot) : Prop where
  sd : Sd S' iss H a' m' isj J b
  tm : Tm S' tick
  aa : a ≤ a' ∧ a' ≤ mj
  mm : m ≤ m'
  da : dat (J.take m') = dat (J.take m) ++ (if f = true then s.xs else [])
  out : S'.out = S.out ++ new
  pk : ∀ o ∈ new, Pk o.seg iss H isj J m' b
  n1 : new.length ≤ 1
  wt : ∀ o ∈ new, (isTell o.seg ∧ o.seg.seq = pos iss H H.length ∧ o.seg.acks = true ∧ o.seg.ack = pos isj J m') ∨ (S.st = 2 ∧ s.syn = true ∧ s.acks = false ∧ isPiece o.seg H 0)
  quiet : isTell s → s.seq = pos isj J J.length → new = []
  tellm : isTell s → m' = m
  over : 10 ≤ S.st → S' = S ∧ new = []
  resp : S'.st < 10 → S.st < 10 → ∀ j, isPiece s J j → (S.st = 1 → j = 0) → new ≠ [] ∧ (j ≤ m → j + 1 ≤ m')
  ackd : s.syn = false → 2 ≤ S.st → S.st < 10 → ∀ j, s.acks = true → s.ack = pos iss H j → j ≤ H.length → j ≤ a'
  ack1 : isPiece s J 0 → S.st = 1 → s.acks = true → 1 ≤ a'
  aj : a < a' → s.acks = true ∧ s.ack = pos iss H a'
  fut : (S.has = true → tick < S.at_) → S'.has = true → tick < S'.at_
  ov : S'.st = 11 → S.st = 11
  ten : S'.st = 10 → S.st = 8 ∨ S.st = 10
  eight : S.st = 8 → S'.st = 8 ∨ S'.st = 10
  pm : ∀ j, isPiece s J j → m' = m ∨ (j = m ∧ m' = m + 1)
  dup : S.st = 2 → s.syn = true → s.acks = false → ∀ o ∈ new, isPiece o.seg H 0
  tim : (a' = a ∧ S'.has = S.has ∧ S'.at_ = S.at_ ∧ S'.tries = S.tries ∧ (S'.st = 9 → S.st = 9)) ∨ a < a' ∨ (S'.st = 9 ∧ S.st ≠ 9) ∨ (S.st = 2 ∧ s.syn = true ∧ s.acks = false)
section
variable {S : Fl} {s : Sm} {iss isj : Int} {H J : List Pc} {a m mj : Nat} {b bj : Bool} {tick : Int}
theorem piece_syn (hJ : Hist isj J) {j : Nat} (h : isPiece s J j) : s.syn = true ↔ j = 0 := by
  obtain ⟨p, h1, h2, h3, h4, h5⟩ := h
  rw [h3]
  exact hJ.syn j p h1
theorem Pk.syn0 (hp : Pk s isj J iss H mj bj) (hJ : Hist isj J) (h : s.syn = true) : isPiece s J 0 := by
  rcases hp.what with ⟨j, p, h1, h2⟩ | ⟨h1, _⟩
  · have hpc : isPiece s J j := ⟨p, h1, h2⟩
    have := (piece_syn hJ hpc).1 h
    subst this
    exact hpc
  · rw [h1] at h; cases h
theorem piece_tell (hJ : Hist isj J) {j : Nat} (h : isPiece s J j) : ¬ isTell s := by
  rintro ⟨a1, a2, a3⟩
  obtain ⟨p, h1, h2, h3, h4, h5⟩ := h
  have := (hJ.seq j p h1).2
  unfold long at this
  rw [← h3, ← h4, ← h5, a1, a2, a3] at this
  simp at this
theorem piece_pos (hJ : Hist isj J) {j : Nat} (h : isPiece s J j) : s.seq = pos isj J j ∧ j < J.length := by
  obtain ⟨p, h1, h2, h3, h4, h5⟩ := h
  exact ⟨h2.trans (hJ.seq j p h1).1, (List.getElem?_eq_some_iff.1 h1).1⟩
/-- What it tells is a packet. -/
theorem tell_pk (hd : Sd S iss H a m isj J b) (hH : 1 ≤ H.length) (hm : 1 ≤ m) : Pk (S.telling false).seg iss H isj J m b ∧ isTell (S.telling false).seg ∧ (S.telling false).seg.seq = pos iss H H.length ∧ (S.telling false).seg.acks = true ∧ (S.telling false).seg.ack = pos isj J m := by
  refine ⟨⟨.inr ⟨rfl, rfl, rfl, H.length, hH, Nat.le_refl _, hd.e⟩, fun _ => ⟨m, hm, Nat.le_refl _, hd.rcv hm⟩, rfl⟩, ⟨rfl, rfl, rfl⟩, hd.e, rfl, hd.rcv hm⟩
theorem Sd.tell (hd : Sd S iss H a m isj J b) : Sd S.tell iss H a m isj J b := ⟨hd.b1, hd.b2, hd.ps, hd.e, hd.al, hd.ml, hd.rcv, hd.s1, hd.s2, hd.s3, hd.so, hd.sf, hd.sd, hd.sr, hd.sx, hd.rng⟩
theorem Tm.tell (ht : Tm S tick) : Tm S.tell tick := ⟨ht.lo, ht.w, ht.hi, ht.at_, ht.tr, ht.r, ht.k⟩
theorem nofin_H1 (hH : Hist iss H) (h : H.length = 1) : ¬ finH H := by
  have := hH.nofin1
  rw [List.take_of_length_le (by omega)] at this
  exact this
/-- The acknowledgement in a segment. -/
theorem acks_sd (hd : Sd S iss H a m isj J b) (ht : Tm S tick) (hH : Hist iss H) (hJ : Hist isj J) (h2 : 2 ≤ S.st) (h10 : S.st < 10) {j : Nat} (hj : j ≤ H.length) (hj1 : 1 ≤ j) :
    ∃ S1, (if S.ackable (pos iss H j) then S.acks (pos iss H j) tick else S) = S1 ∧ ∃ a1, Sd S1 iss H a1 m isj J b ∧ Tm S1 tick ∧ a ≤ a1 ∧ a1 ≤ max a j ∧ j ≤ a1 ∧ S1.out = S.out ∧ S1.st ≠ 2 ∧ S1.rcv = S.rcv ∧
      ((a1 = a ∧ S1 = S) ∨ (a < a1 ∧ a1 = j ∧ (S1.has = true → tick < S1.at_) ∧ S1.st ≠ 11 ∧ (S1.st = 10 → S.st = 8) ∧ (S.st = 8 → S1.st = 8 ∨ S1.st = 10))) := by
  rcases Nat.lt_or_ge j a with hlt | hge
  · rw [if_neg (ackd_no hH hd.ps hd.e hd.al hlt)]
    exact ⟨S, rfl, a, hd, ht, Nat.le_refl _, by omega, by omega, rfl, fun h => by have := hd.s2 h; omega, rfl, .inl ⟨rfl, rfl⟩⟩
  · rw [if_pos (ackd_is hH hd.ps hd.e hge hj).1]
    rcases Nat.eq_or_lt_of_le hge with rfl | hlt
    · rw [acks_same hH hd.ps hd.e hd.al]
      exact ⟨S, rfl, a, hd, ht, Nat.le_refl _, by omega, by omega, rfl, fun h => by have := hd.s2 h; omega, rfl, .inl ⟨rfl, rfl⟩⟩
    · classical
      have hh2 : S.st = 2 → H.length = 1 ∧ a = 0 := fun h => ⟨(hd.s2 h).1, (hd.s2 h).2.1⟩
      have hh2' : S.st ≠ 2 → 1 ≤ a ∨ ¬ finH H := fun h => .inl (hd.s3 (by omega) (by omega)).1
      obtain ⟨S', e0, p1, p2, p3, p4, p5, p6, p7, p8, p9⟩ := acks_is (tick := tick) hH hd.ps hd.e hlt hj ht.r hh2 hh2'
      rw [e0]
      refine ⟨S', rfl, j, ?_, ?_, hge, by omega, Nat.le_refl _, p4, ?_, p3, .inr ⟨hlt, rfl, fun h => ?_, ?_, fun h => ?_, fun h => ?_⟩⟩
      · have hf : finH H ∨ ¬ finH H := Classical.em _
        have d1 := hd.s2; have d2 := hd.s3; have d3 := hd.so; have d4 := hd.sf; have d5 := hd.sd; have d6 := hd.sr; have d7 := hd.sx
        unfold stAck at p5
        have n1 : H.length = 1 → ¬ finH H := nofin_H1 hH
        have n2 := hJ.nofin1
        refine ⟨fun h => ?_, fun h => ?_, p1, p2.trans hd.e, hj, hd.ml, fun h => p3.trans (hd.rcv h), fun h => ?_, fun h => ?_, fun h1 h2 => ?_, fun h => ?_, fun h => ?_, fun h => ?_, fun h => ?_, fun h1 h2 => ?_, ?_⟩
        · rw [p5] at h; split at h <;> (try split at h) <;> (try split at h) <;> (try split at h) <;> (try split at h) <;> omega
        · rw [p5] at h; split at h <;> (try split at h) <;> (try split at h) <;> (try split at h) <;> (try split at h) <;> omega
        · rw [p5] at h; split at h <;> (try split at h) <;> (try split at h) <;> (try split at h) <;> (try split at h) <;> omega
        · rw [p5] at h; split at h <;> (try split at h) <;> (try split at h) <;> (try split at h) <;> (try split at h) <;> omega
        · refine ⟨hj1, ?_⟩
          by_cases hs : S.st = 2
          · have := d1 hs; omega
          · exact (d2 (by omega) (by omega)).2
        · by_cases hs : S.st = 2
          · exact n1 (d1 hs).1
          · rw [if_neg hs] at p5
            apply d3
            by_cases hall : j = H.length ∧ finH H
            · rw [if_pos hall] at p5
              split at p5
              · omega
              · split at p5
                · omega
                · split at p5
                  · omega
                  · omega
            · rw [if_neg hall] at p5
              omega
        · by_cases hs : S.st = 2
          · rw [if_pos hs] at p5; omega
          · rw [if_neg hs] at p5
            by_cases hall : j = H.length ∧ finH H
            · rw [if_pos hall] at p5
              split at p5
              · omega
              · split at p5
                · omega
                · split at p5
                  · omega
                  · omega
            · rw [if_neg hall] at p5
              have := d4 (by omega)
              refine ⟨this.1, ?_⟩
              rcases Nat.lt_or_ge j H.length with g | g
              · exact g
              · exact absurd ⟨by omega, this.1⟩ hall
        · by_cases hs : S.st = 2
          · rw [if_pos hs] at p5; omega
          · rw [if_neg hs] at p5
            by_cases hall : j = H.length ∧ finH H
            · exact ⟨hall.2, hall.1⟩
            · rw [if_neg hall] at p5
              have := d5 (by omega)
              omega
        · by_cases hs : S.st = 2
          · rw [(d1 hs).2.2]; exact n2
          · apply d6
            rw [if_neg hs] at p5
            by_cases hall : j = H.length ∧ finH H
            · rw [if_pos hall] at p5
              split at p5
              · omega
              · split at p5
                · omega
                · split at p5
                  · omega
                  · omega
            · rw [if_neg hall] at p5
              omega
        · apply d7
          · by_cases hs : S.st = 2
            · rw [if_pos hs] at p5; omega
            · rw [if_neg hs] at p5
              split at p5
              · split at p5
                · omega
                · split at p5
                  · omega
                  · split at p5
                    · omega
                    · omega
              · omega
          · omega
        · have := hd.rng
          rw [p5]
          split <;> (try split) <;> (try split) <;> (try split) <;> (try split) <;> omega
      · have e9 : S.st ≠ 9 := fun h => by have := hd.sd (by omega); omega
        have e10 : S'.st = 10 → S'.ps = [] := fun h => by
          rw [p5] at h
          unfold stAck at h
          rw [p1]
          split at h
          · omega
          · split at h
            · rename_i hall
              rw [hall.1, List.drop_length]
            · omega
        have hle : S'.st ≤ 10 := by
          rw [p5]; unfold stAck
          split <;> (try split) <;> (try split) <;> (try split) <;> (try split) <;> omega
        refine ⟨fun h => ?_, fun h => ?_, fun h => ?_, fun h => ?_, by rw [p6]; omega, p7, by omega⟩
        · rcases p9 with ⟨g, _⟩ | ⟨g, _⟩
          · omega
          · exact g
        · rcases p9 with ⟨_, g1, g2⟩ | ⟨_, _, g⟩
          · exact ⟨g1, by omega⟩
          · exact absurd (g h) e9
        · rcases p9 with ⟨g, _⟩ | ⟨g, _⟩
          · omega
          · have := e10 (by omega)
            cases hh : S'.has
            · rfl
            · exact absurd this (g.1 hh)
        · rcases p9 with ⟨_, g1, g2⟩ | ⟨_, g, _⟩
          · omega
          · exact (g h).2
      · intro h
        rw [p5] at h
        unfold stAck at h
        split at h <;> (try split at h) <;> (try split at h) <;> (try split at h) <;> (try split at h) <;> omega
      · rcases p9 with ⟨_, _, g⟩ | ⟨_, g, _⟩
        · omega
        · have := (g h).1; omega
      · rw [p5]; unfold stAck
        split <;> (try split) <;> (try split) <;> (try split) <;> (try split) <;> omega
      · rw [p5] at h; unfold stAck at h
        split at h <;> (try split at h) <;> (try split at h) <;> (try split at h) <;> (try split at h) <;> omega
      · rw [p5]; unfold stAck
        split <;> (try split) <;> (try split) <;> (try split) <;> (try split) <;> omega
end
end Go.Proofs.Ytjldgialhgfhmaa
namespace Go.Proofs.Ytjldgialhgfhmaa
set_option linter.unusedVariables false
set_option linter.unusedSimpArgs false
set_option linter.unusedVariables false
set_option linter.unusedSimpArgs false
section
variable {S : Fl} {s : Sm} {iss isj : Int} {H J : List Pc} {a m mj : Nat} {b bj : Bool} {tick : Int}
theorem fin_succ {p : Pc} (h : J[m]? = some p) : finH (J.take (m + 1)) ↔ finH (J.take m) ∨ p.fin = true := by
  have e : J.take (m + 1) = J.take m ++ [p] := by rw [List.take_add_one, h]; rfl
  rw [e]
  constructor
  · rintro ⟨q, h1, h2⟩
    rcases List.mem_append.1 h1 with h1 | h1
    · exact .inl ⟨q, h1, h2⟩
    · simp at h1
      subst h1
      exact .inr h2
  · rintro (⟨q, h1, h2⟩ | h2)
    · exact ⟨q, (by simp [h1]), h2⟩
    · exact ⟨p, (by simp), h2⟩
/-- Data, or what tells, heard. -/
theorem takes_sd (hd : Sd S iss H a m isj J b) (ht : Tm S tick) (hH : Hist iss H) (hJ : Hist isj J) (hp : Pk s isj J iss H mj bj) (hs : s.syn = false) (h2 : 2 ≤ S.st) (hn2 : S.st ≠ 2) (h10 : S.st < 10) :
    ∃ S' f m' new, S.takes s tick = (S', f) ∧ Sd S' iss H a m' isj J b ∧ Tm S' tick ∧ m ≤ m' ∧ dat (J.take m') = dat (J.take m) ++ (if f = true then s.xs else []) ∧ S'.out = S.out ++ new ∧ (new = [] ∨ ∃ o, new = [o] ∧ Pk o.seg iss H isj J m' b ∧ isTell o.seg ∧ o.seg.seq = pos iss H H.length ∧ o.seg.acks = true ∧ o.seg.ack = pos isj J m') ∧
      (isTell s → s.seq = pos isj J J.length → new = []) ∧ (isTell s → m' = m) ∧ (∀ j, isPiece s J j → new ≠ [] ∧ (j ≤ m → j + 1 ≤ m')) ∧ (∀ j, isPiece s J j → m' = m ∨ (j = m ∧ m' = m + 1)) ∧ ((S.has = true → tick < S.at_) → S'.has = true → tick < S'.at_) ∧ (S'.st ≠ 11 ∧ S'.st ≠ 10 ∧ (S.st = 8 → S'.st = 8)) ∧ ((S'.has = S.has ∧ S'.at_ = S.at_ ∧ S'.tries = S.tries ∧ (S'.st = 9 → S.st = 9)) ∨ (S'.st = 9 ∧ S.st ≠ 9)) := by
  have h3 := hd.s3 (by omega) (by omega)
  have hHl := hH.len
  have hrcv := hd.rcv h3.2
  unfold Fl.takes
  by_cases hc : s.seq ≠ S.rcv ∨ ¬ (S.st = 3 ∨ S.st = 4 ∨ S.st = 5)
  · rw [if_pos hc]
    by_cases hl : isLong s ∨ isBefore s.seq S.rcv
    · rw [if_pos hl]
      obtain ⟨k1, k2, k3, k4, k5⟩ := tell_pk hd hHl h3.2
      refine ⟨S.tell, false, m, [S.telling false], rfl, hd.tell, ht.tell, Nat.le_refl _, (by simp), rfl, .inr ⟨_, rfl, k1, k2, k3, k4, k5⟩, fun t1 t2 => ?_, fun _ => rfl, fun j hj => ⟨(by simp), fun hjm => ?_⟩, fun _ _ => .inl rfl, id, ⟨(by show S.st ≠ 11; omega), (by show S.st ≠ 10; omega), id⟩, .inl ⟨rfl, rfl, rfl, id⟩⟩
      · exfalso
        rcases hl with hl | hl
        · unfold isLong at hl
          rw [t1.2.2, t1.2.1] at hl
          simp at hl
        · unfold isBefore at hl
          rw [t2, hrcv] at hl
          rcases Nat.eq_or_lt_of_le hd.ml with e | hlt
          · rw [← e] at hl
            have : dist (pos isj J m) (pos isj J m) = 0 := by unfold dist; omega
            omega
          · have := dist_neg hJ hlt (Nat.le_refl _)
            have h1 := off_tot J J.length
            have h2 := off_le (H := J) (Nat.le_of_lt hlt)
            have h4 := hJ.small
            omega
      · rcases Nat.eq_or_lt_of_le hjm with e | hlt
        · exfalso
          have hq := piece_pos hJ hj
          rw [e] at hq
          rw [hq.1, hrcv] at hc
          have := hd.rng
          have := hd.sx
          have hm : m = J.length := by
            rcases hc with h | h
            · exact absurd rfl h
            · exact (this (by omega) (by omega)).1
          omega
        · omega
    · rw [if_neg hl]
      refine ⟨S, false, m, [], rfl, hd, ht, Nat.le_refl _, (by simp), (by simp), .inl rfl, fun _ _ => rfl, fun _ => rfl, fun j hj => ?_, fun _ _ => .inl rfl, id, ⟨(by omega), (by omega), id⟩, .inl ⟨rfl, rfl, rfl, id⟩⟩
      exfalso
      apply hl
      refine .inl ?_
      obtain ⟨p, g1, g2, g3, g4, g5⟩ := hj
      have := (hJ.seq j p g1).2
      unfold long at this
      unfold isLong
      rw [← g3, ← g4, ← g5, hs] at this
      by_cases hf : s.fin = true
      · exact .inr hf
      · left
        simp [hf] at this
        exact this
  · rw [if_neg hc]
    have hseq : s.seq = S.rcv := Classical.byContradiction fun h => hc (.inl h)
    have hst : S.st = 3 ∨ S.st = 4 ∨ S.st = 5 := Classical.byContradiction fun h => hc (.inr h)
    have hnf := hd.sr hst
    rcases hp.what with ⟨j, p, g1, g2⟩ | ⟨t1, t2, t3, j, t4, t5, t6⟩
    · have hpc : isPiece s J j := ⟨p, g1, g2⟩
      have hq := piece_pos hJ hpc
      have hjm : j = m := pos_inj hJ (by omega) hd.ml (by rw [← hq.1, hseq, hrcv])
      subst hjm
      obtain ⟨g2, g3, g4, g5⟩ := g2
      have hlong := (hJ.seq j p g1).2
      by_cases hf : s.fin = true
      · rw [if_pos hf]
        have hpf : p.fin = true := g4 ▸ hf
        obtain ⟨hl, hx⟩ := hJ.fin j p g1 hpf
        have hfJ : finH J := ⟨p, List.mem_of_getElem? g1, hpf⟩
        have hr1 : onN (onN S.rcv s.xs.length) 1 = pos isj J (j + 1) := by
          rw [pos_succ g1, ← hrcv, g5, hx]
          have hl1 : long p = 1 := by unfold long; rw [hx, hpf, ← g3, hs]; simp
          rw [hl1]
          unfold onN
          simp
        have hdat : dat (J.take (j + 1)) = dat (J.take j) ++ (if true = true then s.xs else []) := by rw [dat_succ g1, g5]; simp
        have hends : endedS S.st = 9 ∧ S.st = 5 ∨ endedS S.st = 6 ∧ S.st = 3 ∨ endedS S.st = 7 ∧ S.st = 4 := by unfold endedS; rcases hst with h | h | h <;> rw [h] <;> simp
        have d4 := hd.so; have d5 := hd.sf; have d6 := hd.sd
        by_cases he : endedS S.st = 9
        · have hs5 : S.st = 5 := by omega
          have hE : (({ S with rcv := onN S.rcv s.xs.length } : Fl).ends tick) = ({ S with rcv := onN (onN S.rcv s.xs.length) 1 } : Fl).waits tick := by unfold Fl.ends; rw [if_pos (show endedS ({ S with rcv := onN S.rcv s.xs.length } : Fl).st = 9 from he)]
          rw [hE]
          have hsd : Sd (({ S with rcv := onN (onN S.rcv s.xs.length) 1 } : Fl).waits tick) iss H a (j + 1) isj J b :=
            ⟨fun h => (by cases h), fun h => (by cases h), hd.ps, hd.e, hd.al, (by omega), fun _ => hr1, fun h => (by cases h), fun h => (by cases h), fun _ _ => ⟨h3.1, (by omega)⟩, fun h => (by rcases h with h | h <;> cases h), fun h => (by rcases h with h | h | h <;> cases h), fun _ => d6 (by omega), fun h => (by rcases h with h | h | h <;> cases h), fun _ _ => ⟨hl, hfJ⟩, (by show 1 ≤ (9 : Int) ∧ (9 : Int) ≤ 11; omega)⟩
          have htm : Tm (({ S with rcv := onN (onN S.rcv s.xs.length) 1 } : Fl).waits tick) tick :=
            ⟨fun h => absurd (show (9 : Int) ≤ 8 from h) (by omega), fun _ => ⟨rfl, Int.le_refl _⟩, fun h => absurd (show 10 ≤ (9 : Int) from h) (by omega), fun _ => (by show tick + 8 ≤ tick + 16; omega), ⟨ht.tr.1, fun _ => ht.tr.2 (by omega)⟩, ht.r, ht.k⟩
          obtain ⟨k1, k2, k3, k4, k5⟩ := tell_pk hsd hHl (by omega)
          refine ⟨_, true, j + 1, [_], rfl, hsd.tell, htm.tell, (by omega), hdat, rfl, .inr ⟨_, rfl, k1, k2, k3, k4, k5⟩, fun t1 _ => (by rw [t1.2.1] at hf; cases hf), fun t1 => (by rw [t1.2.1] at hf; cases hf), fun i hi => ⟨(by simp), fun hi2 => (by omega)⟩, fun i hi => (by have g1 := piece_pos hJ hi; have g2 := pos_inj hJ (Nat.le_of_lt g1.2) (Nat.le_of_lt hq.2) (g1.1.symm.trans hq.1); exact .inr ⟨g2, rfl⟩), fun _ _ => (by show tick < tick + 8; omega), ⟨(by show (9 : Int) ≠ 11; omega), (by show (9 : Int) ≠ 10; omega), fun h => (by omega)⟩, .inr ⟨rfl, (by omega)⟩⟩
        · have hE : (({ S with rcv := onN S.rcv s.xs.length } : Fl).ends tick) = ({ S with rcv := onN (onN S.rcv s.xs.length) 1, st := endedS S.st } : Fl) := by unfold Fl.ends; rw [if_neg (show ¬ endedS ({ S with rcv := onN S.rcv s.xs.length } : Fl).st = 9 from he)]
          rw [hE]
          obtain ⟨st', hst'⟩ : ∃ z, endedS S.st = z := ⟨_, rfl⟩
          rw [hst'] at hends he ⊢
          have hsd : Sd ({ S with rcv := onN (onN S.rcv s.xs.length) 1, st := st' } : Fl) iss H a (j + 1) isj J b :=
            ⟨fun h => (by have h : st' = 1 := h; omega), fun h => (by have h : st' = 2 := h; omega), hd.ps, hd.e, hd.al, (by omega), fun _ => hr1, fun h => (by have h : st' = 1 := h; omega), fun h => (by have h : st' = 2 := h; omega), fun _ _ => ⟨h3.1, (by omega)⟩, fun h => (by have h : st' = 3 ∨ st' = 6 := h; exact d4 (by omega)), fun h => (by have h : st' = 4 ∨ st' = 7 ∨ st' = 8 := h; exact d5 (by omega)), fun h => (by have h : st' = 5 ∨ st' = 9 ∨ st' = 10 := h; omega), fun h => (by have h : st' = 3 ∨ st' = 4 ∨ st' = 5 := h; omega), fun _ _ => ⟨hl, hfJ⟩, (by show 1 ≤ st' ∧ st' ≤ 11; omega)⟩
          have htm : Tm ({ S with rcv := onN (onN S.rcv s.xs.length) 1, st := st' } : Fl) tick :=
            ⟨fun h => ht.lo (by omega), fun h => (by have h : st' = 9 := h; omega), fun h => (by have h : 10 ≤ st' := h; omega), ht.at_, ⟨ht.tr.1, fun _ => ht.tr.2 (by omega)⟩, ht.r, ht.k⟩
          obtain ⟨k1, k2, k3, k4, k5⟩ := tell_pk hsd hHl (by omega)
          refine ⟨_, true, j + 1, [_], rfl, hsd.tell, htm.tell, (by omega), hdat, rfl, .inr ⟨_, rfl, k1, k2, k3, k4, k5⟩, fun t1 _ => (by rw [t1.2.1] at hf; cases hf), fun t1 => (by rw [t1.2.1] at hf; cases hf), fun i hi => ⟨(by simp), fun hi2 => (by omega)⟩, fun i hi => (by have g1 := piece_pos hJ hi; have g2 := pos_inj hJ (Nat.le_of_lt g1.2) (Nat.le_of_lt hq.2) (g1.1.symm.trans hq.1); exact .inr ⟨g2, rfl⟩), id, ⟨(by show st' ≠ 11; omega), (by show st' ≠ 10; omega), fun h => (by omega)⟩, .inl ⟨rfl, rfl, rfl, fun h => (by have h : st' = 9 := h; omega)⟩⟩
      · rw [if_neg hf]
        have hpf : p.fin = false := by rw [← g4]; simpa using hf
        have hl1 : long p = s.xs.length := by unfold long; rw [hpf, ← g3, hs, g5]; simp
        have hlo : isLong s := .inl (by omega)
        rw [if_pos hlo]
        have hr1 : onN S.rcv s.xs.length = pos isj J (j + 1) := by rw [pos_succ g1, ← hrcv, hl1]
        have hdat : dat (J.take (j + 1)) = dat (J.take j) ++ (if true = true then s.xs else []) := by rw [dat_succ g1, g5]; simp
        have hsd : Sd ({ S with rcv := onN S.rcv s.xs.length } : Fl) iss H a (j + 1) isj J b :=
          ⟨hd.b1, hd.b2, hd.ps, hd.e, hd.al, (by omega), fun _ => hr1, fun h => (by have h : S.st = 1 := h; omega), fun h => absurd h hn2, fun _ _ => ⟨h3.1, (by omega)⟩, hd.so, hd.sf, hd.sd, fun _ => (by rw [fin_succ g1, hpf]; rintro (h | h); exact hnf h; cases h), fun h _ => (by have h : 6 ≤ S.st := h; omega), hd.rng⟩
        have htm : Tm ({ S with rcv := onN S.rcv s.xs.length } : Fl) tick := ⟨ht.lo, ht.w, ht.hi, ht.at_, ht.tr, ht.r, ht.k⟩
        obtain ⟨k1, k2, k3, k4, k5⟩ := tell_pk hsd hHl (by omega)
        exact ⟨_, true, j + 1, [_], rfl, hsd.tell, htm.tell, (by omega), hdat, rfl, .inr ⟨_, rfl, k1, k2, k3, k4, k5⟩, fun t1 _ => (by rw [t1.2.2] at hl1; simp at hl1; omega), fun t1 => (by rw [t1.2.2] at hl1; simp at hl1; omega), fun i hi => ⟨(by simp), fun hi2 => (by omega)⟩, fun i hi => (by have g1 := piece_pos hJ hi; have g2 := pos_inj hJ (Nat.le_of_lt g1.2) (Nat.le_of_lt hq.2) (g1.1.symm.trans hq.1); exact .inr ⟨g2, rfl⟩), id, ⟨(by show S.st ≠ 11; omega), (by show S.st ≠ 10; omega), id⟩, .inl ⟨rfl, rfl, rfl, id⟩⟩
    · rw [if_neg (by rw [t2]; simp), if_neg (by unfold isLong; rw [t2, t3]; simp)]
      have hr0 : onN S.rcv s.xs.length = S.rcv := by
        rw [t3, hrcv]
        have := pos_bd isj J m
        unfold onN
        simp
        omega
      rw [hr0]
      refine ⟨S, true, m, [], rfl, hd, ht, Nat.le_refl _, (by rw [t3]; simp), (by simp), .inl rfl, fun _ _ => rfl, fun _ => rfl, fun i hi => absurd ⟨t1, t2, t3⟩ (piece_tell hJ hi), fun i hi => absurd ⟨t1, t2, t3⟩ (piece_tell hJ hi), id, ⟨(by omega), (by omega), id⟩, .inl ⟨rfl, rfl, rfl, id⟩⟩
end
end Go.Proofs.Ytjldgialhgfhmaa
namespace Go.Proofs.Ytjldgialhgfhmaa
set_option linter.unusedVariables false
set_option linter.unusedSimpArgs false
set_option linter.unusedVariables false
set_option linter.unusedSimpArgs false
section
variable {S : Fl} {s : Sm} {iss isj : Int} {H J : List Pc} {a m mj : Nat} {b bj : Bool} {tick : Int}
/-- Nothing is done. -/
theorem Hd.none_ (hd : Sd S iss H a m isj J b) (ht : Tm S tick) (ha : a ≤ mj) (hr : S.st < 10 → ∀ j, isPiece s J j → (S.st = 1 → j = 0) → False) (hk : s.syn = false → 2 ≤ S.st → S.st < 10 → ∀ j, s.acks = true → s.ack = pos iss H j → j ≤ H.length → j ≤ a) (h1 : isPiece s J 0 → S.st = 1 → s.acks = true → 1 ≤ a) :
    Hd S S false s iss H a m isj J mj b tick a m [] :=
  ⟨hd, ht, ⟨Nat.le_refl _, ha⟩, Nat.le_refl _, (by simp), (by simp), fun o ho => (by simp at ho), (by simp), fun o ho => (by simp at ho), fun _ _ => rfl, fun _ => rfl, fun _ => ⟨rfl, rfl⟩, fun g _ j h1 h2 => (hr g j h1 h2).elim, hk, h1, fun h => absurd h (Nat.lt_irrefl _), id, id, .inr, .inl, fun _ _ => .inl rfl, fun _ _ _ o ho => (by simp at ho), .inl ⟨rfl, rfl, rfl, rfl, id⟩⟩
theorem arm_tm {S : Fl} (hr : S.r.ok) (hk : S.k ≤ 16) (t : Int) : t + 2 ≤ (S.arm t).at_ ∧ (S.arm t).at_ ≤ t + 16 := by
  have := wait_bd S.r.base S.k (Est.base_bd S.r).1
  show t + 2 ≤ t + wait S.r.base S.k ∧ t + wait S.r.base S.k ≤ t + 16
  omega
/-- What is sent again are its pieces. -/
theorem again_pk (hd : Sd S iss H a m isj J b) (h10 : S.st < 10) {p : Pc} (hH : Hist iss H) {j : Nat} (hj : H[j]? = some p) (haj : a ≤ j) : Pk (S.putting p).seg iss H isj J m b ∧ isPiece (S.putting p).seg H j := by
  have hpc : isPiece (S.putting p).seg H j := ⟨p, hj, rfl, rfl, rfl, rfl⟩
  have hr := hd.rng
  refine ⟨⟨.inl ⟨j, hpc⟩, fun h => ?_, ?_⟩, hpc⟩
  · have h1 : S.st ≠ 1 := by
      have h : decide (S.st ≠ 1) = true := h
      simpa using h
    have hm : 1 ≤ m := by
      by_cases h2 : S.st = 2
      · have := hd.s2 h2; omega
      · exact (hd.s3 (by omega) (by omega)).2
    refine ⟨m, hm, Nat.le_refl _, ?_⟩
    show (if S.st = 1 then 0 else S.rcv) = _
    rw [if_neg h1]
    exact hd.rcv hm
  · show decide (S.st ≠ 1) = !(p.syn && b)
    have hs := hH.syn j p hj
    by_cases h1 : S.st = 1
    · rw [hd.b1 h1]
      have := hd.s1 h1
      have hlt := (List.getElem?_eq_some_iff.1 hj).1
      rw [hs.2 (by omega)]
      simp [h1]
    · have : (p.syn && b) = false := by
        cases hb : b
        · simp
        · have h2 : S.st ≠ 2 := fun h => by have := hd.b2 h; rw [hb] at this; cases this
          have := hd.s3 (by omega) (by omega)
          cases hp : p.syn
          · rfl
          · have := hs.1 hp; omega
      rw [this]
      simp [h1]
theorem hear_all (hd : Sd S iss H a m isj J b) (ht : Tm S tick) (hH : Hist iss H) (hJ : Hist isj J) (hp : Pk s isj J iss H mj bj) (ham : a ≤ mj) (hmj : mj ≤ H.length) (hbj : b = true → bj = false) :
    ∃ S' f a' m' new, S.hear s tick = (S', f) ∧ Hd S S' f s iss H a m isj J mj b tick a' m' new := by
  have hHl := hH.len
  have hrng := hd.rng
  unfold Fl.hear
  by_cases h10 : 10 ≤ S.st
  · rw [if_pos h10]
    exact ⟨S, false, a, m, [], rfl, Hd.none_ hd ht ham (fun h => by omega) (fun _ _ h => by omega) (fun _ h => by omega)⟩
  rw [if_neg h10]
  by_cases h1 : S.st = 1
  · rw [if_pos h1]
    obtain ⟨e1, e2, e3⟩ := hd.s1 h1
    unfold Fl.dialed
    by_cases hc : s.syn = true ∧ s.acks = true ∧ s.ack = S.e
    · rw [if_pos hc]
      have hpc := hp.syn0 hJ hc.1
      have hq := piece_pos hJ hpc
      have hr1 : onN s.seq 1 = pos isj J 1 := by
        obtain ⟨p, g1, g2, g3, g4, g5⟩ := hpc
        rw [g2, (hJ.seq 0 p g1).1, pos_succ g1]
        have hx := hJ.one p g1
        have : long p = 1 := by unfold long; rw [hx.1, hx.2, (hJ.syn 0 p g1).2 rfl]; simp
        rw [this]
        rfl
      have hack : s.ack = pos iss H 1 := by rw [hc.2.2, hd.e, e1]
      obtain ⟨j, j1, j2, j3⟩ := hp.ack hc.2.1
      classical
      obtain ⟨S', e0, p1, p2, p3, p4, p5, p6, p7, p8, p9⟩ := acks_is (tick := tick) hH hd.ps hd.e (show a < 1 by omega) hHl ht.r (fun h => by omega) (fun _ => .inr (nofin_H1 hH e1))
      rw [hack, e0]
      have hst1 : S'.st = 1 := by rw [p5]; unfold stAck; simp [h1]
      have hx : ∃ p, J[0]? = some p := ⟨_, List.getElem?_eq_getElem hq.2⟩
      obtain ⟨p, hx⟩ := hx
      have hxs := hJ.one p hx
      have hsd : Sd ({ S' with st := 3, rcv := onN s.seq 1 } : Fl) iss H 1 1 isj J b :=
        ⟨fun h => (by cases h), fun h => (by cases h), p1, p2.trans hd.e, hHl, hJ.len, fun _ => hr1, fun h => (by cases h), fun h => (by cases h), fun _ _ => ⟨Nat.le_refl _, Nat.le_refl _⟩, fun _ => nofin_H1 hH e1, fun h => (by rcases h with h | h | h <;> cases h), fun h => (by rcases h with h | h | h <;> cases h), fun _ => hJ.nofin1, fun h _ => (by have h : 6 ≤ (3 : Int) := h; omega), (by show 1 ≤ (3 : Int) ∧ (3 : Int) ≤ 11; omega)⟩
      have h9 : (S'.has = true ↔ S'.ps ≠ []) ∧ (S'.has = true → tick + 2 ≤ S'.at_ ∧ S'.at_ ≤ tick + 16) := by
        rcases p9 with ⟨g, _⟩ | ⟨g1, g2, _⟩
        · omega
        · exact ⟨g1, g2⟩
      have htm : Tm ({ S' with st := 3, rcv := onN s.seq 1 } : Fl) tick :=
        ⟨fun _ => h9.1, fun h => (by cases h), fun h => absurd (show 10 ≤ (3 : Int) from h) (by omega), fun h => (h9.2 h).2, ⟨(by show 0 ≤ S'.tries; omega), fun _ => (by show S'.tries ≤ 4; omega)⟩, p7, (by show S'.k ≤ 16; omega)⟩
      have h9f : S'.has = true → tick < S'.at_ := fun h => by have := (h9.2 h).1; omega
      have hpc2 : ∀ i, isPiece s J i → i = 0 := fun i hi => (piece_syn hJ hi).1 hc.1
      obtain ⟨k1, k2, k3, k4, k5⟩ := tell_pk hsd hHl (Nat.le_refl _)
      refine ⟨_, false, 1, 1, [({ S' with st := 3, rcv := onN s.seq 1 } : Fl).telling false], rfl, hsd.tell, htm.tell, ⟨(by omega), (by omega)⟩, (by omega), ?_, ?_, ?_, (by simp), ?_, ?_, ?_, fun h => (by omega), fun _ _ j hj hj0 => ⟨(by simp), fun _ => (by have := hj0 h1; omega)⟩, fun h => (by rw [hc.1] at h; cases h), fun _ _ _ => Nat.le_refl _, fun _ => ⟨hc.2.1, hack⟩, fun _ => h9f, fun h => (by have h : (3 : Int) = 11 := h; omega), fun h => (by have h : (3 : Int) = 10 := h; omega), fun h => (by omega), fun i hi => .inr (by have := hpc2 i hi; omega), fun h => absurd h (by omega), .inr (.inl (by omega))⟩
      · rw [e3, dat_succ hx, hxs.1]; simp
      · show S'.out ++ [({ S' with st := 3, rcv := onN s.seq 1 } : Fl).telling false] = S.out ++ [_]
        rw [p4]
      · intro o ho
        simp at ho
        subst ho
        exact k1
      · intro o ho
        simp at ho
        subst ho
        exact .inl ⟨k2, k3, k4, k5⟩
      · intro t; rw [t.1] at hc; cases hc.1
      · intro t; rw [t.1] at hc; cases hc.1
    · rw [if_neg hc]
      have key : isPiece s J 0 → s.acks = true → False := fun hpc hka => by
        apply hc
        refine ⟨(piece_syn hJ hpc).2 rfl, hka, ?_⟩
        obtain ⟨j, j1, j2, j3⟩ := hp.ack hka
        have : j = 1 := by omega
        subst this
        rw [j3, hd.e, e1]
      by_cases hka : s.acks = true
      · exact ⟨S, false, a, m, [], rfl, Hd.none_ hd ht ham (fun _ j hj hj0 => by have := hj0 h1; subst this; exact key hj hka) (fun _ h => by omega) (fun h _ hk => (key h hk).elim)⟩
      · -- a packet that acknowledges nothing is the other one's Syn: of one that dialed
        refine ⟨S, false, a, m, [], rfl, Hd.none_ hd ht ham (fun _ j hj hj0 => ?_) (fun _ h => by omega) (fun h _ hk => (hka hk).elim)⟩
        have hno := hp.no
        rw [hbj (hd.b1 h1)] at hno
        exact hka (by rw [hno]; simp)
  rw [if_neg h1]
  have h2 : 2 ≤ S.st := by omega
  have hm1 : 1 ≤ m := by
    by_cases g : S.st = 2
    · have := hd.s2 g; omega
    · exact (hd.s3 (by omega) (by omega)).2
  by_cases hsyn : s.syn = true
  · have hpc := hp.syn0 hJ hsyn
    have hnt : ¬ isTell s := fun t => by rw [t.1] at hsyn; cases hsyn
    by_cases hag : s.syn = true ∧ S.st = 2 ∧ s.acks = false ∧ onN s.seq 1 = S.rcv
    · rw [if_pos hag]
      obtain ⟨_, g2, g3, g4⟩ := hag
      obtain ⟨e1, e2, e3⟩ := hd.s2 g2
      subst e2
      have h0 : H[0]? = some H[0] := List.getElem?_eq_getElem (by omega)
      have hps : S.ps = [H[0]] := by
        rw [hd.ps, List.drop_zero]
        match H, e1 with
        | [x], _ => rfl
      have hpp := again_pk (p := H[0]) hd (by omega) hH h0 (Nat.le_refl _)
      have hA : (S.again tick).out = S.out ++ [S.putting H[0]] := by unfold Fl.again Fl.arm; rw [hps]; rfl
      have hat := arm_tm (S := ({ S with tw := true, out := S.out ++ S.ps.map S.putting } : Fl)) ht.r ht.k tick
      refine ⟨S.again tick, false, 0, m, [S.putting H[0]], rfl, ⟨⟨hd.b1, hd.b2, hd.ps, hd.e, hd.al, hd.ml, hd.rcv, hd.s1, hd.s2, hd.s3, hd.so, hd.sf, hd.sd, hd.sr, hd.sx, hd.rng⟩, ⟨fun _ => ?_, fun h => ?_, fun h => ?_, fun _ => hat.2, ht.tr, ht.r, ht.k⟩, ⟨Nat.le_refl _, ham⟩, Nat.le_refl _, (by simp), hA, ?_, (by simp), ?_, fun t => absurd t hnt, fun t => absurd t hnt, fun h => absurd h h10, fun _ _ j hj _ => ⟨(by simp), fun hjm => ?_⟩, fun h => (by rw [h] at hsyn; cases hsyn), fun _ h => (by omega), fun h => absurd h (Nat.lt_irrefl _), fun _ _ => (by have := hat.1; exact Int.lt_of_lt_of_le (by omega) this), id, .inr, .inl, fun _ _ => .inl rfl, fun _ _ _ o ho => (by simp at ho; subst ho; exact hpp.2), .inr (.inr (.inr ⟨g2, hsyn, g3⟩))⟩⟩
      · show true = true ↔ S.ps ≠ []
        rw [hps]; simp
      · have h : S.st = 9 := h; omega
      · have h : 10 ≤ S.st := h; omega
      · intro o ho
        simp at ho
        subst ho
        exact hpp.1
      · intro o ho
        simp at ho
        subst ho
        exact .inr ⟨g2, hsyn, g3, hpp.2⟩
      · have := (piece_syn hJ hj).1 hsyn; omega
    · rw [if_neg hag, if_pos hsyn]
      have hseq : S.st = 2 → onN s.seq 1 = S.rcv := fun u => by
        have e3 := (hd.s2 u).2.2
        rw [hd.rcv hm1, e3]
        obtain ⟨p, g1, g2, g3, g4, g5⟩ := hpc
        rw [g2, (hJ.seq 0 p g1).1, pos_succ g1]
        have hx := hJ.one p g1
        have : long p = 1 := by unfold long; rw [hx.1, hx.2, (hJ.syn 0 p g1).2 rfl]; simp
        rw [this]
        rfl
      obtain ⟨k1, k2, k3, k4, k5⟩ := tell_pk hd hHl hm1
      refine ⟨S.tell, false, a, m, [S.telling false], rfl, ⟨hd.tell, ht.tell, ⟨Nat.le_refl _, ham⟩, Nat.le_refl _, (by simp), rfl, ?_, (by simp), ?_, fun t => absurd t hnt, fun t => absurd t hnt, fun h => absurd h h10, fun _ _ j hj _ => ⟨(by simp), fun hjm => ?_⟩, fun h => (by rw [h] at hsyn; cases hsyn), fun _ h => absurd h h1, fun h => absurd h (Nat.lt_irrefl _), id, id, .inr, .inl, fun _ _ => .inl rfl, fun u1 u2 u3 => absurd ⟨hsyn, u1, u3, hseq u1⟩ hag, .inl ⟨rfl, rfl, rfl, rfl, id⟩⟩⟩
      · intro o ho
        simp at ho
        subst ho
        exact k1
      · intro o ho
        simp at ho
        subst ho
        exact .inl ⟨k2, k3, k4, k5⟩
      · have := (piece_syn hJ hj).1 hsyn; omega
  · have hsyn' : s.syn = false := by simpa using hsyn
    rw [if_neg (fun h => hsyn h.1), if_neg hsyn]
    have hka : s.acks = true := by rw [hp.no, hsyn']; rfl
    obtain ⟨j, j1, j2, j3⟩ := hp.ack hka
    obtain ⟨S1, e1, a1, hd1, ht1, q1, q2, q3, q4, q5, q6, q7⟩ := acks_sd (tick := tick) hd ht hH hJ h2 (by omega) (show j ≤ H.length by omega) j1
    have e2 : (if s.acks = true ∧ S.ackable s.ack then S.acks s.ack tick else S) = S1 := by
      rw [← e1, j3]
      by_cases h : S.ackable (pos iss H j)
      · rw [if_pos ⟨hka, h⟩, if_pos h]
      · rw [if_neg (fun g => h g.2), if_neg h]
    rw [e2]
    have hackd : ∀ i, s.acks = true → s.ack = pos iss H i → i ≤ H.length → i ≤ a1 := fun i _ h hi => by
      have := pos_inj hH hi (show j ≤ H.length by omega) (h.symm.trans j3)
      omega
    have haj : a < a1 → s.acks = true ∧ s.ack = pos iss H a1 := fun h => by
      rcases q7 with ⟨g, _⟩ | ⟨_, g, _⟩
      · omega
      · rw [g]; exact ⟨hka, j3⟩
    have hfut : (S.has = true → tick < S.at_) → S1.has = true → tick < S1.at_ := fun hf => by
      rcases q7 with ⟨_, g⟩ | ⟨_, _, g, _⟩
      · rw [g]; exact hf
      · exact g
    have hov : S1.st = 11 → S.st = 11 := fun h => by
      rcases q7 with ⟨_, g⟩ | ⟨_, _, _, g⟩
      · rw [g] at h; exact h
      · exact absurd h g.1
    have hten : S1.st = 10 → S.st = 8 ∨ S.st = 10 := fun h => by
      rcases q7 with ⟨_, g⟩ | ⟨_, _, _, _, g, _⟩
      · rw [g] at h; exact .inr h
      · exact .inl (g h)
    have height : S.st = 8 → S1.st = 8 ∨ S1.st = 10 := fun h => by
      rcases q7 with ⟨_, g⟩ | ⟨_, _, _, _, _, g⟩
      · rw [g]; exact .inl h
      · exact g h
    unfold Fl.takesIf
    by_cases hc : S1.st < 10 ∧ S1.st ≠ 2
    · rw [if_pos hc]
      have hrng1 := hd1.rng
      have hs1 : 2 ≤ S1.st := by
        rcases q7 with ⟨_, h⟩ | h
        · rw [h]; exact h2
        · have h := h.1
          by_cases g : S1.st = 1
          · have := hd1.s1 g; omega
          · omega
      obtain ⟨S', f, m', new, t0, t1, t2, t3, t4, t5, t6, t7, t8, t9, tpm, tfut, tov, t10⟩ := takes_sd hd1 ht1 hH hJ hp hsyn' hs1 hc.2 hc.1
      rw [t0]
      refine ⟨S', f, a1, m', new, rfl, ⟨t1, t2, ⟨q1, (by omega)⟩, t3, t4, (by rw [t5, q4]), ?_, ?_, ?_, t7, t8, fun h => absurd h h10, fun _ _ i hi _ => t9 i hi, fun _ _ _ => hackd, fun h => absurd ((piece_syn hJ h).2 rfl) hsyn, haj, fun hf => tfut (hfut hf), fun h => absurd h tov.1, fun h => absurd h tov.2.1, fun h => (by rcases height h with g | g; exact .inl (tov.2.2 g); omega), tpm, fun _ h => absurd h hsyn, ?_⟩⟩
      · intro o ho
        rcases t6 with h | ⟨o', h, g, _⟩
        · rw [h] at ho; simp at ho
        · rw [h] at ho; simp at ho; subst ho; exact g
      · rcases t6 with h | ⟨o', h, g, _⟩
        · rw [h]; simp
        · rw [h]; simp
      · intro o ho
        rcases t6 with h | ⟨o', h, g, g1, g2, g3, g4⟩
        · rw [h] at ho; simp at ho
        · rw [h] at ho; simp at ho; subst ho; exact .inl ⟨g1, g2, g3, g4⟩
      · rcases q7 with ⟨hq, h⟩ | h
        · subst h
          rcases t10 with ⟨u1, u2, u3, u4⟩ | u
          · exact .inl ⟨hq, u1, u2, u3, u4⟩
          · exact .inr (.inr (.inl u))
        · exact .inr (.inl h.1)
    · rw [if_neg hc]
      have h10' : 10 ≤ S1.st := Int.not_lt.1 (fun h => hc ⟨h, q5⟩)
      refine ⟨S1, false, a1, m, [], rfl, ⟨hd1, ht1, ⟨q1, (by omega)⟩, Nat.le_refl _, (by simp), (by rw [q4]; simp), fun o ho => (by simp at ho), (by simp), fun o ho => (by simp at ho), fun _ _ => rfl, fun _ => rfl, fun h => absurd h h10, fun h => (by omega), fun _ _ _ => hackd, fun h => absurd ((piece_syn hJ h).2 rfl) hsyn, haj, hfut, hov, hten, height, fun _ _ => .inl rfl, fun _ h => absurd h hsyn, ?_⟩⟩
      rcases q7 with ⟨hq, h⟩ | h
      · exact .inl ⟨hq, (by rw [h]), (by rw [h]), (by rw [h]), fun g => (by rw [h] at g; exact g)⟩
      · exact .inr (.inl h.1)
end
end Go.Proofs.Ytjldgialhgfhmaa
namespace Go.Proofs.Ytjldgialhgfhmaa
set_option linter.unusedVariables false
set_option linter.unusedSimpArgs false
set_option linter.unusedVariables false
set_option linter.unusedSimpArgs false
theorem Sd.flushed {S : Fl} {iss isj : Int} {H J : List Pc} {a m : Nat} {b : Bool} (hd : Sd S iss H a m isj J b) : Sd S.flushed iss H a m isj J b := ⟨hd.b1, hd.b2, hd.ps, hd.e, hd.al, hd.ml, hd.rcv, hd.s1, hd.s2, hd.s3, hd.so, hd.sf, hd.sd, hd.sr, hd.sx, hd.rng⟩
theorem Tm.flushed {S : Fl} {t : Int} (ht : Tm S t) : Tm S.flushed t := ⟨ht.lo, ht.w, ht.hi, ht.at_, ht.tr, ht.r, ht.k⟩
theorem Tm.later {S : Fl} {t t' : Int} (ht : Tm S t) (h : t ≤ t') : Tm S t' := ⟨ht.lo, fun h9 => ⟨(ht.w h9).1, (by have := (ht.w h9).2; omega)⟩, ht.hi, fun hh => (by have := ht.at_ hh; omega), ht.tr, ht.r, ht.k⟩
theorem Pk.more {s : Sm} {iss isj : Int} {H J X Y : List Pc} {m m' : Nat} {b : Bool} (h : Pk s iss H isj J m b) (hm : m ≤ m') (hJ : m ≤ J.length) : Pk s iss (H ++ X) isj (J ++ Y) m' b := by
  refine ⟨?_, fun hk => ?_, h.no⟩
  · rcases h.what with ⟨j, p, h1, h2⟩ | ⟨h1, h2, h3, j, h4, h5, h6⟩
    · refine .inl ⟨j, p, ?_, h2⟩
      rw [List.getElem?_append_left (List.getElem?_eq_some_iff.1 h1).1]
      exact h1
    · exact .inr ⟨h1, h2, h3, j, h4, (by simp; omega), (by rw [pos_app h5]; exact h6)⟩
  · obtain ⟨j, h1, h2, h3⟩ := h.ack hk
    exact ⟨j, h1, (by omega), (by rw [pos_app (by omega)]; exact h3)⟩
theorem Pk.more0 {s : Sm} {iss isj : Int} {H J : List Pc} {m m' : Nat} {b : Bool} (h : Pk s iss H isj J m b) (hm : m ≤ m') (hJ : m ≤ J.length) : Pk s iss H isj J m' b := by
  have := h.more (X := []) (Y := []) hm hJ
  simpa using this
/-- What is not in the flows themselves. -/
structure Gh where
  H : List Pc
  J : List Pc
  a : Nat
  m : Nat
  c : Nat
  n : Nat
structure Iv (P : Pr) (iss : Int) (G : Gh) (K L : Nat) : Prop where
  hH : Hist iss G.H
  d0 : Sd P.f0 iss G.H G.a G.m 9000 G.J true
  t0 : Tm P.f0 P.tick
  no : P.f1 = none → G.J = [] ∧ G.n = 0 ∧ G.c = 0 ∧ G.m = 0
  hJ : ∀ T, P.f1 = some T → Hist 9000 G.J
  d1 : ∀ T, P.f1 = some T → Sd T 9000 G.J G.c G.n iss G.H false
  t1 : ∀ T, P.f1 = some T → Tm T P.tick
  an : G.a ≤ G.n
  cm : G.c ≤ G.m
  nl : G.n ≤ G.H.length
  w1 : ∀ s, (true, s) ∈ P.way → Pk s iss G.H 9000 G.J G.m true
  w0 : ∀ s, (false, s) ∈ P.way → Pk s 9000 G.J iss G.H G.n false
  o0 : ∀ o ∈ P.f0.out, Pk o.seg iss G.H 9000 G.J G.m true
  o1 : ∀ T, P.f1 = some T → ∀ o ∈ T.out, Pk o.seg 9000 G.J iss G.H G.n false
  x1 : P.c1 = dat (G.H.take G.n)
  y0 : P.s0 = dat G.H
  x0 : P.c0 = dat (G.J.take G.m)
  y1 : P.s1 = dat G.J
  tot : total G.H + max (total G.J) 1 ≤ K
  cnt : G.H.length + max G.J.length 1 ≤ L
theorem Iv.jlen {P : Pr} {iss : Int} {G : Gh} {K L : Nat} (h : Iv P iss G K L) : G.m ≤ G.J.length := h.d0.ml
theorem fill_mem {way : List (Bool × Sm)} {b : Bool} {l : List Ot} {x : Bool × Sm} (h : x ∈ fill way b l) : x ∈ way ∨ ∃ o ∈ l, x = (b, o.seg) := by
  unfold fill at h
  rcases List.mem_append.1 h with h | h
  · exact .inl h
  · have := List.mem_of_mem_take h
    obtain ⟨o, h1, h2⟩ := List.mem_map.1 this
    exact .inr ⟨o, h1, h2.symm⟩
theorem fill_len {way : List (Bool × Sm)} {b : Bool} {l : List Ot} (h : way.length ≤ 60) : (fill way b l).length ≤ 60 := by
  unfold fill
  simp
  omega
section
variable {P : Pr} {iss : Int} {G : Gh} {K L : Nat}
theorem Iv.flush (h : Iv P iss G K L) : Iv P.flush iss G K L := by
  refine ⟨h.hH, h.d0.flushed, h.t0.flushed, fun e => h.no (by simpa [Pr.flush] using e), fun T e => ?_, fun T e => ?_, fun T e => ?_, h.an, h.cm, h.nl, fun s hs => ?_, fun s hs => ?_, fun o ho => (by simp [Pr.flush, Fl.flushed] at ho), fun T e o ho => ?_, h.x1, h.y0, h.x0, h.y1, h.tot, h.cnt⟩
  · simp [Pr.flush] at e
    obtain ⟨T0, e1, e2⟩ := e
    exact h.hJ T0 e1
  · simp [Pr.flush] at e
    obtain ⟨T0, e1, e2⟩ := e
    subst e2
    exact (h.d1 T0 e1).flushed
  · simp [Pr.flush] at e
    obtain ⟨T0, e1, e2⟩ := e
    subst e2
    exact (h.t1 T0 e1).flushed
  · rcases fill_mem hs with hs | ⟨o, ho, e⟩
    · rcases fill_mem hs with hs | ⟨o, ho, e⟩
      · exact h.w1 s hs
      · injection e with _ e
        subst e
        exact h.o0 o ho
    · injection e with e _
      cases e
  · rcases fill_mem hs with hs | ⟨o, ho, e⟩
    · rcases fill_mem hs with hs | ⟨o, ho, e⟩
      · exact h.w0 s hs
      · injection e with e _
        cases e
    · injection e with _ e
      subst e
      cases hf : P.f1 with
      | none => rw [hf] at ho; simp [outOf] at ho
      | some T => rw [hf] at ho; exact h.o1 T hf o ho
  · simp [Pr.flush] at e
    obtain ⟨T0, e1, e2⟩ := e
    subst e2
    simp [Fl.flushed] at ho
theorem Iv.some_of {s : Sm} (h : Iv P iss G K L) (hp : Pk s 9000 G.J iss G.H G.n false) : ∃ T, P.f1 = some T := by
  cases hf : P.f1 with
  | some T => exact ⟨T, rfl⟩
  | none =>
    have hJ := (h.no hf).1
    rcases hp.what with ⟨j, p, h1, _⟩ | ⟨_, _, _, j, h1, h2, _⟩
    · rw [hJ] at h1; simp at h1
    · rw [hJ] at h2; simp at h2; omega
/-- A packet comes to the first flow. -/
theorem Iv.comes0 {s : Sm} (h : Iv P iss G K L) (hp : Pk s 9000 G.J iss G.H G.n false) :
    ∃ S' f a' m' new, P.comes (false, s) = { P with f0 := S', c0 := if f = true then P.c0 ++ s.xs else P.c0 } ∧ Hd P.f0 S' f s iss G.H G.a G.m 9000 G.J G.n true P.tick a' m' new ∧ Iv (P.comes (false, s)) iss { G with a := a', m := m' } K L := by
  obtain ⟨T, hT⟩ := h.some_of hp
  obtain ⟨S', f, a', m', new, e, hh⟩ := hear_all (b := true) (bj := false) h.d0 h.t0 h.hH (h.hJ T hT) hp h.an h.nl (fun _ => rfl)
  have ec : P.comes (false, s) = { P with f0 := S', c0 := if f = true then P.c0 ++ s.xs else P.c0 } := by
    unfold Pr.comes
    simp only [e]
  refine ⟨S', f, a', m', new, ec, hh, ?_⟩
  rw [ec]
  have hml := h.d0.ml
  refine ⟨h.hH, hh.sd, hh.tm, fun e => (by rw [hT] at e; cases e), h.hJ, fun T' e => ?_, h.t1, hh.aa.2, Nat.le_trans h.cm hh.mm, h.nl, fun s' hs => (h.w1 s' hs).more0 hh.mm hml, h.w0, fun o ho => ?_, h.o1, h.x1, h.y0, ?_, h.y1, h.tot, h.cnt⟩
  · exact h.d1 T' e
  · rw [hh.out] at ho
    rcases List.mem_append.1 ho with ho | ho
    · exact (h.o0 o ho).more0 hh.mm hml
    · exact hh.pk o ho
  · show (if f = true then P.c0 ++ s.xs else P.c0) = dat (G.J.take m')
    rw [hh.da, h.x0]
    cases f <;> simp
/-- .. to the second one. -/
theorem Iv.comes1 {s : Sm} {T : Fl} (h : Iv P iss G K L) (hT : P.f1 = some T) (hp : Pk s iss G.H 9000 G.J G.m true) :
    ∃ T' f c' n' new, P.comes (true, s) = { P with f1 := some T', c1 := if f = true then P.c1 ++ s.xs else P.c1 } ∧ Hd T T' f s 9000 G.J G.c G.n iss G.H G.m false P.tick c' n' new ∧ Iv (P.comes (true, s)) iss { G with c := c', n := n' } K L := by
  obtain ⟨T', f, c', n', new, e, hh⟩ := hear_all (b := false) (bj := true) (h.d1 T hT) (h.t1 T hT) (h.hJ T hT) h.hH hp h.cm h.d0.ml (fun h => by cases h)
  have ec : P.comes (true, s) = { P with f1 := some T', c1 := if f = true then P.c1 ++ s.xs else P.c1 } := by
    unfold Pr.comes
    simp only [hT, e]
  refine ⟨T', f, c', n', new, ec, hh, ?_⟩
  rw [ec]
  have hnl := h.nl
  refine ⟨h.hH, h.d0, h.t0, fun e => (by cases e), fun _ _ => h.hJ T hT, fun T2 e => ?_, fun T2 e => ?_, Nat.le_trans h.an hh.mm, hh.aa.2, hh.sd.ml, h.w1, fun s' hs => (h.w0 s' hs).more0 hh.mm hnl, h.o0, fun T2 e o ho => ?_, ?_, h.y0, h.x0, h.y1, h.tot, h.cnt⟩
  · injection e with e; subst e; exact hh.sd
  · injection e with e; subst e; exact hh.tm
  · injection e with e; subst e
    rw [hh.out] at ho
    rcases List.mem_append.1 ho with ho | ho
    · exact (h.o1 T hT o ho).more0 hh.mm hnl
    · exact hh.pk o ho
  · show (if f = true then P.c1 ++ s.xs else P.c1) = dat (G.H.take n')
    rw [hh.da, h.x1]
    cases f <;> simp
theorem answered_is (s : Sm) (t : Int) : (answered s t).ps = [withSeq synP 9000] ∧ (answered s t).e = 9001 ∧ (answered s t).st = 2 ∧ (answered s t).rcv = onN s.seq 1 ∧ (answered s t).tries = 0 ∧ (answered s t).has = true ∧ (answered s t).at_ = t + 4 ∧ (answered s t).r = est0 ∧ (answered s t).k = 0 ∧ (answered s t).out = [⟨withSeq synP 9000, onN s.seq 1, true, false⟩] := by
  have h1 : wait est0.base 0 = 4 := by decide
  have h2 : onN 9000 1 = 9001 := by decide
  simp [answered, Fl.send, Fl.sent, Fl.pushed, Fl.put, Fl.putting, Fl.armed, Fl.arm, flow0, withSeq, synP, pushL, long, h1, h2]
/-- .. to the second one, that is not there yet. -/
theorem Iv.comesN {s : Sm} (h : Iv P iss G K L) (hT : P.f1 = none) (hp : Pk s iss G.H 9000 G.J G.m true) :
    (P.comes (true, s) = P ∧ ¬ (s.syn = true ∧ s.acks = false)) ∨ (s.syn = true ∧ s.acks = false ∧ P.comes (true, s) = { P with f1 := some (answered s P.tick) } ∧ Iv (P.comes (true, s)) iss { G with J := [withSeq synP 9000], n := 1 } K L) := by
  by_cases hc : s.syn = true ∧ s.acks = false
  · right
    obtain ⟨hJ, hn, hcc, hm⟩ := h.no hT
    have ec : P.comes (true, s) = { P with f1 := some (answered s P.tick) } := by
      unfold Pr.comes
      simp only [hT]
      rw [if_pos hc]
    refine ⟨hc.1, hc.2, ec, ?_⟩
    rw [ec]
    obtain ⟨q1, q2, q3, q4, q5, q6, q7, q8, q9, q10⟩ := answered_is s P.tick
    have hpc := hp.syn0 h.hH hc.1
    have hHl := h.hH.len
    have hr1 : onN s.seq 1 = pos iss G.H 1 := by
      obtain ⟨p, g1, g2, g3, g4, g5⟩ := hpc
      rw [g2, (h.hH.seq 0 p g1).1, pos_succ g1]
      have hx := h.hH.one p g1
      have : long p = 1 := by unfold long; rw [hx.1, hx.2, (h.hH.syn 0 p g1).2 rfl]; simp
      rw [this]
      rfl
    have hJ1 : Hist 9000 [withSeq synP 9000] := Hist.first (by omega)
    have hsd : Sd (answered s P.tick) 9000 [withSeq synP 9000] 0 1 iss G.H false := by
      refine ⟨fun h => (by rw [q3] at h; cases h), fun _ => rfl, (by rw [q1]; rfl), (by rw [q2]; decide), (by simp), hHl, fun _ => (by rw [q4, hr1]), fun h => (by rw [q3] at h; cases h), fun _ => ⟨rfl, rfl, rfl⟩, fun h => (by rw [q3] at h; omega), fun h => (by rw [q3] at h; omega), fun h => (by rw [q3] at h; omega), fun h => (by rw [q3] at h; omega), fun h => (by rw [q3] at h; omega), fun h => (by rw [q3] at h; omega), (by rw [q3]; omega)⟩
    have htm : Tm (answered s P.tick) P.tick := ⟨fun _ => (by rw [q6, q1]; simp), fun h => (by rw [q3] at h; cases h), fun h => (by rw [q3] at h; omega), fun _ => (by rw [q7]; omega), (by rw [q5]; omega), (by rw [q8]; exact est0_ok), (by rw [q9]; omega)⟩
    have hd0 := h.d0
    have ha0 : G.a = 0 := by have := h.an; omega
    have hmj : G.m ≤ [withSeq synP 9000].length := by omega
    have hw1 : ∀ s', Pk s' iss G.H 9000 G.J G.m true → Pk s' iss G.H 9000 [withSeq synP 9000] G.m true := fun s' g => by
      have := g.more (X := []) (Y := [withSeq synP 9000]) (Nat.le_refl _) hd0.ml
      rw [hJ] at this
      simpa using this
    refine ⟨h.hH, ⟨hd0.b1, hd0.b2, hd0.ps, hd0.e, hd0.al, hmj, fun h1 => (by dsimp only at h1; omega), hd0.s1, hd0.s2, hd0.s3, hd0.so, hd0.sf, hd0.sd, fun _ => (by show ¬ finH (List.take G.m _); rw [hm]; rintro ⟨p, h1, _⟩; simp at h1), fun g1 g2 => ?_, hd0.rng⟩, h.t0, fun e => (by cases e), fun _ _ => hJ1, fun T e => ?_, fun T e => ?_, (by show G.a ≤ 1; omega), h.cm, hHl, fun s' hs => hw1 s' (h.w1 s' hs), fun s' hs => ?_, fun o ho => hw1 _ (h.o0 o ho), fun T e o ho => ?_, ?_, h.y0, ?_, ?_, ?_, ?_⟩
    · have g1' : 6 ≤ P.f0.st := g1
      have g2' : P.f0.st ≤ 10 := g2
      have := (hd0.s3 (by omega) g2').2; omega
    · injection e with e; subst e; rw [hcc]; exact hsd
    · injection e with e; subst e; exact htm
    · obtain ⟨T, hT'⟩ := h.some_of (h.w0 s' hs)
      rw [hT] at hT'; cases hT'
    · injection e with e; subst e
      rw [q10] at ho
      simp at ho
      subst ho
      refine ⟨.inl ⟨0, withSeq synP 9000, rfl, rfl, rfl, rfl, rfl⟩, fun _ => ⟨1, Nat.le_refl _, Nat.le_refl _, hr1⟩, rfl⟩
    · rw [h.x1, hn]
      have hx : ∃ p, G.H[0]? = some p := ⟨_, List.getElem?_eq_getElem (by omega)⟩
      obtain ⟨p, hx⟩ := hx
      show dat (G.H.take 0) = dat (G.H.take 1)
      rw [dat_succ hx, (h.hH.one p hx).1]
      simp
    · rw [h.x0, hm]; simp [dat]
    · rw [h.y1, hJ]; simp [dat, withSeq, synP]
    · have := h.tot
      rw [hJ] at this
      show total G.H + max (total [withSeq synP 9000]) 1 ≤ K
      have e : total [withSeq synP 9000] = 1 := by simp [total, long, withSeq, synP]
      rw [e]
      simp [total] at this
      omega
    · have := h.cnt
      rw [hJ] at this
      show G.H.length + max [withSeq synP 9000].length 1 ≤ L
      simp at this ⊢
      omega
  · left
    refine ⟨?_, hc⟩
    unfold Pr.comes
    simp only [hT]
    rw [if_neg hc]
end
end Go.Proofs.Ytjldgialhgfhmaa
namespace Go.Proofs.Ytjldgialhgfhmaa
set_option linter.unusedVariables false
set_option linter.unusedSimpArgs false
set_option linter.unusedVariables false
set_option linter.unusedSimpArgs false
theorem Pk.pushH {s : Sm} {iss isj : Int} {H J X : List Pc} {m : Nat} {b : Bool} (h : Pk s iss H isj J m b) (hJ : m ≤ J.length) : Pk s iss (H ++ X) isj J m b := by
  have := h.more (X := X) (Y := []) (Nat.le_refl _) hJ
  simpa using this
theorem Pk.pushJ {s : Sm} {iss isj : Int} {H J Y : List Pc} {m : Nat} {b : Bool} (h : Pk s iss H isj J m b) (hJ : m ≤ J.length) : Pk s iss H isj (J ++ Y) m b := by
  have := h.more (X := []) (Y := Y) (Nat.le_refl _) hJ
  simpa using this
theorem finH_app {H : List Pc} {p : Pc} : finH (H ++ [p]) ↔ finH H ∨ p.fin = true := by
  constructor
  · rintro ⟨q, h1, h2⟩
    rcases List.mem_append.1 h1 with h1 | h1
    · exact .inl ⟨q, h1, h2⟩
    · simp at h1; subst h1; exact .inr h2
  · rintro (⟨q, h1, h2⟩ | h)
    · exact ⟨q, (by simp [h1]), h2⟩
    · exact ⟨p, (by simp), h⟩
section
variable {S : Fl} {iss isj : Int} {H J : List Pc} {a m : Nat} {b : Bool} {tick : Int}
theorem send_is (p : Pc) (t : Int) (hp : 0 < long p) : (S.send p t).ps = S.ps ++ [withSeq p S.e] ∧ (S.send p t).e = onN S.e (long p) ∧ (S.send p t).st = S.st ∧ (S.send p t).rcv = S.rcv ∧ (S.send p t).tries = S.tries ∧ (S.send p t).r = S.r ∧ (S.send p t).k = S.k ∧ (S.send p t).has = true ∧ (S.send p t).at_ = (if S.has = true then S.at_ else t + wait S.r.base S.k) ∧ (S.send p t).out = S.out ++ [S.putting (withSeq p S.e)] := by
  unfold Fl.send Fl.armed Fl.sent Fl.pushed Fl.put Fl.putting Fl.arm pushL
  rw [if_pos hp]
  by_cases h : S.ps = [] <;> by_cases hh : S.has = true <;> simp [h, hh]
/-- A piece more is sent. -/
theorem send_sd (hd : Sd S iss H a m isj J b) (ht : Tm S tick) (hH : Hist iss H) (p : Pc) (hs : p.syn = false) (hp : 0 < long p) (hst : S.st = 3 ∨ S.st = 6) (st' : Int) (hst' : (p.fin = false ∧ st' = S.st) ∨ (p.fin = true ∧ (S.st = 3 ∧ st' = 4 ∨ S.st = 6 ∧ st' = 8))) :
    Sd (({ S with st := st' } : Fl).send p tick) iss (H ++ [withSeq p (pos iss H H.length)]) a m isj J b ∧ Tm (({ S with st := st' } : Fl).send p tick) tick ∧ (({ S with st := st' } : Fl).send p tick).out = S.out ++ [({ S with st := st' } : Fl).putting (withSeq p (pos iss H H.length))] ∧ Pk (({ S with st := st' } : Fl).putting (withSeq p (pos iss H H.length))).seg iss (H ++ [withSeq p (pos iss H H.length)]) isj J m b := by
  obtain ⟨q1, q2, q3, q4, q5, q6, q7, q8, q9, q10⟩ := send_is (S := { S with st := st' }) p tick hp
  dsimp only at q1 q2 q3 q4 q5 q6 q7 q8 q9 q10
  have hH' := hH.len
  have hal := hd.al
  have h3 := hd.s3 (by omega) (by omega)
  have hnf := hd.so hst
  have he := hd.e
  have hlast : (H ++ [withSeq p (pos iss H H.length)])[H.length]? = some (withSeq p (pos iss H H.length)) := by simp
  have hfa : finH (H ++ [withSeq p (pos iss H H.length)]) ↔ p.fin = true := by rw [finH_app]; exact ⟨fun h => h.elim (fun h => absurd h hnf) id, .inr⟩
  have hwt := wait_bd S.r.base S.k (Est.base_bd S.r).1
  have hr := hd.rng
  have he' : withSeq p S.e = withSeq p (pos iss H H.length) := by rw [he]
  rw [he'] at q1 q10
  refine ⟨?_, ?_, q10, ?_⟩
  · refine ⟨fun h => (by rw [q3] at h; omega), fun h => (by rw [q3] at h; omega), ?_, ?_, (by simp; omega), hd.ml, fun h => (by rw [q4]; exact hd.rcv h), fun h => (by rw [q3] at h; omega), fun h => (by rw [q3] at h; omega), fun _ _ => h3, fun h => ?_, fun h => ?_, fun h => (by rw [q3] at h; omega), fun h => (by rw [q3] at h; exact hd.sr (by omega)), fun g1 g2 => (by rw [q3] at g1; exact hd.sx (by omega) (by omega)), (by rw [q3]; omega)⟩
    · rw [q1, hd.ps, List.drop_append_of_le_length hal]
    · rw [q2, he, List.length_append]
      show onN _ _ = pos iss (H ++ [withSeq p (pos iss H H.length)]) (H.length + 1)
      rw [pos_succ hlast, pos_app (Nat.le_refl _)]
      rfl
    · rw [hfa]
      rw [q3] at h
      rcases hst' with ⟨h1, _⟩ | ⟨_, h1⟩
      · rw [h1]; simp
      · omega
    · rw [hfa]
      rw [q3] at h
      rcases hst' with ⟨_, h1⟩ | ⟨h1, _⟩
      · omega
      · exact ⟨h1, (by simp; omega)⟩
  · refine ⟨fun _ => ?_, fun h => (by rw [q3] at h; omega), fun h => (by rw [q3] at h; omega), fun _ => ?_, (by rw [q5]; exact ⟨ht.tr.1, fun _ => ht.tr.2 (by omega)⟩), (by rw [q6]; exact ht.r), (by rw [q7]; exact ht.k)⟩
    · rw [q8, q1]; simp
    · rw [q9]
      split
      · rename_i h; exact ht.at_ h
      · omega
  · refine ⟨.inl ⟨H.length, _, hlast, rfl, rfl, rfl, rfl⟩, fun _ => ⟨m, h3.2, Nat.le_refl _, ?_⟩, ?_⟩
    · show (if st' = 1 then 0 else S.rcv) = _
      rw [if_neg (by omega)]
      exact hd.rcv h3.2
    · show decide (st' ≠ 1) = !(p.syn && b)
      rw [hs]
      simp
      omega
/-- The other one has pushed one more. -/
theorem Sd.pushJ (hd : Sd S iss H a m isj J b) {p : Pc} (hJ : ¬ finH J) : Sd S iss H a m isj (J ++ [p]) b :=
  ⟨hd.b1, hd.b2, hd.ps, hd.e, hd.al, (by have := hd.ml; simp; omega), fun h => (by rw [pos_app hd.ml]; exact hd.rcv h), hd.s1, hd.s2, hd.s3, hd.so, hd.sf, hd.sd, fun h => (by rw [List.take_append_of_le_length hd.ml]; exact hd.sr h), fun g1 g2 => absurd (hd.sx g1 g2).2 hJ, hd.rng⟩
theorem expire_sd (hd : Sd S iss H a m isj J b) (ht : Tm S tick) (hH : Hist iss H) (t : Int) (htt : tick ≤ t) :
    Sd (S.expire t) iss H a m isj J b ∧ Tm (S.expire t) t ∧ ∃ new, (S.expire t).out = S.out ++ new ∧ (∀ o ∈ new, Pk o.seg iss H isj J m b) ∧
      ((S.expire t = S ∧ new = [] ∧ (S.has = false ∨ t < S.at_)) ∨ (S.has = true ∧ S.at_ ≤ t ∧ ((S.expire t).has = false ∧ new = [] ∧ 10 ≤ (S.expire t).st ∨ S.tries ≤ 3 ∧ S.st ≤ 8 ∧ (S.expire t).st = S.st ∧ (S.expire t).has = true ∧ (S.expire t).tries = S.tries + 1 ∧ t + 2 ≤ (S.expire t).at_ ∧ (S.expire t).at_ ≤ t + 16 ∧ ∃ f : Pc → Ot, new = S.ps.map f ∧ ∀ (j : Nat) (p : Pc), H[j]? = some p → a ≤ j → isPiece (f p).seg H j ∧ ((f p).seg.acks = true → (f p).seg.ack = pos isj J m)))) := by
  unfold Fl.expire
  by_cases h1 : S.has = false ∨ t < S.at_
  · rw [if_pos h1]
    exact ⟨hd, ht.later htt, [], (by simp), fun o ho => (by simp at ho), .inl ⟨rfl, rfl, h1⟩⟩
  · rw [if_neg h1]
    have hh : S.has = true := by
      cases g : S.has
      · exact absurd (.inl g) h1
      · rfl
    have hat : S.at_ ≤ t := Int.not_lt.1 (fun h => h1 (.inr h))
    have hr := hd.rng
    have hst9 : S.st ≤ 9 := by
      rcases Int.lt_or_le 9 S.st with g | g
      · have := ht.hi (by omega); rw [hh] at this; cases this
      · exact g
    by_cases h9 : S.st = 9
    · rw [if_pos h9]
      have h3 := hd.s3 (by omega) (by omega)
      refine ⟨⟨fun h => (by cases h), fun h => (by cases h), hd.ps, hd.e, hd.al, hd.ml, hd.rcv, fun h => (by cases h), fun h => (by cases h), fun _ _ => h3, fun h => (by rcases h with h | h <;> cases h), fun h => (by rcases h with h | h | h <;> cases h), fun _ => hd.sd (by omega), fun h => (by rcases h with h | h | h <;> cases h), fun _ _ => hd.sx (by omega) (by omega), (by show 1 ≤ (10 : Int) ∧ (10 : Int) ≤ 11; omega)⟩, ⟨fun h => ?_, fun h => (by cases h), fun _ => rfl, fun h => (by cases h), ⟨ht.tr.1, fun _ => ht.tr.2 (by omega)⟩, ht.r, ht.k⟩, [], (by simp), fun o ho => (by simp at ho), .inr ⟨hh, hat, .inl ⟨rfl, rfl, (by show 10 ≤ (10 : Int); omega)⟩⟩⟩
      have h : (10 : Int) ≤ 8 := h
      omega
    · rw [if_neg h9]
      by_cases h5 : 4 < S.tries + 1
      · rw [if_pos h5]
        refine ⟨⟨fun h => (by cases h), fun h => (by cases h), hd.ps, hd.e, hd.al, hd.ml, hd.rcv, fun h => (by cases h), fun h => (by cases h), fun _ h => ?_, fun h => (by rcases h with h | h <;> cases h), fun h => (by rcases h with h | h | h <;> cases h), fun h => (by rcases h with h | h | h <;> cases h), fun h => (by rcases h with h | h | h <;> cases h), fun _ h => ?_, (by show 1 ≤ (11 : Int) ∧ (11 : Int) ≤ 11; omega)⟩, ⟨fun h => ?_, fun h => (by cases h), fun _ => rfl, fun h => (by cases h), ⟨(by show 0 ≤ S.tries + 1; have := ht.tr.1; omega), fun h => ?_⟩, ht.r, ht.k⟩, [], (by simp [Fl.dead]), fun o ho => (by simp at ho), .inr ⟨hh, hat, .inl ⟨rfl, rfl, (by show 10 ≤ (11 : Int); omega)⟩⟩⟩
        all_goals
          first
          | (have h : (11 : Int) ≤ 10 := h; omega)
          | (have h : (11 : Int) ≤ 8 := h; omega)
      · rw [if_neg h5]
        have hk : ({ S with tries := S.tries + 1, k := min (S.k + 1) 16 } : Fl).k ≤ 16 := Nat.min_le_right _ _
        have hA := arm_tm (S := ({ S with tries := S.tries + 1, k := min (S.k + 1) 16, tw := true, out := S.out ++ S.ps.map S.putting } : Fl)) ht.r hk t
        have hsd : Sd (({ S with tries := S.tries + 1, k := min (S.k + 1) 16 } : Fl).again t) iss H a m isj J b := ⟨hd.b1, hd.b2, hd.ps, hd.e, hd.al, hd.ml, hd.rcv, hd.s1, hd.s2, hd.s3, hd.so, hd.sf, hd.sd, hd.sr, hd.sx, hd.rng⟩
        refine ⟨hsd, ⟨fun h => ?_, fun h => absurd (show S.st = 9 from h) h9, fun h => ?_, fun _ => hA.2, ⟨(by show 0 ≤ S.tries + 1; have := ht.tr.1; omega), fun _ => (by show S.tries + 1 ≤ 4; omega)⟩, ht.r, hk⟩, S.ps.map S.putting, rfl, fun o ho => ?_, .inr ⟨hh, hat, .inr ⟨(by omega), (by omega), rfl, rfl, rfl, hA.1, hA.2, S.putting, rfl, fun j p hj haj => ⟨(again_pk hd (by omega) hH hj haj).2, fun hk => ?_⟩⟩⟩⟩
        · show true = true ↔ S.ps ≠ []
          have := ht.lo (by omega)
          rw [hh] at this
          exact this
        · have h : 10 ≤ S.st := h
          omega
        · obtain ⟨p, hp, rfl⟩ := List.mem_map.1 ho
          rw [hd.ps] at hp
          obtain ⟨i, hi⟩ := List.mem_iff_getElem?.1 hp
          rw [List.getElem?_drop] at hi
          exact (again_pk hd (by omega) hH hi (by omega)).1
        · have h1 : S.st ≠ 1 := by
            have hk : decide (S.st ≠ 1) = true := hk
            simpa using hk
          have hm : 1 ≤ m := by
            by_cases h2 : S.st = 2
            · have := hd.s2 h2; omega
            · exact (hd.s3 (by omega) (by omega)).2
          show (if S.st = 1 then 0 else S.rcv) = _
          rw [if_neg h1]
          exact hd.rcv hm
end
theorem total_snoc (H : List Pc) (p : Pc) : total (H ++ [p]) = total H + long p := by rw [total_append]; simp [total]
section
variable {P : Pr} {iss : Int} {G : Gh} {K L : Nat}
theorem Iv.more (h : Iv P iss G K L) {K' L' : Nat} (hK : K ≤ K') (hL : L ≤ L') : Iv P iss G K' L' :=
  ⟨h.hH, h.d0, h.t0, h.no, h.hJ, h.d1, h.t1, h.an, h.cm, h.nl, h.w1, h.w0, h.o0, h.o1, h.x1, h.y0, h.x0, h.y1, Nat.le_trans h.tot hK, Nat.le_trans h.cnt hL⟩
/-- The first flow pushes one piece more. -/
theorem Iv.push0 (h : Iv P iss G K L) (hK : K + 9 < 1000000) (p : Pc) (hs : p.syn = false) (hp : 0 < long p) (hp9 : long p ≤ 9) (hx : p.fin = true → p.xs = []) (hst : P.f0.st = 3 ∨ P.f0.st = 6) (st' : Int) (hst' : (p.fin = false ∧ st' = P.f0.st) ∨ (p.fin = true ∧ (P.f0.st = 3 ∧ st' = 4 ∨ P.f0.st = 6 ∧ st' = 8))) :
    Iv { P with f0 := ({ P.f0 with st := st' } : Fl).send p P.tick, s0 := P.s0 ++ p.xs } iss { G with H := G.H ++ [withSeq p (pos iss G.H G.H.length)] } (K + 9) (L + 1) := by
  obtain ⟨k1, k2, k3, k4⟩ := send_sd h.d0 h.t0 h.hH p hs hp hst st' hst'
  have hnf := h.d0.so hst
  have hml := h.d0.ml
  have ht := h.tot
  have hc := h.cnt
  have hnl := h.nl
  refine ⟨h.hH.push hnf p hs hp (by omega) hx, k1, k2, h.no, h.hJ, fun T e => (h.d1 T e).pushJ hnf, h.t1, h.an, h.cm, (by show G.n ≤ (G.H ++ [_]).length; simp; omega), fun s hs => (h.w1 s hs).pushH hml, fun s hs => (h.w0 s hs).pushJ hnl, fun o ho => ?_, fun T e o ho => (h.o1 T e o ho).pushJ hnl, ?_, ?_, h.x0, h.y1, ?_, ?_⟩
  · rw [k3] at ho
    rcases List.mem_append.1 ho with ho | ho
    · exact (h.o0 o ho).pushH hml
    · simp at ho; subst ho; exact k4
  · show P.c1 = dat ((G.H ++ [_]).take G.n)
    rw [List.take_append_of_le_length hnl]; exact h.x1
  · show P.s0 ++ p.xs = dat (G.H ++ [withSeq p _])
    rw [dat_app, h.y0]; simp [dat, withSeq]
  · show total (G.H ++ [withSeq p _]) + max (total G.J) 1 ≤ K + 9
    rw [total_snoc]
    have : long (withSeq p (pos iss G.H G.H.length)) = long p := rfl
    omega
  · show (G.H ++ [_]).length + max G.J.length 1 ≤ L + 1
    simp; omega
/-- .. the second one. -/
theorem Iv.push1 (h : Iv P iss G K L) (hK : K + 9 < 1000000) (T : Fl) (hT : P.f1 = some T) (p : Pc) (hs : p.syn = false) (hp : 0 < long p) (hp9 : long p ≤ 9) (hx : p.fin = true → p.xs = []) (hst : T.st = 3 ∨ T.st = 6) (st' : Int) (hst' : (p.fin = false ∧ st' = T.st) ∨ (p.fin = true ∧ (T.st = 3 ∧ st' = 4 ∨ T.st = 6 ∧ st' = 8))) :
    Iv { P with f1 := some (({ T with st := st' } : Fl).send p P.tick), s1 := P.s1 ++ p.xs } iss { G with J := G.J ++ [withSeq p (pos 9000 G.J G.J.length)] } (K + 9) (L + 1) := by
  have hJ := h.hJ T hT
  obtain ⟨k1, k2, k3, k4⟩ := send_sd (h.d1 T hT) (h.t1 T hT) hJ p hs hp hst st' hst'
  have hnf := (h.d1 T hT).so hst
  have hml := h.d0.ml
  have ht := h.tot
  have hc := h.cnt
  have hnl := h.nl
  refine ⟨h.hH, h.d0.pushJ hnf, h.t0, fun e => (by cases e), fun _ _ => hJ.push hnf p hs hp (by omega) hx, fun T2 e => ?_, fun T2 e => ?_, h.an, h.cm, h.nl, fun s hs => (h.w1 s hs).pushJ hml, fun s hs => (h.w0 s hs).pushH hnl, fun o ho => (h.o0 o ho).pushJ hml, fun T2 e o ho => ?_, h.x1, h.y0, ?_, ?_, ?_, ?_⟩
  · injection e with e; subst e; exact k1
  · injection e with e; subst e; exact k2
  · injection e with e; subst e
    rw [k3] at ho
    rcases List.mem_append.1 ho with ho | ho
    · exact (h.o1 T hT o ho).pushH hnl
    · simp at ho; subst ho; exact k4
  · show P.c0 = dat ((G.J ++ [_]).take G.m)
    rw [List.take_append_of_le_length hml]; exact h.x0
  · show P.s1 ++ p.xs = dat (G.J ++ [withSeq p _])
    rw [dat_app, h.y1]; simp [dat, withSeq]
  · show total G.H + max (total (G.J ++ [withSeq p _])) 1 ≤ K + 9
    rw [total_snoc]
    have : long (withSeq p (pos 9000 G.J G.J.length)) = long p := rfl
    omega
  · show G.H.length + max (G.J ++ [_]).length 1 ≤ L + 1
    simp; omega
theorem fl_st (S : Fl) : ({ S with st := S.st } : Fl) = S := rfl
theorem Iv.sends (h : Iv P iss G K L) (hK : K + 9 < 1000000) (b : Bool) (xs : List Int) : ∃ G', Iv (P.sends b xs) iss G' (K + 9) (L + 1) := by
  have hm : Iv P iss G (K + 9) (L + 1) := h.more (by omega) (by omega)
  cases b with
  | false =>
    unfold Pr.sends
    dsimp only
    by_cases hc : P.f0.canSend xs
    · rw [if_pos hc]
      obtain ⟨h1, h2, h3⟩ := hc
      have hl : long (dataP xs) = xs.length := by simp [long, dataP]
      have := h.push0 hK (dataP xs) rfl (by omega) (by omega) (fun h => by cases h) h1 P.f0.st (.inl ⟨rfl, rfl⟩)
      exact ⟨_, this⟩
    · rw [if_neg hc]
      exact ⟨G, hm⟩
  | true =>
    unfold Pr.sends
    cases hT : P.f1 with
    | none => exact ⟨G, hm⟩
    | some T =>
      dsimp only
      by_cases hc : T.canSend xs
      · rw [if_pos hc]
        obtain ⟨h1, h2, h3⟩ := hc
        have hl : long (dataP xs) = xs.length := by simp [long, dataP]
        have := h.push1 hK T hT (dataP xs) rfl (by omega) (by omega) (fun h => by cases h) h1 T.st (.inl ⟨rfl, rfl⟩)
        exact ⟨_, this⟩
      · rw [if_neg hc]
        exact ⟨G, hm⟩
theorem Iv.close0 (h : Iv P iss G K L) (hK : K + 9 < 1000000) : ∃ G', Iv { P with f0 := P.f0.close P.tick } iss G' (K + 9) (L + 1) := by
  have hm : Iv P iss G (K + 9) (L + 1) := h.more (by omega) (by omega)
  have hl : long finP = 1 := by simp [long, finP]
  unfold Fl.close
  by_cases h3 : P.f0.st = 3
  · rw [if_pos h3]
    have := h.push0 hK finP rfl (by omega) (by omega) (fun _ => rfl) (.inl h3) 4 (.inr ⟨rfl, .inl ⟨h3, rfl⟩⟩)
    rw [show P.s0 ++ finP.xs = P.s0 by simp [finP]] at this
    exact ⟨_, this⟩
  · rw [if_neg h3]
    by_cases h6 : P.f0.st = 6
    · rw [if_pos h6]
      have := h.push0 hK finP rfl (by omega) (by omega) (fun _ => rfl) (.inr h6) 8 (.inr ⟨rfl, .inr ⟨h6, rfl⟩⟩)
      rw [show P.s0 ++ finP.xs = P.s0 by simp [finP]] at this
      exact ⟨_, this⟩
    · rw [if_neg h6]
      exact ⟨G, hm⟩
theorem Iv.close1 (h : Iv P iss G K L) (hK : K + 9 < 1000000) : ∃ G', Iv { P with f1 := P.f1.map (fun S => S.close P.tick) } iss G' (K + 9) (L + 1) := by
  have hm : Iv P iss G (K + 9) (L + 1) := h.more (by omega) (by omega)
  have hl : long finP = 1 := by simp [long, finP]
  have hx : ∀ l : List Int, l ++ finP.xs = l := fun l => by simp [finP]
  cases hT : P.f1 with
  | none =>
    have e : ({ P with f1 := (none : Option Fl).map (fun S => S.close P.tick) } : Pr) = P := by
      cases P; dsimp only at hT; subst hT; rfl
    rw [e]
    exact ⟨G, hm⟩
  | some T =>
    show ∃ G', Iv { P with f1 := some (T.close P.tick) } iss G' (K + 9) (L + 1)
    unfold Fl.close
    by_cases h3 : T.st = 3
    · rw [if_pos h3]
      have := h.push1 hK T hT finP rfl (by omega) (by omega) (fun _ => rfl) (.inl h3) 4 (.inr ⟨rfl, .inl ⟨h3, rfl⟩⟩)
      rw [hx] at this
      exact ⟨_, this⟩
    · rw [if_neg h3]
      by_cases h6 : T.st = 6
      · rw [if_pos h6]
        have := h.push1 hK T hT finP rfl (by omega) (by omega) (fun _ => rfl) (.inr h6) 8 (.inr ⟨rfl, .inr ⟨h6, rfl⟩⟩)
        rw [hx] at this
        exact ⟨_, this⟩
      · rw [if_neg h6]
        have e : ({ P with f1 := some T } : Pr) = P := by cases P; dsimp only at hT; subst hT; rfl
        rw [e]
        exact ⟨G, hm⟩
/-- A tick. -/
theorem Iv.ticks (h : Iv P iss G K L) : Iv { P with tick := P.tick + 1, f0 := P.f0.expire (P.tick + 1), f1 := P.f1.map (fun S => S.expire (P.tick + 1)) } iss G K L := by
  obtain ⟨k1, k2, n0, k3, k4, _⟩ := expire_sd h.d0 h.t0 h.hH (P.tick + 1) (by omega)
  have key : ∀ T', P.f1.map (fun S => S.expire (P.tick + 1)) = some T' → ∃ T, P.f1 = some T ∧ T' = T.expire (P.tick + 1) := fun T' e => by
    obtain ⟨T, e1, e2⟩ := Option.map_eq_some_iff.1 e
    exact ⟨T, e1, e2.symm⟩
  refine ⟨h.hH, k1, k2, fun e => h.no (by simpa using e), fun T' e => ?_, fun T' e => ?_, fun T' e => ?_, h.an, h.cm, h.nl, h.w1, h.w0, fun o ho => ?_, fun T' e o ho => ?_, h.x1, h.y0, h.x0, h.y1, h.tot, h.cnt⟩
  · obtain ⟨T, e1, _⟩ := key T' e
    exact h.hJ T e1
  · obtain ⟨T, e1, rfl⟩ := key T' e
    exact (expire_sd (h.d1 T e1) (h.t1 T e1) (h.hJ T e1) (P.tick + 1) (by omega)).1
  · obtain ⟨T, e1, rfl⟩ := key T' e
    exact (expire_sd (h.d1 T e1) (h.t1 T e1) (h.hJ T e1) (P.tick + 1) (by omega)).2.1
  · rw [k3] at ho
    rcases List.mem_append.1 ho with ho | ho
    · exact h.o0 o ho
    · exact k4 o ho
  · obtain ⟨T, e1, rfl⟩ := key T' e
    obtain ⟨_, _, n1, g3, g4, _⟩ := expire_sd (h.d1 T e1) (h.t1 T e1) (h.hJ T e1) (P.tick + 1) (by omega)
    rw [g3] at ho
    rcases List.mem_append.1 ho with ho | ho
    · exact h.o1 T e1 o ho
    · exact g4 o ho
/-- A packet less on its way. -/
theorem Iv.less (h : Iv P iss G K L) {way : List (Bool × Sm)} (hw : ∀ x ∈ way, x ∈ P.way) : Iv { P with way := way } iss G K L :=
  ⟨h.hH, h.d0, h.t0, h.no, h.hJ, h.d1, h.t1, h.an, h.cm, h.nl, fun s hs => h.w1 s (hw _ hs), fun s hs => h.w0 s (hw _ hs), h.o0, h.o1, h.x1, h.y0, h.x0, h.y1, h.tot, h.cnt⟩
theorem Iv.comes (h : Iv P iss G K L) {p : Bool × Sm} (hp : (p.1 = true → Pk p.2 iss G.H 9000 G.J G.m true) ∧ (p.1 = false → Pk p.2 9000 G.J iss G.H G.n false)) : ∃ G', Iv (P.comes p) iss G' K L := by
  obtain ⟨b, s⟩ := p
  cases b with
  | false =>
    obtain ⟨_, _, _, _, _, _, _, h2⟩ := h.comes0 (hp.2 rfl)
    exact ⟨_, h2⟩
  | true =>
    cases hT : P.f1 with
    | none =>
      rcases h.comesN hT (hp.1 rfl) with ⟨h1, _⟩ | ⟨_, _, _, h1⟩
      · rw [h1]; exact ⟨G, h⟩
      · exact ⟨_, h1⟩
    | some T =>
      obtain ⟨_, _, _, _, _, _, _, h2⟩ := h.comes1 hT (hp.1 rfl)
      exact ⟨_, h2⟩
theorem Iv.of_way (h : Iv P iss G K L) {p : Bool × Sm} (hp : p ∈ P.way) : (p.1 = true → Pk p.2 iss G.H 9000 G.J G.m true) ∧ (p.1 = false → Pk p.2 9000 G.J iss G.H G.n false) := by
  obtain ⟨b, s⟩ := p
  exact ⟨fun e => (by dsimp only at e; subst e; exact h.w1 s hp), fun e => (by dsimp only at e; subst e; exact h.w0 s hp)⟩
theorem Iv.pass (h : Iv P iss G K L) (kind : Int) (i : Nat) : ∃ G', Iv (P.pass kind i) iss G' K L := by
  unfold Pr.pass
  cases hx : P.way[i]? with
  | none => exact ⟨G, h⟩
  | some p =>
    dsimp only
    have hp := h.of_way (List.mem_of_getElem? hx)
    have h1 : Iv (if kind = 2 then P else { P with way := P.way.eraseIdx i }) iss G K L := by
      split
      · exact h
      · exact h.less (fun x hx => List.mem_of_mem_eraseIdx hx)
    split
    · exact ⟨G, h1⟩
    · exact h1.comes hp
theorem Iv.act (h : Iv P iss G K L) (hK : K + 9 < 1000000) (kind i : Int) : ∃ G', Iv (P.act kind i) iss G' (K + 9) (L + 1) := by
  have hm : ∀ {P' : Pr} {G' : Gh}, Iv P' iss G' K L → Iv P' iss G' (K + 9) (L + 1) := fun h => h.more (by omega) (by omega)
  unfold Pr.act
  split
  · obtain ⟨G', h1⟩ := h.pass kind (min (max i 0) (P.way.length - 1)).toNat
    exact ⟨G', hm h1⟩
  · split
    · exact h.sends hK false _
    · split
      · exact h.sends hK true _
      · split
        · exact h.close0 hK
        · split
          · exact h.close1 hK
          · split
            · exact ⟨G, hm h.ticks⟩
            · exact ⟨G, hm h⟩
theorem Iv.step (h : Iv P iss G K L) (hK : K + 9 < 1000000) (kind i : Int) : ∃ G', Iv (P.step kind i) iss G' (K + 9) (L + 1) := by
  obtain ⟨G', h1⟩ := h.flush.act hK kind i
  exact ⟨G', h1.flush⟩
theorem pair0_is (iss : Int) (hi : 0 ≤ iss ∧ iss < 4294967296) : (pair0 iss).f0.ps = [withSeq synP iss] ∧ (pair0 iss).f0.e = onN iss 1 ∧ (pair0 iss).f0.st = 1 ∧ (pair0 iss).f0.tries = 0 ∧ (pair0 iss).f0.has = true ∧ (pair0 iss).f0.at_ = 4 ∧ (pair0 iss).f0.r = est0 ∧ (pair0 iss).f0.k = 0 ∧ (pair0 iss).f0.out = [⟨withSeq synP iss, 0, false, false⟩] := by
  have h1 : wait est0.base 0 = 4 := by decide
  simp [pair0, Fl.send, Fl.sent, Fl.pushed, Fl.put, Fl.putting, Fl.armed, Fl.arm, flow0, withSeq, synP, pushL, long, h1]
theorem pair0_iv (iss : Int) (hi : 0 ≤ iss ∧ iss < 4294967296) : Iv (pair0 iss) iss ⟨[withSeq synP iss], [], 0, 0, 0, 0⟩ 2 2 := by
  obtain ⟨q1, q2, q3, q4, q5, q6, q7, q8, q9⟩ := pair0_is iss hi
  have hH := Hist.first hi
  refine ⟨hH, ⟨fun _ => rfl, fun h => (by rw [q3] at h; cases h), (by rw [q1]; rfl), ?_, (by simp), (by simp), fun h => absurd h (by show ¬ 1 ≤ 0; omega), fun _ => ⟨rfl, rfl, rfl⟩, fun h => (by rw [q3] at h; cases h), fun h => (by rw [q3] at h; omega), fun h => (by rw [q3] at h; omega), fun h => (by rw [q3] at h; omega), fun h => (by rw [q3] at h; omega), fun h => (by rw [q3] at h; omega), fun h => (by rw [q3] at h; omega), (by rw [q3]; omega)⟩, ⟨fun _ => (by rw [q5, q1]; simp), fun h => (by rw [q3] at h; cases h), fun h => (by rw [q3] at h; omega), fun _ => (by rw [q6]; show (4 : Int) ≤ 0 + 16; omega), (by rw [q4]; omega), (by rw [q7]; exact est0_ok), (by rw [q8]; omega)⟩, fun _ => ⟨rfl, rfl, rfl, rfl⟩, fun T e => (by cases e), fun T e => (by cases e), fun T e => (by cases e), Nat.le_refl _, Nat.le_refl _, Nat.zero_le _, fun s hs => (by cases hs), fun s hs => (by cases hs), fun o ho => ?_, fun T e => (by cases e), rfl, ?_, rfl, rfl, ?_, ?_⟩
  · rw [q2]
    show onN iss 1 = pos iss [withSeq synP iss] 1
    unfold pos offH
    simp [total, long, withSeq, synP]
  · rw [q9] at ho
    simp at ho
    subst ho
    exact ⟨.inl ⟨0, withSeq synP iss, rfl, rfl, rfl, rfl, rfl⟩, fun h => (by cases h), rfl⟩
  · simp [pair0, dat, withSeq, synP]
  · simp [total, long, withSeq, synP]
  · simp
theorem stepped_iv (iss : Int) (hi : 0 ≤ iss ∧ iss < 4294967296) (l : List (Int × Int)) (hl : l.length ≤ 1000) : ∃ G, Iv (stepped iss l) iss G (2 + 9 * l.length) (2 + l.length) := by
  have key : ∀ (l : List (Int × Int)) (P : Pr) (G : Gh) (K L : Nat), K + 9 * l.length + 9 < 1000000 → Iv P iss G K L → ∃ G', Iv (l.foldl (fun P a => P.step a.1 a.2) P) iss G' (K + 9 * l.length) (L + l.length) := by
    intro l
    induction l with
    | nil => intro P G K L _ h; exact ⟨G, h⟩
    | cons x l ih =>
      intro P G K L hK h
      simp only [List.length_cons] at hK
      obtain ⟨G', h'⟩ := h.step (by omega) x.1 x.2
      obtain ⟨G2, h2⟩ := ih _ G' _ _ (by omega) h'
      exact ⟨G2, (by simp only [List.foldl_cons, List.length_cons]; exact h2.more (by omega) (by omega))⟩
  exact key l _ _ 2 2 (by omega) (pair0_iv iss hi)
/-- What came is a beginning of what was sent. -/
theorem Iv.begins (h : Iv P iss G K L) : P.c1 <+: P.s0 ∧ P.c0 <+: P.s1 := by
  rw [h.x1, h.y0, h.x0, h.y1]
  refine ⟨?_, ?_⟩
  · have e : dat G.H = dat (G.H.take G.n) ++ dat (G.H.drop G.n) := by rw [← dat_app, List.take_append_drop]
    rw [e]
    exact List.prefix_append _ _
  · have e : dat G.J = dat (G.J.take G.m) ++ dat (G.J.drop G.m) := by rw [← dat_app, List.take_append_drop]
    rw [e]
    exact List.prefix_append _ _
end
end Go.Proofs.Ytjldgialhgfhmaa
namespace Go.Proofs.Ytjldgialhgfhmaa
set_option linter.unusedVariables false
set_option linter.unusedSimpArgs false
set_option linter.unusedVariables false
set_option linter.unusedSimpArgs false
def noOut (P : Pr) : Prop := P.f0.out = [] ∧ ∀ T, P.f1 = some T → T.out = []
theorem flushed_id {S : Fl} (h : S.out = []) : S.flushed = S := by
  cases S
  dsimp only at h
  subst h
  rfl
theorem fill_nil (way : List (Bool × Sm)) (b : Bool) : fill way b [] = way := by simp [fill]
theorem flush_id {P : Pr} (h : noOut P) : P.flush = P := by
  obtain ⟨f0, f1, way, s0, s1, c0, c1, tick⟩ := P
  obtain ⟨h1, h2⟩ := h
  dsimp only at h1 h2
  unfold Pr.flush
  dsimp only
  rw [h1, fill_nil, flushed_id h1]
  cases f1 with
  | none => rw [show outOf none = [] from rfl, fill_nil]; rfl
  | some T => rw [show outOf (some T) = T.out from rfl, h2 T rfl, fill_nil]; rw [show Option.map Fl.flushed (some T) = some T.flushed from rfl, flushed_id (h2 T rfl)]
theorem flush_no (P : Pr) : noOut P.flush := by
  refine ⟨rfl, fun T e => ?_⟩
  simp [Pr.flush] at e
  obtain ⟨T0, _, e2⟩ := e
  subst e2
  rfl
theorem step00 {P : Pr} (h : noOut P) {p : Bool × Sm} {rest : List (Bool × Sm)} (hw : P.way = p :: rest) : P.step 0 0 = (Pr.comes { P with way := rest } p).flush := by
  unfold Pr.step
  rw [flush_id h]
  unfold Pr.act
  rw [if_pos ⟨(by omega), (by omega), (by rw [hw]; simp)⟩]
  have hi : (min (max (0 : Int) 0) ((P.way.length : Int) - 1)).toNat = 0 := by
    rw [hw]; simp; omega
  rw [hi]
  unfold Pr.pass
  rw [hw]
  simp
/-- What happens when the first packet comes. -/
inductive Dlv (P : Pr) (iss : Int) (G : Gh) (s : Sm) (b : Bool) (rest : List (Bool × Sm)) : Pr → Gh → Prop
  | to0 (S' : Fl) (f : Bool) (a' m' : Nat) (new : List Ot) (hb : b = false) (hp : Pk s 9000 G.J iss G.H G.n false) (hh : Hd P.f0 S' f s iss G.H G.a G.m 9000 G.J G.n true P.tick a' m' new) (x : List Int) :
      Dlv P iss G s b rest { P with f0 := S'.flushed, c0 := x, way := rest ++ new.map (fun o => (true, o.seg)) } { G with a := a', m := m' }
  | to1 (T T' : Fl) (f : Bool) (c' n' : Nat) (new : List Ot) (hb : b = true) (hT : P.f1 = some T) (hp : Pk s iss G.H 9000 G.J G.m true) (hh : Hd T T' f s 9000 G.J G.c G.n iss G.H G.m false P.tick c' n' new) (x : List Int) :
      Dlv P iss G s b rest { P with f1 := some T'.flushed, c1 := x, way := rest ++ new.map (fun o => (false, o.seg)) } { G with c := c', n := n' }
  | new (o : Ot) (hb : b = true) (hT : P.f1 = none) (hp : Pk s iss G.H 9000 G.J G.m true) (hs : s.syn = true ∧ s.acks = false) (ho : isPiece o.seg [withSeq synP 9000] 0 ∧ o.seg.acks = true ∧ o.seg.ack = pos iss G.H 1) :
      Dlv P iss G s b rest { P with f1 := some (answered s P.tick).flushed, way := rest ++ [(false, o.seg)] } { G with J := [withSeq synP 9000], n := 1 }
section
variable {P : Pr} {iss : Int} {G : Gh} {K L : Nat}
theorem fill_room {way : List (Bool × Sm)} {b : Bool} {l : List Ot} (h : way.length + l.length ≤ 60) : fill way b l = way ++ l.map (fun o => (b, o.seg)) := by
  unfold fill
  rw [List.take_of_length_le (by simp; omega)]
theorem deliver (h : Iv P iss G K L) (hn : noOut P) (hl : P.way.length ≤ 60) {b : Bool} {s : Sm} {rest : List (Bool × Sm)} (hw : P.way = (b, s) :: rest) :
    ∃ P' G', P.step 0 0 = P' ∧ Iv P' iss G' K L ∧ noOut P' ∧ Dlv P iss G s b rest P' G' := by
  have hr : rest.length ≤ 59 := by rw [hw] at hl; simp at hl; omega
  rw [step00 hn hw]
  have h1 : Iv { P with way := rest } iss G K L := h.less (fun x hx => by rw [hw]; simp [hx])
  have hp := h.of_way (p := (b, s)) (by rw [hw]; simp)
  cases b with
  | false =>
    have hp := hp.2 rfl
    obtain ⟨S', f, a', m', new, e, hh, hi⟩ := h1.comes0 hp
    rw [e] at hi
    have ef : (Pr.comes { P with way := rest } (false, s)).flush = { P with f0 := S'.flushed, c0 := if f = true then P.c0 ++ s.xs else P.c0, way := rest ++ new.map (fun o => (true, o.seg)) } := by
      rw [e]
      unfold Pr.flush
      have ho : S'.out = new := by rw [hh.out, hn.1]; rfl
      have n1 := hh.n1
      dsimp only
      rw [ho, fill_room (way := rest) (b := true) (l := new) (by omega)]
      cases hf : P.f1 with
      | none => rw [show outOf none = [] from rfl, fill_nil]; rfl
      | some T => rw [show outOf (some T) = T.out from rfl, hn.2 T hf, fill_nil]; rw [show Option.map Fl.flushed (some T) = some T.flushed from rfl, flushed_id (hn.2 T hf)]
    refine ⟨_, _, ef, ?_, ?_, .to0 (P := P) S' f a' m' new rfl hp hh _⟩
    · rw [← ef, e]; exact hi.flush
    · rw [← ef]; exact flush_no _
  | true =>
    have hp := hp.1 rfl
    rcases (show (∃ T, P.f1 = some T) ∨ P.f1 = none by cases P.f1 <;> simp) with ⟨T, hT⟩ | hT
    ·
      obtain ⟨T', f, c', n', new, e, hh, hi⟩ := h1.comes1 hT hp
      rw [e] at hi
      have ef : (Pr.comes { P with way := rest } (true, s)).flush = { P with f1 := some T'.flushed, c1 := if f = true then P.c1 ++ s.xs else P.c1, way := rest ++ new.map (fun o => (false, o.seg)) } := by
        rw [e]
        unfold Pr.flush
        have ho : T'.out = new := by rw [hh.out, hn.2 T hT]; rfl
        have n1 := hh.n1
        dsimp only
        rw [hn.1, fill_nil, show outOf (some T') = T'.out from rfl, ho, fill_room (by omega), flushed_id hn.1]
        rfl
      refine ⟨_, _, ef, ?_, ?_, .to1 (P := P) T T' f c' n' new rfl hT hp hh _⟩
      · rw [← ef, e]; exact hi.flush
      · rw [← ef]; exact flush_no _
    ·
      have hJ := h.no hT
      have hsyn : s.syn = true ∧ s.acks = false := by
        cases hs : s.syn
        · have hk := hp.no
          rw [hs] at hk
          obtain ⟨j, j1, j2, _⟩ := hp.ack (by simpa using hk)
          omega
        · have hk := hp.no
          rw [hs] at hk
          exact ⟨rfl, (by simpa using hk)⟩
      rcases h1.comesN hT hp with ⟨_, e⟩ | ⟨_, _, e, hi⟩
      · exact absurd hsyn e
      · rw [e] at hi
        obtain ⟨q1, q2, q3, q4, q5, q6, q7, q8, q9, q10⟩ := answered_is s P.tick
        have ef : (Pr.comes { P with way := rest } (true, s)).flush = { P with f1 := some (answered s P.tick).flushed, way := rest ++ [(false, (⟨withSeq synP 9000, onN s.seq 1, true, false⟩ : Ot).seg)] } := by
          rw [e]
          unfold Pr.flush
          dsimp only
          rw [hn.1, fill_nil, show outOf (some (answered s P.tick)) = (answered s P.tick).out from rfl, q10, fill_room (by simp; omega), flushed_id hn.1]
          rfl
        have hpc := hp.syn0 h.hH hsyn.1
        have hr1 : onN s.seq 1 = pos iss G.H 1 := by
          obtain ⟨p, g1, g2, g3, g4, g5⟩ := hpc
          rw [g2, (h.hH.seq 0 p g1).1, pos_succ g1]
          have hx := h.hH.one p g1
          have : long p = 1 := by unfold long; rw [hx.1, hx.2, (h.hH.syn 0 p g1).2 rfl]; simp
          rw [this]
          rfl
        refine ⟨_, _, ef, ?_, ?_, .new (P := P) _ rfl hT hp hsyn ⟨⟨withSeq synP 9000, rfl, rfl, rfl, rfl, rfl⟩, rfl, hr1⟩⟩
        · rw [← ef, e]; exact hi.flush
        · rw [← ef]; exact flush_no _
end
/-! The way is empty in the end. -/
def wt1 (s : Sm) (e : Int) : Nat := if s.syn = true then (if s.acks = true then 2 else 3) else if s.fin = false ∧ s.xs = [] ∧ s.seq = e then 1 else 2
def wt (iss : Int) (G : Gh) (x : Bool × Sm) : Nat := if x.1 = true then wt1 x.2 (pos iss G.H G.H.length) else wt1 x.2 (pos 9000 G.J G.J.length)
def wtL (iss : Int) (G : Gh) (l : List (Bool × Sm)) : Nat := (l.map (wt iss G)).sum
theorem wt1_bd (s : Sm) (e : Int) : 1 ≤ wt1 s e ∧ wt1 s e ≤ 3 := by unfold wt1; split <;> (try split) <;> omega
theorem wt_bd (iss : Int) (G : Gh) (x : Bool × Sm) : 1 ≤ wt iss G x ∧ wt iss G x ≤ 3 := by unfold wt; split <;> exact wt1_bd _ _
theorem wtL_le (iss : Int) (G : Gh) (l : List (Bool × Sm)) : wtL iss G l ≤ 3 * l.length := by
  unfold wtL
  induction l with
  | nil => simp
  | cons x l ih => have := wt_bd iss G x; simp; omega
theorem wtL_app (iss : Int) (G : Gh) (l l' : List (Bool × Sm)) : wtL iss G (l ++ l') = wtL iss G l + wtL iss G l' := by unfold wtL; simp
theorem wtL_cons (iss : Int) (G : Gh) (x : Bool × Sm) (l : List (Bool × Sm)) : wtL iss G (x :: l) = wt iss G x + wtL iss G l := by unfold wtL; simp
theorem piece_weight {s : Sm} {H : List Pc} {isx : Int} (hH : Hist isx H) {e : Int} (h : isPiece s H 0) : s.syn = true := (piece_syn hH h).2 rfl
/-- The answers weigh less than what is answered. -/
theorem hd_weight {S S' : Fl} {f : Bool} {s : Sm} {iss isj : Int} {H J : List Pc} {a m mj a' m' : Nat} {b : Bool} {tick : Int} {new : List Ot} (hh : Hd S S' f s iss H a m isj J mj b tick a' m' new) (hH : Hist iss H) (hb : S.st = 2 → b = false) (tb : Bool) :
    (new.map (fun o => wt1 o.seg (pos iss H H.length))).sum < wt1 s (pos isj J J.length) := by
  have hn := hh.n1
  have hbd := wt1_bd s (pos isj J J.length)
  match new, hn with
  | [], _ => simp; omega
  | [o], _ =>
    simp only [List.map_cons, List.map_nil, List.sum_cons, List.sum_nil, Nat.add_zero]
    rcases hh.wt o (by simp) with ⟨t1, t2, _⟩ | ⟨u1, u2, u3, u4⟩
    · have e1 : wt1 o.seg (pos iss H H.length) = 1 := by unfold wt1; rw [if_neg (by rw [t1.1]; simp), if_pos ⟨t1.2.1, t1.2.2, t2⟩]
      rw [e1]
      rcases Nat.lt_or_ge 1 (wt1 s (pos isj J J.length)) with h | h
      · exact h
      · exfalso
        have e2 : wt1 s (pos isj J J.length) = 1 := by omega
        unfold wt1 at e2
        split at e2
        · split at e2 <;> omega
        · rename_i g1
          split at e2
          · rename_i g2
            have := hh.quiet ⟨(by simpa using g1), g2.1, g2.2.1⟩ g2.2.2
            cases this
          · omega
    · have e2 : wt1 s (pos isj J J.length) = 3 := by unfold wt1; rw [if_pos u2, if_neg (by rw [u3]; simp)]
      have hs := (piece_syn hH u4).2 rfl
      have hk := (hh.pk o (by simp)).no
      rw [hb u1] at hk
      have e1 : wt1 o.seg (pos iss H H.length) = 2 := by unfold wt1; rw [if_pos hs, if_pos (by rw [hk]; simp)]
      omega
  | _ :: _ :: _, hn => simp at hn
section
variable {P P' : Pr} {iss : Int} {G G' : Gh} {K L : Nat}
theorem Dlv.len {s : Sm} {b : Bool} {rest : List (Bool × Sm)} (h : Dlv P iss G s b rest P' G') : P'.way.length ≤ rest.length + 1 := by
  cases h with
  | to0 S' f a' m' new hb hp hh x => have := hh.n1; simp; omega
  | to1 T T' f c' n' new hb hT hp hh x => have := hh.n1; simp; omega
  | new o hb hT hp hs ho => simp
theorem Dlv.weight {s : Sm} {b : Bool} {rest : List (Bool × Sm)} (h : Iv P iss G K L) (hw : P.way = (b, s) :: rest) (hd : Dlv P iss G s b rest P' G') : wtL iss G' P'.way < wtL iss G P.way := by
  rw [hw, wtL_cons]
  cases hd with
  | to0 S' f a' m' new hb hp hh x =>
    subst hb
    have := hd_weight hh h.hH (fun e => by have := h.d0.b2 e; exact this) true
    dsimp only
    rw [wtL_app]
    have e1 : wtL iss { G with a := a', m := m' } rest = wtL iss G rest := rfl
    have e2 : wtL iss { G with a := a', m := m' } (new.map (fun o => (true, o.seg))) = (new.map (fun o => wt1 o.seg (pos iss G.H G.H.length))).sum := by unfold wtL; rw [List.map_map]; rfl
    have e3 : wt iss G (false, s) = wt1 s (pos 9000 G.J G.J.length) := rfl
    rw [e1, e2, e3]
    omega
  | to1 T T' f c' n' new hb hT hp hh x =>
    subst hb
    have := hd_weight hh (h.hJ T hT) (fun e => (h.d1 T hT).b2 e) true
    dsimp only
    rw [wtL_app]
    have e1 : wtL iss { G with c := c', n := n' } rest = wtL iss G rest := rfl
    have e2 : wtL iss { G with c := c', n := n' } (new.map (fun o => (false, o.seg))) = (new.map (fun o => wt1 o.seg (pos 9000 G.J G.J.length))).sum := by unfold wtL; rw [List.map_map]; rfl
    have e3 : wt iss G (true, s) = wt1 s (pos iss G.H G.H.length) := rfl
    rw [e1, e2, e3]
    omega
  | new o hb hT hp hs ho =>
    subst hb
    dsimp only
    rw [wtL_app]
    have hno : ∀ x ∈ rest, x.1 = true := fun x hx => by
      obtain ⟨b, s'⟩ := x
      cases b with
      | true => rfl
      | false =>
        obtain ⟨T, hT'⟩ := h.some_of (h.w0 s' (by rw [hw]; simp [hx]))
        rw [hT] at hT'; cases hT'
    have e1 : wtL iss { G with J := [withSeq synP 9000], n := 1 } rest = wtL iss G rest := by
      unfold wtL
      congr 1
      apply List.map_congr_left
      intro x hx
      unfold wt
      rw [if_pos (hno x hx), if_pos (hno x hx)]
    have e2 : wtL iss { G with J := [withSeq synP 9000], n := 1 } [(false, o.seg)] = 2 := by
      have hs' := (piece_syn (Hist.first (iss := 9000) (by omega)) ho.1).2 rfl
      unfold wtL wt wt1
      simp [hs', ho.2.1]
    have e3 : wt iss G (true, s) = 3 := by unfold wt wt1; simp [hs.1, hs.2]
    rw [e1, e2, e3]
    omega
/-- All that is on its way comes. -/
def drain : Nat → Pr → Pr
  | 0, P => P
  | n + 1, P => if P.way = [] then P else drain n (P.step 0 0)
theorem drain_empty (n : Nat) : ∀ {P : Pr} {G : Gh}, Iv P iss G K L → noOut P → P.way.length ≤ 60 → wtL iss G P.way ≤ n → (drain n P).way = [] ∧ noOut (drain n P) ∧ ∃ G', Iv (drain n P) iss G' K L := by
  induction n with
  | zero =>
    intro P G h hn hl hw
    have : P.way = [] := by
      cases hx : P.way with
      | nil => rfl
      | cons x l => rw [hx, wtL_cons] at hw; have := wt_bd iss G x; omega
    exact ⟨this, hn, G, h⟩
  | succ n ih =>
    intro P G h hn hl hw
    unfold drain
    cases hx : P.way with
    | nil => rw [if_pos rfl]; exact ⟨hx, hn, G, h⟩
    | cons x rest =>
      rw [if_neg (by simp)]
      obtain ⟨b, s⟩ := x
      obtain ⟨P', G', e, h', hn', hd⟩ := deliver h hn hl hx
      rw [e]
      have := hd.weight h hx
      have hlen := hd.len
      rw [hx] at hl
      simp at hl
      exact ih h' hn' (by omega) (by omega)
end
end Go.Proofs.Ytjldgialhgfhmaa
namespace Go.Proofs.Ytjldgialhgfhmaa
set_option linter.unusedVariables false
set_option linter.unusedSimpArgs false
set_option linter.unusedVariables false
set_option linter.unusedSimpArgs false
/-- The packets on their way to one side. -/
def sub (b : Bool) (way : List (Bool × Sm)) : List Sm := way.filterMap (fun x => if x.1 = b then some x.2 else none)
theorem sub_app (b : Bool) (l l' : List (Bool × Sm)) : sub b (l ++ l') = sub b l ++ sub b l' := by unfold sub; rw [List.filterMap_append]
theorem sub_same (b : Bool) (s : Sm) (l : List (Bool × Sm)) : sub b ((b, s) :: l) = s :: sub b l := by unfold sub; simp
theorem sub_not {b b' : Bool} (h : b' ≠ b) (s : Sm) (l : List (Bool × Sm)) : sub b ((b', s) :: l) = sub b l := by unfold sub; simp [h]
theorem sub_map (b : Bool) (l : List Ot) : sub b (l.map (fun o => (b, o.seg))) = l.map Ot.seg := by
  unfold sub
  induction l with
  | nil => rfl
  | cons o l ih => simp only [List.map_cons, List.filterMap_cons, if_true, ih]
theorem sub_map_not {b b' : Bool} (h : b' ≠ b) (l : List Ot) : sub b (l.map (fun o => (b', o.seg))) = [] := by
  unfold sub
  induction l with
  | nil => rfl
  | cons o l ih => simp only [List.map_cons, List.filterMap_cons, if_neg h, ih]
theorem mem_sub {b : Bool} {s : Sm} {l : List (Bool × Sm)} : s ∈ sub b l ↔ (b, s) ∈ l := by
  unfold sub
  rw [List.mem_filterMap]
  constructor
  · rintro ⟨⟨b', s'⟩, h1, h2⟩
    by_cases h : b' = b
    · simp [h] at h2
      subst h h2
      exact h1
    · simp [h] at h2
  · intro h
    exact ⟨(b, s), h, (by simp)⟩
/-- The acknowledgement of all that was taken is on its way. -/
def Prom0 (P : Pr) (iss : Int) (G : Gh) : Prop := G.a = G.n ∨ ∃ s, s ∈ sub false P.way ∧ s.acks = true ∧ s.ack = pos iss G.H G.n ∧ ((s.syn = false ∧ 2 ≤ P.f0.st) ∨ (P.f0.st = 1 ∧ isPiece s G.J 0))
def Prom1 (P : Pr) (G : Gh) : Prop := G.c = G.m ∨ ∃ s, s ∈ sub true P.way ∧ s.acks = true ∧ s.ack = pos 9000 G.J G.m ∧ s.syn = false
/-- The second one is asked, or asks, to open once more. -/
def Shake (P : Pr) (G0 G : Gh) : Prop := G0.m = 0 ∧ (1 ≤ G.m ∨ ∃ s, s ∈ sub false P.way ∧ isPiece s G.J 0)
def sameTm (S S0 : Fl) : Prop := S.has = S0.has ∧ S.at_ = S0.at_ ∧ S.tries = S0.tries
structure DI (P0 : Pr) (G0 : Gh) (X Y : List Sm) (iss : Int) (P : Pr) (G : Gh) : Prop where
  H : G.H = G0.H
  J : G.J = G0.J ∨ (G0.J = [] ∧ Y = [] ∧ P0.f1 = none)
  ge : G0.a ≤ G.a ∧ G0.m ≤ G.m ∧ G0.c ≤ G.c ∧ G0.n ≤ G.n
  q1 : ∃ k R, sub true P.way = X.drop k ++ R ∧ k ≤ X.length ∧ (∀ s ∈ R, isTell s) ∧ G0.a + k ≤ G.n ∧ ((k = 0 ∧ G.n = G0.n) ∨ Prom0 P iss G)
  q0 : ∃ k R, sub false P.way = Y.drop k ++ R ∧ k ≤ Y.length ∧ (∀ s ∈ R, isTell s ∨ isPiece s G.J 0) ∧ G0.c + k ≤ G.m ∧ ((k = 0 ∧ G.m = G0.m) ∨ Prom1 P G)
  syn1 : ∀ s, s ∈ sub true P.way → s.syn = true → G0.m = 0
  tm0 : (G.a = G0.a ∧ sameTm P.f0 P0.f0) ∨ G0.a < G.a ∨ G.a = G.H.length
  tm1 : (P.f1 = none ∧ P0.f1 = none) ∨ (∃ T T0, P.f1 = some T ∧ P0.f1 = some T0 ∧ G.c = G0.c ∧ sameTm T T0) ∨ G0.c < G.c ∨ G.c = G.J.length ∨ Shake P G0 G
  ac0 : X = [] → ∀ s, s ∈ sub false P.way → s.acks = true → s.ack = pos iss G.H G.n
  ac1 : Y = [] → ∀ s, s ∈ sub true P.way → s.acks = true → s.ack = pos 9000 G.J G.m
  aj0 : X = [] → G0.a < G.a → G.a = G.n
  aj1 : Y = [] → G0.c < G.c → G.c = G.m
  nx : X = [] → G.n = G0.n
  my : Y = [] → G.m = G0.m ∨ (G0.m = 0 ∧ G.m = 1)
def alive (P : Pr) : Prop := P.f0.st < 10 ∧ ∀ T, P.f1 = some T → T.st < 10
section
variable {P0 P : Pr} {G0 G : Gh} {X Y : List Sm} {iss : Int} {K L : Nat}
/-- What stands on the way is either a piece of those sent, or behind them all. -/
theorem cut_head {X R : List Sm} {k : Nat} {s : Sm} {l : List Sm} (h : s :: l = X.drop k ++ R) (hk : k ≤ X.length) : (X[k]? = some s ∧ l = X.drop (k + 1) ++ R ∧ k < X.length) ∨ (k = X.length ∧ ∃ R', R = s :: R' ∧ l = X.drop k ++ R') := by
  rcases Nat.eq_or_lt_of_le hk with rfl | hlt
  · right
    rw [List.drop_length] at h ⊢
    exact ⟨rfl, l, h.symm, rfl⟩
  · left
    rw [List.drop_eq_getElem_cons hlt] at h
    injection h with h1 h2
    exact ⟨(by rw [List.getElem?_eq_getElem hlt, h1]), h2, hlt⟩
theorem DI.to0 {s : Sm} {rest : List (Bool × Sm)} {S' : Fl} {f : Bool} {a' m' : Nat} {new : List Ot} {x : List Int} (hY : ∀ (t : Nat) (s : Sm), Y[t]? = some s → isPiece s G0.J (G0.c + t)) (h : Iv P iss G K L) (hd : DI P0 G0 X Y iss P G) (hw : P.way = (false, s) :: rest)
    (hp : Pk s 9000 G.J iss G.H G.n false) (hh : Hd P.f0 S' f s iss G.H G.a G.m 9000 G.J G.n true P.tick a' m' new)
    (ha : alive P) (ha' : S'.st < 10) :
    DI P0 G0 X Y iss { P with f0 := S'.flushed, c0 := x, way := rest ++ new.map (fun o => (true, o.seg)) } { G with a := a', m := m' } := by
  obtain ⟨T, hT⟩ := h.some_of hp
  have hJ := h.hJ T hT
  have hTs := ha.2 T hT
  have hd1 := h.d1 T hT
  have hs10 := ha.1
  obtain ⟨g1, g2, g3, g4⟩ := hd.ge
  have e1 : sub true P.way = sub true rest := by rw [hw]; exact sub_not (by decide) _ _
  have e0 : sub false P.way = s :: sub false rest := by rw [hw]; exact sub_same _ _ _
  have w1 : sub true (rest ++ new.map (fun o => (true, o.seg))) = sub true rest ++ new.map Ot.seg := by rw [sub_app, sub_map]
  have w0 : sub false (rest ++ new.map (fun o => (true, o.seg))) = sub false rest := by rw [sub_app, sub_map_not (by decide)]; simp
  -- what it tells
  have hnew : ∀ o ∈ new, isTell o.seg ∧ o.seg.acks = true ∧ o.seg.ack = pos 9000 G.J m' := fun o ho => by
    rcases hh.wt o ho with ⟨t1, _, t3, t4⟩ | ⟨u, _⟩
    · exact ⟨t1, t3, t4⟩
    · have := h.d0.b2 u; cases this
  have hprom : new ≠ [] → Prom1 { P with f0 := S'.flushed, c0 := x, way := rest ++ new.map (fun o => (true, o.seg)) } { G with a := a', m := m' } := fun hne => by
    obtain ⟨o, ho⟩ := List.exists_mem_of_ne_nil new hne
    obtain ⟨t1, t3, t4⟩ := hnew o ho
    refine .inr ⟨o.seg, ?_, t3, t4, t1.1⟩
    show o.seg ∈ sub true (rest ++ new.map (fun o => (true, o.seg)))
    rw [w1]
    exact List.mem_append.2 (.inr (List.mem_map.2 ⟨o, ho, rfl⟩))
  -- a first piece alone is what one hears that dials
  have hst1 : P.f0.st = 1 → ∀ j, isPiece s G.J j → j = 0 := fun e j hj => by
    have hm0 := (h.d0.s1 e).2.2
    have hc0 : G.c = 0 := by have := h.cm; omega
    have hr := hd1.rng
    have h2 : T.st = 2 := by
      rcases Int.lt_or_le T.st 3 with g | g
      · have : T.st ≠ 1 := fun e => by have := hd1.b1 e; cases this
        omega
      · have := hd1.s3 g (by omega); omega
    have := (hd1.s2 h2).1
    have := (piece_pos hJ hj).2
    omega
  have hpiece : ∀ j, isPiece s G.J j → new ≠ [] ∧ (j ≤ G.m → j + 1 ≤ m') := fun j hj => hh.resp ha' hs10 j hj (fun e => hst1 e j hj)
  have hmm := hh.mm
  have haa := hh.aa
  have hn1 := h.nl
  -- the promise to the first one
  have hpr0 : Prom0 P iss G → Prom0 { P with f0 := S'.flushed, c0 := x, way := rest ++ new.map (fun o => (true, o.seg)) } iss { G with a := a', m := m' } := by
    rintro (e | ⟨s2, u1, u2, u3, u4⟩)
    · left; show a' = G.n; omega
    · rw [e0] at u1
      have hrg := h.d0.rng
      rcases List.mem_cons.1 u1 with rfl | u1
      · left
        show a' = G.n
        rcases u4 with ⟨v1, v2⟩ | ⟨v1, v2⟩
        · have := hh.ackd v1 v2 hs10 G.n u2 u3 hn1; omega
        · have := hh.ack1 v2 v1 u2
          have := (h.d0.s1 v1).1
          omega
      · by_cases hs1 : P.f0.st = 1
        · by_cases hs2 : S'.st = 1
          · right
            refine ⟨s2, (by show s2 ∈ sub false _; rw [w0]; exact u1), u2, u3, .inr ⟨hs2, ?_⟩⟩
            rcases u4 with ⟨_, v2⟩ | ⟨_, v2⟩
            · omega
            · exact v2
          · left
            show a' = G.n
            have hr' := hh.sd.rng
            have : S'.st ≠ 2 := fun e => by have := hh.sd.b2 e; cases this
            have := hh.sd.s3 (by omega) (by omega)
            have := (h.d0.s1 hs1).1
            omega
        · right
          refine ⟨s2, (by show s2 ∈ sub false _; rw [w0]; exact u1), u2, u3, .inl ⟨?_, ?_⟩⟩
          · rcases u4 with ⟨v1, _⟩ | ⟨v1, _⟩
            · exact v1
            · exact absurd v1 hs1
          · show 2 ≤ S'.st
            have : P.f0.st ≠ 2 := fun e => by have := h.d0.b2 e; cases this
            have := h.d0.s3 (by omega) (by omega)
            have hr' := hh.sd.rng
            rcases Int.lt_or_le S'.st 2 with g | g
            · have := hh.sd.s1 (by omega); omega
            · exact g
  -- what is heard of those on their way
  obtain ⟨k0, R0, r1, r2, r3, r4, r5⟩ := hd.q0
  obtain ⟨k1, R1, v1, v2, v3, v4, v5⟩ := hd.q1
  have hcut := cut_head (e0.symm.trans r1) r2
  have hJY : Y ≠ [] → G.J = G0.J := fun hne => hd.J.elim id (fun h => absurd h.2.1 hne)
  have hq0 : ∃ k R, sub false rest = Y.drop k ++ R ∧ k ≤ Y.length ∧ (∀ s ∈ R, isTell s ∨ isPiece s G.J 0) ∧ G0.c + k ≤ m' ∧ ((k = 0 ∧ m' = G0.m) ∨ Prom1 { P with f0 := S'.flushed, c0 := x, way := rest ++ new.map (fun o => (true, o.seg)) } { G with a := a', m := m' }) := by
    rcases hcut with ⟨c1, c2, c3⟩ | ⟨c1, R', c2, c3⟩
    · have hpc := hY k0 s c1
      rw [← hJY (by rintro rfl; simp at c3)] at hpc
      obtain ⟨p1, p2⟩ := hpiece _ hpc
      exact ⟨k0 + 1, R0, c2, (by omega), r3, (by have := p2 r4; omega), .inr (hprom p1)⟩
    · refine ⟨k0, R', c3, r2, fun y hy => r3 y (by rw [c2]; simp [hy]), (by omega), ?_⟩
      rcases r3 s (by rw [c2]; simp) with ht | ht
      · have em := hh.tellm ht
        rcases r5 with ⟨q, q'⟩ | q
        · exact .inl ⟨q, (by omega)⟩
        · right
          rcases q with q | ⟨s2, u1, u2, u3, u4⟩
          · left; show G.c = m'; omega
          · right
            refine ⟨s2, ?_, u2, (by show s2.ack = pos 9000 G.J m'; rw [em]; exact u3), u4⟩
            show s2 ∈ sub true (rest ++ new.map (fun o => (true, o.seg)))
            rw [w1, ← e1]
            exact List.mem_append.2 (.inl u1)
      · exact .inr (hprom (hpiece 0 ht).1)
  refine ⟨hd.H, hd.J, ⟨(by show G0.a ≤ a'; omega), (by show G0.m ≤ m'; omega), g3, g4⟩, ?_, ?_, ?_, ?_, ?_, ?_, ?_, ?_, ?_, hd.nx, ?_⟩
  · refine ⟨k1, R1 ++ new.map Ot.seg, ?_, v2, fun y hy => ?_, v4, ?_⟩
    · show sub true (rest ++ new.map (fun o => (true, o.seg))) = _
      rw [w1, ← e1, v1, List.append_assoc]
    · rcases List.mem_append.1 hy with hy | hy
      · exact v3 y hy
      · obtain ⟨o, ho, rfl⟩ := List.mem_map.1 hy
        exact (hnew o ho).1
    · rcases v5 with q | q
      · exact .inl q
      · exact .inr (hpr0 q)
  · obtain ⟨k, R, z1, z2, z3, z4, z5⟩ := hq0
    exact ⟨k, R, (by show sub false (rest ++ new.map (fun o => (true, o.seg))) = _; rw [w0]; exact z1), z2, z3, z4, z5⟩
  · intro y hy hs
    have hy : y ∈ sub true (rest ++ new.map (fun o => (true, o.seg))) := hy
    rw [w1] at hy
    rcases List.mem_append.1 hy with hy | hy
    · exact hd.syn1 y (by rw [e1]; exact hy) hs
    · obtain ⟨o, ho, rfl⟩ := List.mem_map.1 hy
      rw [(hnew o ho).1.1] at hs
      cases hs
  · show (a' = G0.a ∧ sameTm S'.flushed P0.f0) ∨ G0.a < a' ∨ a' = G.H.length
    rcases hd.tm0 with ⟨q1, q2, q3, q4⟩ | q | q
    · rcases hh.tim with ⟨z1, z2, z3, z4, _⟩ | z | ⟨z1, z2⟩ | ⟨z1, _⟩
      · exact .inl ⟨(by omega), z2.trans q2, z3.trans q3, z4.trans q4⟩
      · exact .inr (.inl (by omega))
      · exact .inr (.inr (hh.sd.sd (by omega)).2)
      · have := h.d0.b2 z1; cases this
    · exact .inr (.inl (by omega))
    · exact .inr (.inr (by have := hh.sd.al; omega))
  · show (P.f1 = none ∧ P0.f1 = none) ∨ (∃ T T0, P.f1 = some T ∧ P0.f1 = some T0 ∧ G.c = G0.c ∧ sameTm T T0) ∨ G0.c < G.c ∨ G.c = G.J.length ∨ Shake _ G0 _
    rcases hd.tm1 with q | q | q | q | ⟨q0, q⟩
    · exact .inl q
    · exact .inr (.inl q)
    · exact .inr (.inr (.inl q))
    · exact .inr (.inr (.inr (.inl q)))
    · refine .inr (.inr (.inr (.inr ⟨q0, ?_⟩)))
      rcases q with q | ⟨s2, u1, u2⟩
      · left; show 1 ≤ m'; omega
      · rw [e0] at u1
        rcases List.mem_cons.1 u1 with rfl | u1
        · left; show 1 ≤ m'
          have := (hpiece 0 u2).2 (Nat.zero_le _); omega
        · right
          exact ⟨s2, (by show s2 ∈ sub false (rest ++ new.map (fun o => (true, o.seg))); rw [w0]; exact u1), u2⟩
  · intro hx y hy hk
    have hy : y ∈ sub false (rest ++ new.map (fun o => (true, o.seg))) := hy
    rw [w0] at hy
    exact hd.ac0 hx y (by rw [e0]; simp [hy]) hk
  · intro hy0 y hy hk
    have hy : y ∈ sub true (rest ++ new.map (fun o => (true, o.seg))) := hy
    show y.ack = pos 9000 G.J m'
    rw [w1] at hy
    rcases List.mem_append.1 hy with hy | hy
    · have hym : (true, y) ∈ P.way := mem_sub.1 (by rw [e1]; exact hy)
      have hyk := hd.ac1 hy0 y (by rw [e1]; exact hy) hk
      have em : m' = G.m := by
        rcases hcut with ⟨c1, c2, c3⟩ | ⟨c1, R', c2, c3⟩
        · rw [hy0] at c3; simp at c3
        · rcases r3 s (by rw [c2]; simp) with ht | ht
          · exact hh.tellm ht
          · rcases hh.pm 0 ht with h | ⟨h, _⟩
            · exact h
            · obtain ⟨j, j1, j2, _⟩ := (h.symm ▸ (h ▸ (‹Iv P iss G K L›.w1 y hym)).ack hk : ∃ j, 1 ≤ j ∧ j ≤ G.m ∧ y.ack = pos 9000 G.J j)
              omega
      rw [em]
      exact hyk
    · obtain ⟨o, ho, rfl⟩ := List.mem_map.1 hy
      exact (hnew o ho).2.2
  · intro hx hlt
    show a' = G.n
    have hlt : G0.a < a' := hlt
    rcases Nat.eq_or_lt_of_le haa.1 with e | e
    · have := hd.aj0 hx (by omega)
      omega
    · obtain ⟨k1', k2'⟩ := hh.aj e
      have := hd.ac0 hx s (by rw [e0]; simp) k1'
      exact pos_inj h.hH (by omega) hn1 (k2'.symm.trans this)
  · intro hy0 hlt
    show G.c = m'
    have hlt : G0.c < G.c := hlt
    have hcm := hd.aj1 hy0 hlt
    have em : m' = G.m := by
      rcases hcut with ⟨c1, c2, c3⟩ | ⟨c1, R', c2, c3⟩
      · rw [hy0] at c3; simp at c3
      · rcases r3 s (by rw [c2]; simp) with ht | ht
        · exact hh.tellm ht
        · rcases hh.pm 0 ht with h | ⟨h, _⟩
          · exact h
          · omega
    omega
  · intro hy0
    show m' = G0.m ∨ (G0.m = 0 ∧ m' = 1)
    have em : m' = G.m ∨ (G.m = 0 ∧ m' = 1) := by
      rcases hcut with ⟨c1, c2, c3⟩ | ⟨c1, R', c2, c3⟩
      · rw [hy0] at c3; simp at c3
      · rcases r3 s (by rw [c2]; simp) with ht | ht
        · exact .inl (hh.tellm ht)
        · rcases hh.pm 0 ht with h | ⟨h, h'⟩
          · exact .inl h
          · exact .inr ⟨h.symm, by omega⟩
    have := hd.my hy0
    omega
end
end Go.Proofs.Ytjldgialhgfhmaa
namespace Go.Proofs.Ytjldgialhgfhmaa
set_option linter.unusedVariables false
set_option linter.unusedSimpArgs false
set_option linter.unusedVariables false
set_option linter.unusedSimpArgs false
section
variable {P0 P : Pr} {G0 G : Gh} {X Y : List Sm} {iss : Int} {K L : Nat}
theorem DI.to1 {s : Sm} {rest : List (Bool × Sm)} {T T' : Fl} {f : Bool} {c' n' : Nat} {new : List Ot} {x : List Int} (hX : ∀ (t : Nat) (s : Sm), X[t]? = some s → isPiece s G0.H (G0.a + t)) (h : Iv P iss G K L) (hd : DI P0 G0 X Y iss P G) (hw : P.way = (true, s) :: rest)
    (hT : P.f1 = some T) (hp : Pk s iss G.H 9000 G.J G.m true) (hh : Hd T T' f s 9000 G.J G.c G.n iss G.H G.m false P.tick c' n' new)
    (ha : alive P) (ha' : T'.st < 10) :
    DI P0 G0 X Y iss { P with f1 := some T'.flushed, c1 := x, way := rest ++ new.map (fun o => (false, o.seg)) } { G with c := c', n := n' } := by
  have hJ := h.hJ T hT
  have hTs := ha.2 T hT
  have hd1 := h.d1 T hT
  have hs10 := ha.1
  obtain ⟨g1, g2, g3, g4⟩ := hd.ge
  have e1 : sub true P.way = s :: sub true rest := by rw [hw]; exact sub_same _ _ _
  have e0 : sub false P.way = sub false rest := by rw [hw]; exact sub_not (by decide) _ _
  have w1 : sub true (rest ++ new.map (fun o => (false, o.seg))) = sub true rest := by rw [sub_app, sub_map_not (by decide)]; simp
  have w0 : sub false (rest ++ new.map (fun o => (false, o.seg))) = sub false rest ++ new.map Ot.seg := by rw [sub_app, sub_map]
  have hrT := hd1.rng
  have hT1 : T.st ≠ 1 := fun e => by have := hd1.b1 e; cases this
  have hT2 : 2 ≤ T.st := by omega
  have hnew : ∀ o ∈ new, (isTell o.seg ∧ o.seg.acks = true ∧ o.seg.ack = pos iss G.H n') ∨ (T.st = 2 ∧ s.syn = true ∧ s.acks = false ∧ isPiece o.seg G.J 0) := fun o ho => by
    rcases hh.wt o ho with ⟨t1, _, t3, t4⟩ | u
    · exact .inl ⟨t1, t3, t4⟩
    · exact .inr u
  have hpiece : ∀ j, isPiece s G.H j → new ≠ [] ∧ (j ≤ G.n → j + 1 ≤ n') := fun j hj => hh.resp ha' hTs j hj (fun e => absurd e hT1)
  have hmm := hh.mm
  have haa := hh.aa
  have hml := h.d0.ml
  have hnl := h.nl
  have han := h.an
  have hr0 := h.d0.rng
  have hf2 : P.f0.st ≠ 2 := fun e => by have := h.d0.b2 e; cases this
  have hnn' : n' ≤ G.H.length := hh.sd.ml
  obtain ⟨k0, R0, r1, r2, r3, r4, r5⟩ := hd.q0
  obtain ⟨k1, R1, v1, v2, v3, v4, v5⟩ := hd.q1
  have hcut := cut_head (e1.symm.trans v1) v2
  -- an answer promises
  have hprom : (∃ j, isPiece s G.H j) → Prom0 { P with f1 := some T'.flushed, c1 := x, way := rest ++ new.map (fun o => (false, o.seg)) } iss { G with c := c', n := n' } := fun ⟨j, hj⟩ => by
    obtain ⟨o, ho⟩ := List.exists_mem_of_ne_nil new (hpiece j hj).1
    have hmem : o.seg ∈ sub false (rest ++ new.map (fun o => (false, o.seg))) := by rw [w0]; exact List.mem_append.2 (.inr (List.mem_map.2 ⟨o, ho, rfl⟩))
    have hjl := (piece_pos h.hH hj).2
    rcases hnew o ho with ⟨t1, t3, t4⟩ | ⟨u1, u2, u3, u4⟩
    · by_cases hs1 : P.f0.st = 1
      · exfalso
        have q := h.d0.s1 hs1
        have hcm := h.cm
        have hT2' : T.st = 2 := by
          rcases Int.lt_or_le T.st 3 with g | g
          · omega
          · have := hd1.s3 g (by omega); omega
        have hsyn : s.syn = true := (piece_syn h.hH hj).2 (by omega)
        have hk := hp.no
        rw [hsyn] at hk
        have hpc0 := hh.dup hT2' hsyn (by simpa using hk) o ho
        exact piece_tell hJ hpc0 t1
      · exact .inr ⟨o.seg, hmem, t3, t4, .inl ⟨t1.1, (by show 2 ≤ P.f0.st; omega)⟩⟩
    · have q2 := hd1.s2 u1
      have hn' : n' = 1 := by
        have := hh.pm j hj
        have := (piece_syn h.hH hj).1 u2
        omega
      by_cases hs1 : P.f0.st = 1
      · right
        have hk := (hh.pk o ho).no
        have hk' : o.seg.acks = true := by rw [hk]; simp
        obtain ⟨i, i1, i2, i3⟩ := (hh.pk o ho).ack hk'
        have : i = n' := by omega
        subst this
        exact ⟨o.seg, hmem, hk', i3, .inr ⟨hs1, u4⟩⟩
      · left
        show G.a = n'
        have := (h.d0.s3 (by omega) (by omega)).1
        omega
  have hXH : X ≠ [] → True := fun _ => trivial
  refine ⟨hd.H, hd.J, ⟨g1, g2, (by show G0.c ≤ c'; omega), (by show G0.n ≤ n'; omega)⟩, ?_, ?_, ?_, ?_, ?_, ?_, ?_, ?_, ?_, ?_, hd.my⟩
  · rcases hcut with ⟨c1, c2, c3⟩ | ⟨c1, R', c2, c3⟩
    · have hpc := hX k1 s c1
      rw [← hd.H] at hpc
      have := (hpiece _ hpc).2 v4
      exact ⟨k1 + 1, R1, (by show sub true (rest ++ new.map (fun o => (false, o.seg))) = _; rw [w1]; exact c2), (by omega), v3, (by show G0.a + (k1 + 1) ≤ n'; omega), .inr (hprom ⟨_, hpc⟩)⟩
    · have ht := v3 s (by rw [c2]; simp)
      have em := hh.tellm ht
      refine ⟨k1, R', (by show sub true (rest ++ new.map (fun o => (false, o.seg))) = _; rw [w1]; exact c3), v2, fun y hy => v3 y (by rw [c2]; simp [hy]), (by show G0.a + k1 ≤ n'; omega), ?_⟩
      rcases v5 with ⟨q, q'⟩ | q
      · exact .inl ⟨q, (by show n' = G0.n; omega)⟩
      · right
        rcases q with q | ⟨s2, u1, u2, u3, u4⟩
        · left; show G.a = n'; omega
        · right
          refine ⟨s2, ?_, u2, (by show s2.ack = pos iss G.H n'; rw [em]; exact u3), u4⟩
          show s2 ∈ sub false (rest ++ new.map (fun o => (false, o.seg)))
          rw [w0, ← e0]
          exact List.mem_append.2 (.inl u1)
  · refine ⟨k0, R0 ++ new.map Ot.seg, ?_, r2, fun y hy => ?_, r4, ?_⟩
    · show sub false (rest ++ new.map (fun o => (false, o.seg))) = _
      rw [w0, ← e0, r1, List.append_assoc]
    · rcases List.mem_append.1 hy with hy | hy
      · exact r3 y hy
      · obtain ⟨o, ho, rfl⟩ := List.mem_map.1 hy
        rcases hnew o ho with ⟨t1, _⟩ | ⟨_, _, _, u⟩
        · exact .inl t1
        · exact .inr u
    · rcases r5 with q | q
      · exact .inl q
      · right
        rcases q with q | ⟨s2, u1, u2, u3, u4⟩
        · left; show c' = G.m; omega
        · rw [e1] at u1
          rcases List.mem_cons.1 u1 with rfl | u1
          · left
            show c' = G.m
            have := hh.ackd u4 hT2 hTs G.m u2 u3 hml
            omega
          · right
            exact ⟨s2, (by show s2 ∈ sub true (rest ++ new.map (fun o => (false, o.seg))); rw [w1]; exact u1), u2, u3, u4⟩
  · intro y hy hs
    have hy : y ∈ sub true (rest ++ new.map (fun o => (false, o.seg))) := hy
    rw [w1] at hy
    exact hd.syn1 y (by rw [e1]; simp [hy]) hs
  · exact hd.tm0
  · show (some T'.flushed = none ∧ P0.f1 = none) ∨ (∃ T2 T0, some T'.flushed = some T2 ∧ P0.f1 = some T0 ∧ c' = G0.c ∧ sameTm T2 T0) ∨ G0.c < c' ∨ c' = G.J.length ∨ Shake _ G0 _
    have hshake : Shake P G0 G → Shake { P with f1 := some T'.flushed, c1 := x, way := rest ++ new.map (fun o => (false, o.seg)) } G0 { G with c := c', n := n' } := by
      rintro ⟨q0, q⟩
      refine ⟨q0, ?_⟩
      rcases q with q | ⟨s2, u1, u2⟩
      · exact .inl q
      · right
        refine ⟨s2, ?_, u2⟩
        show s2 ∈ sub false (rest ++ new.map (fun o => (false, o.seg)))
        rw [w0, ← e0]
        exact List.mem_append.2 (.inl u1)
    rcases hd.tm1 with ⟨q, _⟩ | ⟨T2, T0, q1, q2, q3, q4⟩ | q | q | q
    · rw [hT] at q; cases q
    · rw [hT] at q1
      injection q1 with q1
      subst q1
      rcases hh.tim with ⟨z1, z2, z3, z4, _⟩ | z | ⟨z1, z2⟩ | ⟨z1, z2, z3⟩
      · exact .inr (.inl ⟨_, T0, rfl, q2, (by omega), z2.trans q4.1, z3.trans q4.2.1, z4.trans q4.2.2⟩)
      · exact .inr (.inr (.inl (by omega)))
      · exact .inr (.inr (.inr (.inl (hh.sd.sd (by omega)).2)))
      · refine .inr (.inr (.inr (.inr ⟨hd.syn1 s (by rw [e1]; simp) z2, .inr ?_⟩)))
        have hpc := hp.syn0 h.hH z2
        obtain ⟨o, ho⟩ := List.exists_mem_of_ne_nil new (hpiece 0 hpc).1
        refine ⟨o.seg, ?_, hh.dup z1 z2 z3 o ho⟩
        show o.seg ∈ sub false (rest ++ new.map (fun o => (false, o.seg)))
        rw [w0]
        exact List.mem_append.2 (.inr (List.mem_map.2 ⟨o, ho, rfl⟩))
    · exact .inr (.inr (.inl (by omega)))
    · exact .inr (.inr (.inr (.inl (by have := hh.sd.al; omega))))
    · exact .inr (.inr (.inr (.inr (hshake q))))
  · intro hx y hy hk
    have hy : y ∈ sub false (rest ++ new.map (fun o => (false, o.seg))) := hy
    show y.ack = pos iss G.H n'
    have ht : isTell s := by
      rcases hcut with ⟨c1, c2, c3⟩ | ⟨c1, R', c2, c3⟩
      · rw [hx] at c3; simp at c3
      · exact v3 s (by rw [c2]; simp)
    rw [w0] at hy
    rcases List.mem_append.1 hy with hy | hy
    · rw [hh.tellm ht]
      exact hd.ac0 hx y (by rw [e0]; exact hy) hk
    · obtain ⟨o, ho, rfl⟩ := List.mem_map.1 hy
      rcases hnew o ho with ⟨_, _, t⟩ | ⟨_, u, _⟩
      · exact t
      · rw [ht.1] at u; cases u
  · intro hy0 y hy hk
    have hy : y ∈ sub true (rest ++ new.map (fun o => (false, o.seg))) := hy
    rw [w1] at hy
    exact hd.ac1 hy0 y (by rw [e1]; simp [hy]) hk
  · intro hx hlt
    show G.a = n'
    have ht : isTell s := by
      rcases hcut with ⟨c1, c2, c3⟩ | ⟨c1, R', c2, c3⟩
      · rw [hx] at c3; simp at c3
      · exact v3 s (by rw [c2]; simp)
    rw [hh.tellm ht]
    exact hd.aj0 hx hlt
  · intro hy0 hlt
    show c' = G.m
    have hlt : G0.c < c' := hlt
    rcases Nat.eq_or_lt_of_le haa.1 with e | e
    · have := hd.aj1 hy0 (by omega)
      omega
    · obtain ⟨k1', k2'⟩ := hh.aj e
      have := hd.ac1 hy0 s (by rw [e1]; simp) k1'
      exact pos_inj hJ (by omega) hml (k2'.symm.trans this)
  · intro hx
    show n' = G0.n
    have ht : isTell s := by
      rcases hcut with ⟨c1, c2, c3⟩ | ⟨c1, R', c2, c3⟩
      · rw [hx] at c3; simp at c3
      · exact v3 s (by rw [c2]; simp)
    have := hh.tellm ht
    have := hd.nx hx
    omega
theorem DI.new {s : Sm} {rest : List (Bool × Sm)} {o : Ot} {S1 : Fl} (hX : ∀ (t : Nat) (s : Sm), X[t]? = some s → isPiece s G0.H (G0.a + t)) (h : Iv P iss G K L) (hd : DI P0 G0 X Y iss P G) (hw : P.way = (true, s) :: rest)
    (hT : P.f1 = none) (hY0 : P0.f1 = none) (hY : Y = []) (hJ0 : G0.J = []) (hp : Pk s iss G.H 9000 G.J G.m true) (hs : s.syn = true ∧ s.acks = false) (ho : isPiece o.seg [withSeq synP 9000] 0 ∧ o.seg.acks = true ∧ o.seg.ack = pos iss G.H 1) (ha : alive P) :
    DI P0 G0 X Y iss { P with f1 := some S1, way := rest ++ [(false, o.seg)] } { G with J := [withSeq synP 9000], n := 1 } := by
  obtain ⟨hJ, hn, hc, hm⟩ := h.no hT
  have hs10 := ha.1
  obtain ⟨g1, g2, g3, g4⟩ := hd.ge
  have e1 : sub true P.way = s :: sub true rest := by rw [hw]; exact sub_same _ _ _
  have e0 : sub false P.way = sub false rest := by rw [hw]; exact sub_not (by decide) _ _
  have w1 : sub true (rest ++ [(false, o.seg)]) = sub true rest := by rw [sub_app, sub_not (by decide)]; simp [sub]
  have w0 : sub false (rest ++ [(false, o.seg)]) = sub false rest ++ [o.seg] := by rw [sub_app, sub_same]; simp [sub]
  have hr0 := h.d0.rng
  have hf2 : P.f0.st ≠ 2 := fun e => by have := h.d0.b2 e; cases this
  have han := h.an
  have hst1 : P.f0.st = 1 := by
    rcases Int.lt_or_le P.f0.st 3 with g | g
    · omega
    · have := h.d0.s3 g (by omega); omega
  have hno : sub false P.way = [] := by
    cases hx : sub false P.way with
    | nil => rfl
    | cons y l =>
      obtain ⟨T, hT'⟩ := h.some_of (h.w0 y (mem_sub.1 (by rw [hx]; simp)))
      rw [hT] at hT'; cases hT'
  obtain ⟨k0, R0, r1, r2, r3, r4, r5⟩ := hd.q0
  obtain ⟨k1, R1, v1, v2, v3, v4, v5⟩ := hd.q1
  have hcut := cut_head (e1.symm.trans v1) v2
  have hHs := h.hH
  rcases hcut with ⟨c1, c2, c3⟩ | ⟨c1, R', c2, c3⟩
  · have hpc := hX k1 s c1
    rw [← hd.H] at hpc
    have hz := (piece_syn hHs hpc).1 hs.1
    have hR0 : R0 = [] := by
      rw [hno] at r1
      exact (List.append_eq_nil_iff.1 r1.symm).2
    have hmem : o.seg ∈ sub false (rest ++ [(false, o.seg)]) := by rw [w0]; simp
    refine ⟨hd.H, .inr ⟨hJ0, hY, hY0⟩, ⟨g1, g2, g3, (by show G0.n ≤ 1; omega)⟩, ?_, ?_, ?_, ?_, ?_, ?_, ?_, ?_, ?_, ?_, hd.my⟩
    · exact ⟨k1 + 1, R1, (by show sub true (rest ++ [(false, o.seg)]) = _; rw [w1]; exact c2), (by omega), v3, (by show G0.a + (k1 + 1) ≤ 1; omega), .inr (.inr ⟨o.seg, hmem, ho.2.1, ho.2.2, .inr ⟨hst1, ho.1⟩⟩)⟩
    · refine ⟨k0, [o.seg], ?_, r2, fun y hy => ?_, r4, ?_⟩
      · show sub false (rest ++ [(false, o.seg)]) = _
        rw [w0, ← e0, r1, hR0]
        simp
      · simp at hy; subst hy; exact .inr ho.1
      · exact .inl ⟨(by rw [hY] at r2; simp at r2; exact r2), (by show G.m = G0.m; omega)⟩
    · intro y hy hs'
      have hy : y ∈ sub true (rest ++ [(false, o.seg)]) := hy
      rw [w1] at hy
      exact hd.syn1 y (by rw [e1]; simp [hy]) hs'
    · exact hd.tm0
    · exact .inr (.inr (.inr (.inr ⟨(by omega), .inr ⟨o.seg, hmem, ho.1⟩⟩)))
    · intro hx; rw [hx] at c3; simp at c3
    · intro hy0 y hy hk
      exfalso
      have hy : y ∈ sub true (rest ++ [(false, o.seg)]) := hy
      rw [w1] at hy
      have hym : (true, y) ∈ P.way := mem_sub.1 (by rw [e1]; simp [hy])
      obtain ⟨j, j1, j2, _⟩ := (h.w1 y hym).ack hk
      omega
    · intro hx; rw [hx] at c3; simp at c3
    · intro _ hlt
      have hlt : G0.c < G.c := hlt
      omega
    · intro hx; rw [hx] at c3; simp at c3
  · exfalso
    have := (v3 s (by rw [c2]; simp)).1
    rw [hs.1] at this
    cases this
end
end Go.Proofs.Ytjldgialhgfhmaa
namespace Go.Proofs.Ytjldgialhgfhmaa
set_option linter.unusedVariables false
set_option linter.unusedSimpArgs false
set_option linter.unusedVariables false
set_option linter.unusedSimpArgs false
def futP (P : Pr) : Prop := (P.f0.has = true → P.tick < P.f0.at_) ∧ ∀ T, P.f1 = some T → T.has = true → P.tick < T.at_
/-- What stays, whatever comes. -/
structure Mo (P2 : Pr) (G2 : Gh) (X Y : List Sm) (iss : Int) (P : Pr) (G : Gh) : Prop where
  tick : P.tick = P2.tick
  di : alive P → DI P2 G2 X Y iss P G
  fut : futP P2 → futP P
  ge : G2.a ≤ G.a ∧ G2.m ≤ G.m ∧ G2.c ≤ G.c ∧ G2.n ≤ G.n
  H : G.H = G2.H
  J : G.J = G2.J ∨ (P2.f1 = none ∧ G2.J = [] ∧ G.J = [withSeq synP 9000])
  s0 : 10 ≤ P2.f0.st → 10 ≤ P.f0.st
  s1 : ∀ T, P2.f1 = some T → ∃ T', P.f1 = some T' ∧ (10 ≤ T.st → 10 ≤ T'.st)
  v0 : 10 ≤ P.f0.st → 10 ≤ P2.f0.st ∨ finH G.H
  v1 : ∀ T', P.f1 = some T' → 10 ≤ T'.st → (∃ T, P2.f1 = some T ∧ 10 ≤ T.st) ∨ finH G.J
  u0 : P.f0.st = 11 → P2.f0.st = 11
  u1 : ∀ T', P.f1 = some T' → T'.st = 11 → ∃ T, P2.f1 = some T ∧ T.st = 11
  p0 : (∃ T, P2.f1 = some T ∧ 10 ≤ T.st) → (∀ x ∈ P2.way, x.1 = true) → P.f0 = P2.f0 ∧ ∀ x ∈ P.way, x.1 = true
  p1 : 10 ≤ P2.f0.st → (∀ x ∈ P2.way, x.1 = false) → P.f1 = P2.f1 ∧ ∀ x ∈ P.way, x.1 = false
section
variable {P2 P P' : Pr} {G2 G G' : Gh} {X Y : List Sm} {iss : Int} {K L : Nat}
theorem Mo.next (hX : ∀ (t : Nat) (s : Sm), X[t]? = some s → isPiece s G2.H (G2.a + t)) (hY : ∀ (t : Nat) (s : Sm), Y[t]? = some s → isPiece s G2.J (G2.c + t)) (hYn : P2.f1 = none → Y = [] ∧ G2.J = [])
    {b : Bool} {s : Sm} {rest : List (Bool × Sm)} (h : Iv P iss G K L) (hn : noOut P) (hw : P.way = (b, s) :: rest) (h' : Iv P' iss G' K L) (hd : Dlv P iss G s b rest P' G') (hm : Mo P2 G2 X Y iss P G) : Mo P2 G2 X Y iss P' G' := by
  obtain ⟨g1, g2, g3, g4⟩ := hm.ge
  cases hd with
  | to0 S' f a' m' new hb hp hh x =>
    subst hb
    obtain ⟨T, hT⟩ := h.some_of hp
    have hr := hh.sd.rng
    have hov : 10 ≤ P.f0.st → S'.flushed = P.f0 ∧ new = [] := fun g => by
      obtain ⟨e1, e2⟩ := hh.over g
      rw [e1]
      exact ⟨flushed_id hn.1, e2⟩
    refine ⟨hm.tick, fun ha => ?_, fun hf => ⟨fun hk => ?_, (hm.fut hf).2⟩, ⟨(by have := hh.aa; show G2.a ≤ a'; omega), (by have := hh.mm; show G2.m ≤ m'; omega), g3, g4⟩, hm.H, hm.J, fun g => ?_, hm.s1, fun g => ?_, hm.v1, fun g => hm.u0 (hh.ov g), hm.u1, fun g1 g2 => ?_, fun g1 g2 => ?_⟩
    · have ha0 : P.f0.st < 10 := Int.not_le.1 (fun g => by
        have := hov g
        have := ha.1
        have e : S'.flushed.st = P.f0.st := by rw [(hov g).1]
        have : S'.flushed.st < 10 := ha.1
        omega)
      have hal : alive P := ⟨ha0, ha.2⟩
      exact DI.to0 hY h (hm.di hal) hw hp hh hal ha.1
    · exact hh.fut (hm.fut hf).1 hk
    · have := hm.s0 g
      show 10 ≤ S'.flushed.st
      rw [(hov this).1]
      exact this
    · have g : 10 ≤ S'.st := g
      rcases Int.lt_or_le P.f0.st 10 with hl | hl
      · right
        rcases Int.lt_or_le S'.st 11 with q | q
        · exact (hh.sd.sd (by omega)).1
        · have := hh.ov (by omega); omega
      · exact hm.v0 hl
    · obtain ⟨e1, e2⟩ := hm.p0 g1 g2
      have := e2 (false, s) (by rw [hw]; simp)
      cases this
    · have hl := hm.s0 g1
      obtain ⟨e1, e2⟩ := hov hl
      obtain ⟨q1, q2⟩ := hm.p1 g1 g2
      refine ⟨q1, fun y hy => ?_⟩
      have hy : y ∈ rest ++ new.map (fun o => (true, o.seg)) := hy
      rw [e2] at hy
      simp at hy
      exact q2 y (by rw [hw]; simp [hy])
  | to1 T T' f c' n' new hb hT hp hh x =>
    subst hb
    have hr := hh.sd.rng
    have hov : 10 ≤ T.st → T'.flushed = T ∧ new = [] := fun g => by
      obtain ⟨e1, e2⟩ := hh.over g
      rw [e1]
      exact ⟨flushed_id (hn.2 T hT), e2⟩
    refine ⟨hm.tick, fun ha => ?_, fun hf => ⟨(hm.fut hf).1, fun T2 e hk => ?_⟩, ⟨g1, g2, (by have := hh.aa; show G2.c ≤ c'; omega), (by have := hh.mm; show G2.n ≤ n'; omega)⟩, hm.H, hm.J, hm.s0, fun T2 e => ?_, hm.v0, fun T2 e g => ?_, hm.u0, fun T2 e g => (by injection e with e; subst e; exact hm.u1 T hT (hh.ov g)), fun g1 g2 => ?_, fun g1 g2 => ?_⟩
    · have ha1 : T'.flushed.st < 10 := ha.2 _ rfl
      have ha1 : T'.st < 10 := ha1
      have haT : T.st < 10 := Int.not_le.1 (fun g => by
        have e : T'.flushed.st = T.st := by rw [(hov g).1]
        have e : T'.st = T.st := e
        omega)
      have hal : alive P := ⟨ha.1, fun T2 e => (by rw [hT] at e; injection e with e; subst e; exact haT)⟩
      exact DI.to1 hX h (hm.di hal) hw hT hp hh hal ha1
    · injection e with e
      subst e
      exact hh.fut ((hm.fut hf).2 T hT) hk
    · obtain ⟨T3, e3, e4⟩ := hm.s1 T2 e
      rw [hT] at e3
      injection e3 with e3
      subst e3
      refine ⟨_, rfl, fun g => ?_⟩
      rw [(hov (e4 g)).1]
      exact e4 g
    · injection e with e
      subst e
      have g : 10 ≤ T'.st := g
      rcases Int.lt_or_le T.st 10 with hl | hl
      · right
        rcases Int.lt_or_le T'.st 11 with q | q
        · exact (hh.sd.sd (by omega)).1
        · have := hh.ov (by omega); omega
      · exact hm.v1 T hT hl
    · obtain ⟨e1, e2⟩ := hm.p0 g1 g2
      obtain ⟨T2, f1, f2⟩ := g1
      obtain ⟨T3, e3, e4⟩ := hm.s1 T2 f1
      rw [hT] at e3
      injection e3 with e3
      subst e3
      obtain ⟨q1, q2⟩ := hov (e4 f2)
      refine ⟨e1, fun y hy => ?_⟩
      have hy : y ∈ rest ++ new.map (fun o => (false, o.seg)) := hy
      rw [q2] at hy
      simp at hy
      exact e2 y (by rw [hw]; simp [hy])
    · obtain ⟨e1, e2⟩ := hm.p1 g1 g2
      have := e2 (true, s) (by rw [hw]; simp)
      cases this
  | new o hb hT hp hs ho =>
    subst hb
    have hn2 : P2.f1 = none := by
      cases hx : P2.f1 with
      | none => rfl
      | some T =>
        obtain ⟨T', e, _⟩ := hm.s1 T hx
        rw [hT] at e; cases e
    obtain ⟨hJn, hnn, _, _⟩ := h.no hT
    obtain ⟨q1, q2, q3, q4, q5, q6, q7, q8, q9, q10⟩ := answered_is s P.tick
    refine ⟨hm.tick, fun ha => ?_, fun hf => ⟨(hm.fut hf).1, fun T2 e hk => ?_⟩, ⟨g1, g2, g3, (by show G2.n ≤ 1; omega)⟩, hm.H, .inr ⟨hn2, (hYn hn2).2, rfl⟩, hm.s0, fun T2 e => ?_, hm.v0, fun T2 e g => ?_, hm.u0, fun T2 e g => (by injection e with e; subst e; have g : (answered s P.tick).st = 11 := g; rw [q3] at g; cases g), fun g1 g2 => ?_, fun g1 g2 => ?_⟩
    · have hal : alive P := ⟨ha.1, fun T2 e => (by rw [hT] at e; cases e)⟩
      exact DI.new hX h (hm.di hal) hw hT hn2 (hYn hn2).1 (hYn hn2).2 hp hs ho hal
    · injection e with e
      subst e
      show P.tick < (answered s P.tick).at_
      rw [q7]
      omega
    · rw [hn2] at e; cases e
    · injection e with e
      subst e
      have g : 10 ≤ (answered s P.tick).st := g
      rw [q3] at g
      omega
    · obtain ⟨T2, f1, _⟩ := g1
      rw [hn2] at f1; cases f1
    · obtain ⟨e1, e2⟩ := hm.p1 g1 g2
      have := e2 (true, s) (by rw [hw]; simp)
      cases this
theorem Mo.drain (hX : ∀ (t : Nat) (s : Sm), X[t]? = some s → isPiece s G2.H (G2.a + t)) (hY : ∀ (t : Nat) (s : Sm), Y[t]? = some s → isPiece s G2.J (G2.c + t)) (hYn : P2.f1 = none → Y = [] ∧ G2.J = []) (n : Nat) :
    ∀ {P : Pr} {G : Gh}, Iv P iss G K L → noOut P → P.way.length ≤ 60 → wtL iss G P.way ≤ n → Mo P2 G2 X Y iss P G → ∃ G', (drain n P).way = [] ∧ noOut (drain n P) ∧ Iv (drain n P) iss G' K L ∧ Mo P2 G2 X Y iss (drain n P) G' := by
  induction n with
  | zero =>
    intro P G h hn hl hw hm
    have : P.way = [] := by
      cases hx : P.way with
      | nil => rfl
      | cons x l => rw [hx, wtL_cons] at hw; have := wt_bd iss G x; omega
    exact ⟨G, this, hn, h, hm⟩
  | succ n ih =>
    intro P G h hn hl hw hm
    unfold Go.Proofs.Ytjldgialhgfhmaa.drain
    cases hx : P.way with
    | nil => rw [if_pos rfl]; exact ⟨G, hx, hn, h, hm⟩
    | cons x rest =>
      rw [if_neg (by simp)]
      obtain ⟨b, s⟩ := x
      obtain ⟨P', G', e, h', hn', hd⟩ := deliver h hn hl hx
      rw [e]
      have := hd.weight h hx
      have hlen := hd.len
      rw [hx] at hl
      simp at hl
      exact ih h' hn' (by omega) (by omega) (hm.next hX hY hYn h hn hx h' hd)
end
end Go.Proofs.Ytjldgialhgfhmaa
namespace Go.Proofs.Ytjldgialhgfhmaa
set_option linter.unusedVariables false
set_option linter.unusedSimpArgs false
set_option linter.unusedVariables false
set_option linter.unusedSimpArgs false
/-! A tick, and all that comes behind it. -/
def tickN (P : Pr) : Pr := { P with tick := P.tick + 1, f0 := P.f0.expire (P.tick + 1), f1 := P.f1.map (fun S => S.expire (P.tick + 1)) }
theorem step70 {P : Pr} (h : noOut P) : P.step 7 0 = (tickN P).flush := by
  unfold Pr.step
  rw [flush_id h]
  unfold Pr.act
  rw [if_neg (by omega), if_neg (by omega), if_neg (by omega), if_neg (by omega), if_neg (by omega), if_pos rfl]
  rfl
theorem fill_two {l0 l1 : List Ot} : fill (fill [] true l0) false l1 = (l0.take 60).map (fun o => (true, o.seg)) ++ (l1.take (60 - (l0.take 60).length)).map (fun o => (false, o.seg)) := by
  unfold fill
  simp [List.map_take]
def left (G : Gh) : Nat := (G.H.length - G.a) + (G.J.length - G.c)
def ov1 (P : Pr) : Prop := ∃ T, P.f1 = some T ∧ 10 ≤ T.st
/-- How long it takes at most, till a flow waits for nothing. -/
def Bd (S : Fl) (a n N : Nat) (ov : Prop) (tick v : Int) : Prop :=
  S.st ≤ 8 → S.ps ≠ [] → (ov → S.at_ - tick + 16 * (4 - S.tries) ≤ v) ∧ (¬ ov → S.at_ - tick + 80 ≤ v ∧ (60 < N → S.at_ - tick + 96 ≤ v) ∧ (a ≠ n → S.at_ - tick + 96 ≤ v) ∧ (60 < N → a ≠ n → S.at_ - tick + 112 ≤ v))
structure BdP (P : Pr) (G : Gh) (v : Int) : Prop where
  b0 : Bd P.f0 G.a G.n (left G) (ov1 P) P.tick v
  b1 : ∀ T, P.f1 = some T → Bd T G.c G.m (left G) (10 ≤ P.f0.st) P.tick v
theorem bd_first {S : Fl} {a n N : Nat} {ov : Prop} {tick : Int} (ht : Tm S tick) : Bd S a n N ov tick 128 := by
  intro h1 h2
  have hh := (ht.lo h1).2 h2
  have := ht.at_ hh
  have := ht.tr
  exact ⟨fun _ => (by omega), fun _ => ⟨(by omega), fun _ => (by omega), fun _ => (by omega), fun _ _ => (by omega)⟩⟩
/-- One of the flows has expired. -/
inductive Exd (S S1 : Fl) (H : List Pc) (a : Nat) (isj : Int) (J : List Pc) (m : Nat) (t : Int) (new : List Ot) : Prop
  | no (h1 : S1 = S) (h2 : new = []) (h3 : S.has = false ∨ t < S.at_) : Exd S S1 H a isj J m t new
  | off (h1 : S1.has = false) (h2 : new = []) (h3 : 10 ≤ S1.st) (h4 : S.has = true) : Exd S S1 H a isj J m t new
  | again (h0 : S.has = true) (h1 : S.at_ ≤ t) (h2 : S.tries ≤ 3) (h3 : S.st ≤ 8) (h4 : S1.st = S.st) (h5 : S1.has = true) (h6 : S1.tries = S.tries + 1) (h7 : t + 2 ≤ S1.at_ ∧ S1.at_ ≤ t + 16) (hl : new.length = H.length - a) (hp : ∀ (k : Nat) (o : Ot), new[k]? = some o → isPiece o.seg H (a + k) ∧ (o.seg.acks = true → o.seg.ack = pos isj J m)) : Exd S S1 H a isj J m t new
theorem expired {S : Fl} {iss isj : Int} {H J : List Pc} {a m : Nat} {b : Bool} {tick : Int} (hd : Sd S iss H a m isj J b) (ht : Tm S tick) (hH : Hist iss H) (hn : S.out = []) :
    Sd (S.expire (tick + 1)) iss H a m isj J b ∧ Tm (S.expire (tick + 1)) (tick + 1) ∧ ∃ new, (S.expire (tick + 1)).out = new ∧ Exd S (S.expire (tick + 1)) H a isj J m (tick + 1) new := by
  obtain ⟨k1, k2, new, k3, k4, k5⟩ := expire_sd hd ht hH (tick + 1) (by omega)
  refine ⟨k1, k2, new, (by rw [k3, hn]; rfl), ?_⟩
  rcases k5 with ⟨h1, h2, h3⟩ | ⟨h1, h2, ⟨h3, h4, h5⟩ | ⟨h3, h4, h5, h6, h7, h8, h9, f, h10, h11⟩⟩
  · exact .no h1 h2 h3
  · exact .off h3 h4 h5 h1
  · refine .again h1 h2 h3 h4 h5 h6 h7 ⟨h8, h9⟩ ?_ ?_
    · rw [h10, hd.ps]; simp
    · intro k o ho
      rw [h10, hd.ps, List.getElem?_map] at ho
      obtain ⟨p, hp1, hp2⟩ := Option.map_eq_some_iff.1 ho
      rw [List.getElem?_drop] at hp1
      subst hp2
      exact h11 (a + k) p hp1 (by omega)
theorem take_piece {H : List Pc} {a : Nat} {isj : Int} {J : List Pc} {m : Nat} {new : List Ot} (n : Nat) (hp : ∀ (k : Nat) (o : Ot), new[k]? = some o → isPiece o.seg H (a + k) ∧ (o.seg.acks = true → o.seg.ack = pos isj J m)) :
    ∀ (t : Nat) (s : Sm), ((new.take n).map Ot.seg)[t]? = some s → isPiece s H (a + t) ∧ (s.acks = true → s.ack = pos isj J m) := by
  intro t s h
  rw [List.getElem?_map] at h
  obtain ⟨o, h1, rfl⟩ := Option.map_eq_some_iff.1 h
  by_cases ht : t < n
  · rw [List.getElem?_take_of_lt ht] at h1
    exact hp t o h1
  · rw [List.getElem?_eq_none (by simp; omega)] at h1
    cases h1
theorem Exd.pieces {S S1 : Fl} {H : List Pc} {a : Nat} {isj : Int} {J : List Pc} {m : Nat} {t : Int} {new : List Ot} (h : Exd S S1 H a isj J m t new) : ∀ (k : Nat) (o : Ot), new[k]? = some o → isPiece o.seg H (a + k) ∧ (o.seg.acks = true → o.seg.ack = pos isj J m) := by
  cases h with
  | no h1 h2 h3 => intro k o ho; rw [h2] at ho; simp at ho
  | off h1 h2 h3 h4 => intro k o ho; rw [h2] at ho; simp at ho
  | again h0 h1 h2 h3 h4 h5 h6 h7 hl hp => exact hp
/-- What a tick is: the flows behind it, what is on its way. -/
structure Ts (P P2 : Pr) (G : Gh) (iss : Int) (K L : Nat) (new0 new1 : List Ot) : Prop where
  eq : P.step 7 0 = P2
  iv : Iv P2 iss G K L
  no : noOut P2
  tick : P2.tick = P.tick + 1
  len : P2.way.length ≤ 60
  fut : futP P → futP P2
  way : P2.way = (new0.take 60).map (fun o => (true, o.seg)) ++ (new1.take (60 - (new0.take 60).length)).map (fun o => (false, o.seg))
  x0 : Exd P.f0 P2.f0 G.H G.a 9000 G.J G.m (P.tick + 1) new0
  xn : P.f1 = none → P2.f1 = none ∧ new1 = []
  x1 : ∀ T, P.f1 = some T → ∃ T2, P2.f1 = some T2 ∧ Exd T T2 G.J G.c iss G.H G.n (P.tick + 1) new1
theorem Exd.flushed {S S1 : Fl} {H : List Pc} {a : Nat} {isj : Int} {J : List Pc} {m : Nat} {t : Int} {new : List Ot} (hn : S.out = []) (h : Exd S S1 H a isj J m t new) : Exd S S1.flushed H a isj J m t new := by
  cases h with
  | no h1 h2 h3 => exact .no (by rw [h1, flushed_id hn]) h2 h3
  | off h1 h2 h3 h4 => exact .off h1 h2 h3 h4
  | again h0 h1 h2 h3 h4 h5 h6 h7 hl hp => exact .again h0 h1 h2 h3 h4 h5 h6 h7 hl hp
theorem Exd.fut {S S1 : Fl} {H : List Pc} {a : Nat} {isj : Int} {J : List Pc} {m : Nat} {t : Int} {new : List Ot} (h : Exd S S1 H a isj J m t new) : S1.has = true → t < S1.at_ := by
  intro hh
  cases h with
  | no h1 h2 h3 =>
    rw [h1] at hh ⊢
    rcases h3 with h3 | h3
    · rw [h3] at hh; cases hh
    · exact h3
  | off h1 h2 h3 h4 => rw [h1] at hh; cases hh
  | again h0 h1 h2 h3 h4 h5 h6 h7 hl hp => omega
section
variable {P : Pr} {G : Gh} {iss : Int} {K L : Nat}
theorem tick_start (h : Iv P iss G K L) (hn : noOut P) (hw : P.way = []) : ∃ P2 new0 new1, Ts P P2 G iss K L new0 new1 := by
  obtain ⟨k1, k2, new0, k3, k4⟩ := expired h.d0 h.t0 h.hH hn.1
  have hway : ∀ new1, outOf (tickN P).f1 = new1 → (tickN P).flush.way = (new0.take 60).map (fun o => (true, o.seg)) ++ (new1.take (60 - (new0.take 60).length)).map (fun o => (false, o.seg)) := fun new1 e => by
    show fill (fill P.way true (P.f0.expire (P.tick + 1)).out) false (outOf (tickN P).f1) = _
    rw [hw, k3, e, fill_two]
  have hlen : (tickN P).flush.way.length ≤ 60 := by
    show (fill (fill P.way true _) false _).length ≤ 60
    exact fill_len (fill_len (by rw [hw]; simp))
  cases hT : P.f1 with
  | none =>
    have e1 : (tickN P).f1 = none := by show P.f1.map _ = none; rw [hT]; rfl
    refine ⟨(tickN P).flush, new0, [], step70 hn, h.ticks.flush, flush_no _, rfl, hlen, fun hf => ⟨k4.fut, fun T e => ?_⟩, hway [] (by rw [e1]; rfl), k4.flushed hn.1, fun _ => ⟨(by show (tickN P).f1.map _ = none; rw [e1]; rfl), rfl⟩, fun T e => (by rw [hT] at e; cases e)⟩
    have e : (tickN P).f1.map Fl.flushed = some T := e
    rw [e1] at e
    cases e
  | some T =>
    have e1 : (tickN P).f1 = some (T.expire (P.tick + 1)) := by show P.f1.map _ = _; rw [hT]; rfl
    obtain ⟨g1, g2, new1, g3, g4⟩ := expired (h.d1 T hT) (h.t1 T hT) (h.hJ T hT) (hn.2 T hT)
    have e2 : (tickN P).flush.f1 = some (T.expire (P.tick + 1)).flushed := by show (tickN P).f1.map _ = _; rw [e1]; rfl
    refine ⟨(tickN P).flush, new0, new1, step70 hn, h.ticks.flush, flush_no _, rfl, hlen, fun hf => ⟨k4.fut, fun T2 e => ?_⟩, hway new1 (by rw [e1]; exact g3), k4.flushed hn.1, fun e => (by rw [hT] at e; cases e), fun T2 e => ?_⟩
    · rw [e2] at e
      injection e with e
      subst e
      exact g4.fut
    · rw [hT] at e
      injection e with e
      subst e
      exact ⟨_, e2, g4.flushed (hn.2 T hT)⟩
/-- All that comes behind a tick. -/
theorem tick_all (h : Iv P iss G K L) (hn : noOut P) (hw : P.way = []) (hf : futP P) :
    ∃ P2 new0 new1 G', Ts P P2 G iss K L new0 new1 ∧ (drain 200 (P.step 7 0)).way = [] ∧ noOut (drain 200 (P.step 7 0)) ∧ Iv (drain 200 (P.step 7 0)) iss G' K L ∧ futP (drain 200 (P.step 7 0)) ∧
      Mo P2 G ((new0.take 60).map Ot.seg) ((new1.take (60 - (new0.take 60).length)).map Ot.seg) iss (drain 200 (P.step 7 0)) G' := by
  obtain ⟨P2, new0, new1, ts⟩ := tick_start h hn hw
  have e1 : sub true P2.way = (new0.take 60).map Ot.seg := by rw [ts.way, sub_app, sub_map, sub_map_not (by decide)]; simp
  have e0 : sub false P2.way = (new1.take (60 - (new0.take 60).length)).map Ot.seg := by rw [ts.way, sub_app, sub_map, sub_map_not (by decide)]; simp
  have hX := take_piece 60 ts.x0.pieces
  have hY : ∀ (t : Nat) (s : Sm), ((new1.take (60 - (new0.take 60).length)).map Ot.seg)[t]? = some s → isPiece s G.J (G.c + t) ∧ (s.acks = true → s.ack = pos iss G.H G.n) := by
    cases hT : P.f1 with
    | none => rw [(ts.xn hT).2]; intro t s h; simp at h
    | some T =>
      obtain ⟨T2, _, x1⟩ := ts.x1 T hT
      exact take_piece _ x1.pieces
  have hYn : P2.f1 = none → (new1.take (60 - (new0.take 60).length)).map Ot.seg = [] ∧ G.J = [] := fun e => by
    cases hT : P.f1 with
    | none => rw [(ts.xn hT).2]; exact ⟨(by simp), (h.no hT).1⟩
    | some T =>
      obtain ⟨T2, e2, _⟩ := ts.x1 T hT
      rw [e] at e2; cases e2
  have hsyn : ∀ s, s ∈ sub true P2.way → s.syn = true → G.m = 0 := fun s hs hsy => by
    rw [e1] at hs
    obtain ⟨t, ht⟩ := List.mem_iff_getElem?.1 hs
    have hpc := (hX t s ht).1
    have := (piece_syn h.hH hpc).1 hsy
    have ha : G.a = 0 := by omega
    cases hx : ts.x0 with
    | no h1 h2 h3 => rw [h2] at ht; simp at ht
    | off h1 h2 h3 h4 => rw [h2] at ht; simp at ht
    | again h0 h1 h2 h3 h4 h5 h6 h7 hl hp =>
      have hr := h.d0.rng
      have h2 : P.f0.st ≠ 2 := fun e => by have := h.d0.b2 e; cases this
      rcases Int.lt_or_le P.f0.st 3 with g | g
      · exact (h.d0.s1 (by omega)).2.2
      · have := (h.d0.s3 g (by omega)).1; omega
  have hm0 : Mo P2 G ((new0.take 60).map Ot.seg) ((new1.take (60 - (new0.take 60).length)).map Ot.seg) iss P2 G := by
    refine ⟨rfl, fun _ => ⟨rfl, .inl rfl, ⟨Nat.le_refl _, Nat.le_refl _, Nat.le_refl _, Nat.le_refl _⟩, ⟨0, [], (by rw [e1]; simp), Nat.zero_le _, fun s hs => (by simp at hs), h.an, .inl ⟨rfl, rfl⟩⟩, ⟨0, [], (by rw [e0]; simp), Nat.zero_le _, fun s hs => (by simp at hs), h.cm, .inl ⟨rfl, rfl⟩⟩, hsyn, .inl ⟨rfl, rfl, rfl, rfl⟩, ?_, fun hx s hs hk => ?_, fun hy s hs hk => ?_, fun _ h => absurd h (Nat.lt_irrefl _), fun _ h => absurd h (Nat.lt_irrefl _), fun _ => rfl, fun _ => .inl rfl⟩, id, ⟨Nat.le_refl _, Nat.le_refl _, Nat.le_refl _, Nat.le_refl _⟩, rfl, .inl rfl, id, fun T e => ⟨T, e, id⟩, fun h => .inl h, fun T e h => .inl ⟨T, e, h⟩, id, fun T e h => ⟨T, e, h⟩, fun _ h => ⟨rfl, h⟩, fun _ h => ⟨rfl, h⟩⟩
    · cases hx : P2.f1 with
      | none => exact .inl ⟨rfl, rfl⟩
      | some T => exact .inr (.inl ⟨T, T, rfl, rfl, rfl, rfl, rfl, rfl⟩)
    · rw [e0] at hs
      obtain ⟨t, ht⟩ := List.mem_iff_getElem?.1 hs
      exact (hY t s ht).2 hk
    · rw [e1] at hs
      obtain ⟨t, ht⟩ := List.mem_iff_getElem?.1 hs
      exact (hX t s ht).2 hk
  have hwt := wtL_le iss G P2.way
  have hlen := ts.len
  obtain ⟨G', q1, q2, q3, q4⟩ := Mo.drain (fun t s ht => (hX t s ht).1) (fun t s ht => (hY t s ht).1) hYn 200 ts.iv ts.no ts.len (by omega) hm0
  rw [ts.eq]
  exact ⟨P2, new0, new1, G', ts, q1, q2, q3, q4.fut (ts.fut hf), q4⟩
end
end Go.Proofs.Ytjldgialhgfhmaa
namespace Go.Proofs.Ytjldgialhgfhmaa
set_option linter.unusedVariables false
set_option linter.unusedSimpArgs false
set_option linter.unusedVariables false
set_option linter.unusedSimpArgs false
section
variable {P E P2 : Pr} {G G' : Gh} {iss : Int} {K L : Nat} {X Y : List Sm}
theorem DI.end0 (hd : DI P2 G X Y iss E G') (hw : E.way = []) : G.a + X.length ≤ G'.n ∧ ((X = [] ∧ G'.n = G.n) ∨ G'.a = G'.n) := by
  obtain ⟨k, R, v1, v2, v3, v4, v5⟩ := hd.q1
  rw [hw] at v1
  have hk : k = X.length := by
    have := (List.append_eq_nil_iff.1 v1.symm).1
    have := congrArg List.length this
    simp at this
    omega
  subst hk
  refine ⟨v4, ?_⟩
  rcases v5 with ⟨e1, e2⟩ | e | ⟨s, hs, _⟩
  · exact .inl ⟨List.eq_nil_of_length_eq_zero e1, e2⟩
  · exact .inr e
  · rw [hw] at hs; simp [sub] at hs
theorem DI.end1 (hd : DI P2 G X Y iss E G') (hw : E.way = []) : G.c + Y.length ≤ G'.m ∧ ((Y = [] ∧ G'.m = G.m) ∨ G'.c = G'.m) := by
  obtain ⟨k, R, v1, v2, v3, v4, v5⟩ := hd.q0
  rw [hw] at v1
  have hk : k = Y.length := by
    have := (List.append_eq_nil_iff.1 v1.symm).1
    have := congrArg List.length this
    simp at this
    omega
  subst hk
  refine ⟨v4, ?_⟩
  rcases v5 with ⟨e1, e2⟩ | e | ⟨s, hs, _⟩
  · exact .inl ⟨List.eq_nil_of_length_eq_zero e1, e2⟩
  · exact .inr e
  · rw [hw] at hs; simp [sub] at hs
theorem drop_ne {H : List Pc} {a : Nat} (h : H.drop a ≠ []) : a < H.length := by
  rcases Nat.lt_or_ge a H.length with g | g
  · exact g
  · rw [List.drop_of_length_le g] at h; exact absurd rfl h
/-- What lives at the end has lived all along. -/
theorem lived {S S2 : Fl} {H : List Pc} {a : Nat} {isx isj : Int} {J : List Pc} {m : Nat} {b : Bool} {t : Int} {new : List Ot} (hx : Exd S S2 H a isj J m t new) (d : Sd S isx H a m isj J b) (d2 : Sd S2 isx H a m isj J b) (h1 : S2.st < 10) (h2 : a < H.length) : S.st ≤ 8 ∧ S2.st ≤ 8 := by
  have h9 : S2.st ≠ 9 := fun e => by have := (d2.sd (by omega)).2; omega
  cases hx with
  | no e1 e2 e3 => rw [e1] at h1 h9; exact ⟨(by omega), (by rw [e1]; omega)⟩
  | off e1 e2 e3 e4 => omega
  | again h0 h1' h2' h3 h4 h5 h6 h7 hl hp => exact ⟨h3, (by omega)⟩
/-- One tick less. -/
theorem bd_wait {S S2 SE : Fl} {H : List Pc} {a : Nat} {isj : Int} {J : List Pc} {m : Nat} {tick : Int} {new : List Ot} (hx : Exd S S2 H a isj J m (tick + 1) new) (he : sameTm SE S2) (hh : S.has = true) (hat : tick < S.at_) (htr : 0 ≤ S.tries) (hS2 : S2.st ≤ 8) {v : Int} (hv : S.at_ - tick + 16 * (4 - S.tries) ≤ v) :
    SE.at_ - (tick + 1) + 16 * (4 - SE.tries) ≤ v - 1 := by
  obtain ⟨e1, e2, e3⟩ := he
  rw [e2, e3]
  cases hx with
  | no q1 q2 q3 => rw [q1]; omega
  | off q1 q2 q3 q4 => omega
  | again h0 h1 h2 h3 h4 h5 h6 h7 hl hp => rw [h6]; omega
theorem left_le (h : Iv E iss G' K L) : left G' + G'.a + G'.c ≤ L := by
  have := h.cnt
  have h1 := h.d0.al
  unfold left
  rcases (show (∃ T, E.f1 = some T) ∨ E.f1 = none by cases E.f1 <;> simp) with ⟨T, hT⟩ | hT
  · have := (h.d1 T hT).al
    omega
  · obtain ⟨hJ, _, hc, _⟩ := h.no hT
    rw [hJ, hc] at *
    simp at *
    omega
/-- Behind a tick a flow waits one tick less. -/
theorem bd_tick0 (h : Iv P iss G K L) (hn : noOut P) (hw : P.way = []) (hf : futP P) (hL : L ≤ 120) {new0 new1 : List Ot} (ts : Ts P P2 G iss K L new0 new1) (he : E.way = []) (hE : Iv E iss G' K L)
    (mo : Mo P2 G ((new0.take 60).map Ot.seg) ((new1.take (60 - (new0.take 60).length)).map Ot.seg) iss E G') {v : Int} (hb : BdP P G v) : Bd E.f0 G'.a G'.n (left G') (ov1 E) E.tick (v - 1) := by
  intro hst hps
  have etick : E.tick = P.tick + 1 := mo.tick.trans ts.tick
  rw [etick]
  obtain ⟨g1, g2, g3, g4⟩ := mo.ge
  rw [hE.d0.ps] at hps
  have hlt := drop_ne hps
  have ehH := mo.H
  rw [ehH] at hlt
  have hs2 : P2.f0.st < 10 := Int.not_le.1 (fun g => by have := mo.s0 g; omega)
  obtain ⟨l1, l2⟩ := lived ts.x0 h.d0 ts.iv.d0 hs2 (by omega)
  have hps0 : P.f0.ps ≠ [] := by
    rw [h.d0.ps]
    intro e
    have := congrArg List.length e
    simp at this
    omega
  have hh := (h.t0.lo l1).2 hps0
  have hat := hf.1 hh
  have htr := h.t0.tr
  obtain ⟨c1, c2⟩ := hb.b0 l1 hps0
  have hEh : E.f0.has = true := (hE.t0.lo hst).2 (by rw [hE.d0.ps]; exact hps)
  have hEat := hE.t0.at_ hEh
  have hEtr := hE.t0.tr
  rw [etick] at hEat
  by_cases hov : ov1 P
  · -- the other one is over: nothing is heard
    obtain ⟨T, hT, hT10⟩ := hov
    obtain ⟨T2, hT2, x1⟩ := ts.x1 T hT
    have hTh := (h.t1 T hT).hi hT10
    have hx1 : T2 = T ∧ new1 = [] := by
      cases x1 with
      | no q1 q2 q3 => exact ⟨q1, q2⟩
      | off q1 q2 q3 q4 => rw [hTh] at q4; cases q4
      | again h0 h1 h2 h3 h4 h5 h6 h7 hl hp => rw [hTh] at h0; cases h0
    have hway : ∀ x ∈ P2.way, x.1 = true := by
      intro x hx
      rw [ts.way, hx1.2, List.take_nil, List.map_nil, List.append_nil] at hx
      obtain ⟨o, _, rfl⟩ := List.mem_map.1 hx
      rfl
    obtain ⟨q1, _⟩ := mo.p0 ⟨T2, hT2, (by rw [hx1.1]; exact hT10)⟩ hway
    have hE1 : ov1 E := by
      obtain ⟨T', e1, e2⟩ := mo.s1 T2 hT2
      exact ⟨T', e1, e2 (by rw [hx1.1]; exact hT10)⟩
    have := bd_wait ts.x0 (SE := E.f0) ⟨(by rw [q1]), (by rw [q1]), (by rw [q1])⟩ hh hat htr.1 l2 (c1 ⟨T, hT, hT10⟩)
    exact ⟨fun _ => this, fun hno => absurd hE1 hno⟩
  · obtain ⟨c3, c4, c5, c6⟩ := c2 hov
    refine ⟨fun _ => (by omega), fun hno => ?_⟩
    have hal : alive E := ⟨(by omega), fun T e => Int.not_le.1 (fun g => hno ⟨T, e, g⟩)⟩
    have hd := mo.di hal
    obtain ⟨u1, u2⟩ := hd.end0 he
    have hll := left_le hE
    have hxl : ((new0.take 60).map Ot.seg).length = min 60 new0.length := by simp
    rw [hxl] at u1
    have hJ : left G' ≤ left G ∨ left G' ≤ 60 := by
      rcases mo.J with e | ⟨e1, e2, e3⟩
      · left
        unfold left
        rw [e, ehH]
        omega
      · right
        have hPn : P.f1 = none := by
          cases hx : P.f1 with
          | none => rfl
          | some T => obtain ⟨T2, e, _⟩ := ts.x1 T hx; rw [e1] at e; cases e
        have hm := (h.no hPn).2.2.2
        have hr := h.d0.rng
        have : P.f0.st = 1 := by
          have h2 : P.f0.st ≠ 2 := fun e => by have := h.d0.b2 e; cases this
          rcases Int.lt_or_le P.f0.st 3 with g | g
          · omega
          · have := (h.d0.s3 g (by omega)).2; omega
        have := (h.d0.s1 this).1
        unfold left
        rw [ehH, e3]
        simp
        omega
    have hleft : G.H.length - G.a ≤ left G := by unfold left; omega
    cases ts.x0 with
    | no q1 q2 q3 =>
      have hq : P.tick + 1 < P.f0.at_ := by
        rcases q3 with q3 | q3
        · rw [hh] at q3; cases q3
        · exact q3
      have hXn : (new0.take 60).map Ot.seg = [] := by rw [q2]; rfl
      rcases hd.tm0 with ⟨z1, z2, z3, z4⟩ | z | z
      · have e3 : E.f0.at_ = P.f0.at_ := by rw [z3, q1]
        rw [e3]
        have hbit : G'.a ≠ G'.n → G.a ≠ G.n := fun hne => by
          rcases u2 with ⟨_, w⟩ | w
          · omega
          · exact absurd w hne
        refine ⟨(by omega), fun w => ?_, fun w => ?_, fun w w' => ?_⟩
        · have := c4 (by omega); omega
        · have := c5 (hbit w); omega
        · have := c6 (by omega) (hbit w'); omega
      · have e1 := hd.aj0 hXn z
        have e2 := hd.nx hXn
        have hne : G.a ≠ G.n := by have := h.an; omega
        have := c5 hne
        refine ⟨(by omega), fun w => ?_, fun w => absurd e1 w, fun _ w => absurd e1 w⟩
        have := c6 (by omega) hne
        omega
      · rw [ehH] at z; omega
    | off q1 q2 q3 q4 => omega
    | again h0 h1 h2 h3 h4 h5 h6 h7 hl hp =>
      have hX1 : ¬ (new0.take 60).map Ot.seg = [] := fun e => by
        have := congrArg List.length e
        rw [hxl] at this
        have this : min 60 new0.length = 0 := this
        omega
      have hea : G'.a = G'.n := u2.elim (fun w => absurd w.1 hX1) id
      have hbig : 60 < G.H.length - G.a := by omega
      have := c4 (by omega)
      exact ⟨(by omega), fun w => (by omega), fun w => absurd hea w, fun _ w => absurd hea w⟩
theorem bd_tick1 (h : Iv P iss G K L) (hn : noOut P) (hw : P.way = []) (hf : futP P) (hL : L ≤ 120) {new0 new1 : List Ot} (ts : Ts P P2 G iss K L new0 new1) (he : E.way = []) (hE : Iv E iss G' K L)
    (mo : Mo P2 G ((new0.take 60).map Ot.seg) ((new1.take (60 - (new0.take 60).length)).map Ot.seg) iss E G') {v : Int} (hb : BdP P G v) (TE : Fl) (hTE : E.f1 = some TE) : Bd TE G'.c G'.m (left G') (10 ≤ E.f0.st) E.tick (v - 1) := by
  intro hst hps
  have etick : E.tick = P.tick + 1 := mo.tick.trans ts.tick
  rw [etick]
  obtain ⟨g1, g2, g3, g4⟩ := mo.ge
  have hdE := hE.d1 TE hTE
  have htE := hE.t1 TE hTE
  have hps' := hps
  rw [hdE.ps] at hps
  have hlt := drop_ne hps
  have hEh : TE.has = true := (htE.lo hst).2 hps'
  have hEat := htE.at_ hEh
  have hEtr := htE.tr
  rw [etick] at hEat
  have hll := left_le hE
  rcases (show (∃ T, P.f1 = some T) ∨ P.f1 = none by cases P.f1 <;> simp) with ⟨T, hT⟩ | hT
  · obtain ⟨T2, hT2, x1⟩ := ts.x1 T hT
    have eJ : G'.J = G.J := by
      rcases mo.J with e | ⟨e1, _⟩
      · exact e
      · rw [hT2] at e1; cases e1
    rw [eJ] at hlt
    have hs2 : T2.st < 10 := Int.not_le.1 (fun g => by
      obtain ⟨T', e1, e2⟩ := mo.s1 T2 hT2
      rw [hTE] at e1
      injection e1 with e1
      subst e1
      have := e2 g
      omega)
    have hdT := h.d1 T hT
    have htT := h.t1 T hT
    obtain ⟨l1, l2⟩ := lived x1 hdT (ts.iv.d1 T2 hT2) hs2 (by omega)
    have hps0 : T.ps ≠ [] := by
      rw [hdT.ps]
      intro e
      have := congrArg List.length e
      simp at this
      omega
    have hh := (htT.lo l1).2 hps0
    have hat := hf.2 T hT hh
    have htr := htT.tr
    obtain ⟨c1, c2⟩ := hb.b1 T hT l1 hps0
    by_cases hov : 10 ≤ P.f0.st
    · have h0h := h.t0.hi hov
      have hx0 : P2.f0 = P.f0 ∧ new0 = [] := by
        cases ts.x0 with
        | no q1 q2 q3 => exact ⟨q1, q2⟩
        | off q1 q2 q3 q4 => rw [h0h] at q4; cases q4
        | again h0 h1 h2 h3 h4 h5 h6 h7 hl hp => rw [h0h] at h0; cases h0
      have hov2 : 10 ≤ P2.f0.st := by rw [hx0.1]; exact hov
      have hway : ∀ x ∈ P2.way, x.1 = false := by
        intro x hx
        rw [ts.way, hx0.2, List.take_nil, List.map_nil, List.nil_append] at hx
        obtain ⟨o, _, rfl⟩ := List.mem_map.1 hx
        rfl
      obtain ⟨q1, _⟩ := mo.p1 hov2 hway
      rw [hTE, hT2] at q1
      injection q1 with q1
      have := bd_wait x1 (SE := TE) ⟨(by rw [q1]), (by rw [q1]), (by rw [q1])⟩ hh hat htr.1 l2 (c1 hov)
      exact ⟨fun _ => this, fun hno => absurd (mo.s0 hov2) hno⟩
    · obtain ⟨c3, c4, c5, c6⟩ := c2 hov
      refine ⟨fun _ => (by omega), fun hno => ?_⟩
      have hal : alive E := ⟨(by omega), fun T' e => (by rw [hTE] at e; injection e with e; subst e; omega)⟩
      have hd := mo.di hal
      obtain ⟨u1, u2⟩ := hd.end1 he
      obtain ⟨w1, w2⟩ := hd.end0 he
      have hxl : ((new0.take 60).map Ot.seg).length = min 60 new0.length := by simp
      have hyl : ((new1.take (60 - (new0.take 60).length)).map Ot.seg).length = min (60 - min 60 new0.length) new1.length := by simp
      rw [hyl] at u1
      rw [hxl] at w1
      have hJ : left G' ≤ left G := by
        unfold left
        rw [eJ, mo.H]
        omega
      have hn0 : new0.length ≤ G.H.length - G.a := by
        cases ts.x0 with
        | no q1 q2 q3 => rw [q2]; simp
        | off q1 q2 q3 q4 => rw [q2]; simp
        | again h0 h1 h2 h3 h4 h5 h6 h7 hl hp => omega
      have hleft : left G = (G.H.length - G.a) + (G.J.length - G.c) := rfl
      have han := h.an
      have hcm := h.cm
      have ha60 : min 60 new0.length ≤ G'.a := by
        rcases w2 with ⟨w, _⟩ | w
        · have := congrArg List.length w
          rw [hxl] at this
          have this : min 60 new0.length = 0 := this
          omega
        · omega
      have hr := hdT.rng
      have hT1 : T.st ≠ 1 := fun e => by have := hdT.b1 e; cases this
      cases x1 with
      | no q1 q2 q3 =>
        have hq : P.tick + 1 < T.at_ := by
          rcases q3 with q3 | q3
          · rw [hh] at q3; cases q3
          · exact q3
        have hYn : (new1.take (60 - (new0.take 60).length)).map Ot.seg = [] := by rw [q2]; simp
        -- opened just now
        have hop : G.m = 0 → 1 ≤ G'.c → False := fun e1 e2 => by
          have : T.st = 2 := by
            rcases Int.lt_or_le T.st 3 with g | g
            · omega
            · have := (hdT.s3 g (by omega)).1; omega
          have := (hdT.s2 this).1
          omega
        rcases hd.tm1 with ⟨z, _⟩ | ⟨Ta, Tb, z1, z2, z3, z4, z5, z6⟩ | z | z | ⟨z1, z2⟩
        · rw [hTE] at z; cases z
        · rw [hTE] at z1
          injection z1 with z1
          rw [hT2] at z2
          injection z2 with z2
          subst z1 z2
          have e3 : TE.at_ = T.at_ := by rw [z5, q1]
          rw [e3]
          have hbit : G'.c ≠ G'.m → G.c ≠ G.m := fun hne => by
            rcases u2 with ⟨_, w⟩ | w
            · omega
            · exact absurd w hne
          refine ⟨(by omega), fun w => ?_, fun w => ?_, fun w w' => ?_⟩
          · have := c4 (by omega); omega
          · have := c5 (hbit w); omega
          · have := c6 (by omega) (hbit w'); omega
        · have e1 := hd.aj1 hYn z
          rcases hd.my hYn with e2 | ⟨e2, e3⟩
          · have hne : G.c ≠ G.m := by omega
            have := c5 hne
            refine ⟨(by omega), fun w => ?_, fun w => absurd e1 w, fun _ w => absurd e1 w⟩
            have := c6 (by omega) hne
            omega
          · exact (hop e2 (by omega)).elim
        · rw [eJ] at z; omega
        · exfalso
          have hm1 : 1 ≤ G'.m := by
            rcases z2 with z2 | ⟨s, hs, _⟩
            · exact z2
            · rw [he] at hs; simp [sub] at hs
          rcases u2 with ⟨_, w⟩ | w
          · omega
          · exact hop z1 (by omega)
      | off q1 q2 q3 q4 => omega
      | again h0 h1 h2 h3 h4 h5 h6 h7 hl hp =>
        rcases u2 with ⟨w, w'⟩ | w
        · have hy0 : min (60 - min 60 new0.length) new1.length = 0 := by
            rw [← hyl, w]; rfl
          have h60 : 60 ≤ new0.length := by omega
          have hbit : G'.c ≠ G'.m → G.c ≠ G.m := fun hne => by
            rcases Nat.eq_or_lt_of_le g3 with e | e
            · omega
            · exact absurd (hd.aj1 w e) hne
          have := c4 (by omega)
          refine ⟨(by omega), fun w => (by omega), fun w => ?_, fun w _ => (by omega)⟩
          have := c6 (by omega) (hbit w)
          omega
        · have := c4 (by omega)
          exact ⟨(by omega), fun w => (by omega), fun w' => absurd w w', fun _ w' => absurd w w'⟩
  · -- it was made just now
    exfalso
    obtain ⟨e1, e2⟩ := ts.xn hT
    obtain ⟨hJ0, hn0, hc0, hm0⟩ := h.no hT
    have hr := h.d0.rng
    have h2 : P.f0.st ≠ 2 := fun e => by have := h.d0.b2 e; cases this
    have hYn : (new1.take (60 - (new0.take 60).length)).map Ot.seg = [] := by rw [e2]; simp
    have hno : ¬ 10 ≤ E.f0.st := fun g => by
      have hover : 10 ≤ P2.f0.st → False := fun g2 => by
        have hnew : new0 = [] := by
          cases ts.x0 with
          | no q1 q2 q3 => exact q2
          | off q1 q2 q3 q4 => exact q2
          | again h0 h1 h2 h3 h4 h5 h6 h7 hl hp => omega
        have hway : ∀ x ∈ P2.way, x.1 = false := by
          intro x hx
          rw [ts.way, hnew, e2] at hx
          simp at hx
        have := (mo.p1 g2 hway).1
        rw [hTE, e1] at this
        cases this
      rcases mo.v0 g with g | g
      · exact hover g
      · rw [mo.H] at g
        rcases Int.lt_or_le P.f0.st 10 with q | q
        · have : P.f0.st = 1 := by
            rcases Int.lt_or_le P.f0.st 3 with g | g
            · omega
            · have := (h.d0.s3 g (by omega)).2; omega
          exact nofin_H1 h.hH (h.d0.s1 this).1 g
        · apply hover
          have h0h := h.t0.hi q
          cases ts.x0 with
          | no q1 q2 q3 => rw [q1]; exact q
          | off q1 q2 q3 q4 => exact q3
          | again h0 h1 h2 h3 h4 h5 h6 h7 hl hp => rw [h0h] at h0; cases h0
    have hal : alive E := ⟨(by omega), fun T' e => (by rw [hTE] at e; injection e with e; subst e; omega)⟩
    have hd := mo.di hal
    have hJ1 : G'.J.length ≤ 1 := by
      rcases mo.J with e | ⟨_, _, e⟩
      · rw [e, hJ0]; simp
      · rw [e]; simp
    obtain ⟨u1, u2⟩ := hd.end1 he
    rcases hd.tm1 with ⟨z, _⟩ | ⟨Ta, Tb, z1, z2, z3⟩ | z | z | ⟨z1, z2⟩
    · rw [hTE] at z; cases z
    · rw [e1] at z2; cases z2
    · omega
    · omega
    · have hm1 : 1 ≤ G'.m := by
        rcases z2 with z2 | ⟨s, hs, _⟩
        · exact z2
        · rw [he] at hs; simp [sub] at hs
      rcases u2 with ⟨_, w⟩ | w
      · omega
      · omega
end
end Go.Proofs.Ytjldgialhgfhmaa
namespace Go.Proofs.Ytjldgialhgfhmaa
set_option linter.unusedVariables false
set_option linter.unusedSimpArgs false
set_option linter.unusedVariables false
set_option linter.unusedSimpArgs false
/-- A tick of the law FlowEnds. -/
def endStep (lost : Bool) (P : Pr) : Pr := if lost = true then { P.step 7 0 with way := [] } else drain 200 (P.step 7 0)
def endRun (lost : Bool) : Nat → Pr → Pr
  | 0, P => P
  | n + 1, P => endRun lost n (endStep lost P)
theorem endRun_add (lost : Bool) (m n : Nat) : ∀ P : Pr, endRun lost (m + n) P = endRun lost n (endRun lost m P) := by
  induction m with
  | zero => intro P; rw [Nat.zero_add]; rfl
  | succ m ih => intro P; rw [show m + 1 + n = (m + n) + 1 by omega]; show endRun lost (m + n) _ = endRun lost n (endRun lost m _); exact ih _
section
variable {P : Pr} {G : Gh} {iss : Int} {K L : Nat}
theorem flush_len (P : Pr) (h : P.way.length ≤ 60) : P.flush.way.length ≤ 60 := fill_len (fill_len h)
theorem comes_way (P : Pr) (p : Bool × Sm) : (P.comes p).way = P.way := by
  unfold Pr.comes
  split
  · split <;> rfl
  · rfl
  · rfl
theorem act_len (P : Pr) (k i : Int) (h : P.way.length ≤ 60) : (P.act k i).way.length ≤ 60 := by
  unfold Pr.act
  split
  · unfold Pr.pass
    split
    · exact h
    · have h1 : ∀ j, (P.way.eraseIdx j).length ≤ 60 := fun j => Nat.le_trans (List.length_eraseIdx_le _ _) h
      dsimp only
      split
      · split
        · exact h
        · exact h1 _
      · rw [comes_way]
        split
        · exact h
        · exact h1 _
  · split
    · unfold Pr.sends; dsimp only; split <;> exact h
    · split
      · unfold Pr.sends
        split
        · split <;> exact h
        · exact h
        · split <;> exact h
      · split
        · exact h
        · split
          · exact h
          · split <;> exact h
theorem step_len (P : Pr) (k i : Int) (h : P.way.length ≤ 60) : (P.step k i).way.length ≤ 60 := flush_len _ (act_len _ _ _ (flush_len _ h))
theorem stepped_len (iss : Int) (l : List (Int × Int)) : (stepped iss l).way.length ≤ 60 := by
  have key : ∀ (l : List (Int × Int)) (P : Pr), P.way.length ≤ 60 → (l.foldl (fun P a => P.step a.1 a.2) P).way.length ≤ 60 := by
    intro l
    induction l with
    | nil => intro P h; exact h
    | cons x l ih => intro P h; exact ih _ (step_len P _ _ h)
  exact key l _ (by simp [pair0])
/-- The first tick, whatever is on its way. -/
theorem first_tick (h : Iv P iss G K L) (hl : P.way.length ≤ 60) : Iv (P.step 7 0) iss G K L ∧ noOut (P.step 7 0) ∧ (P.step 7 0).way.length ≤ 60 ∧ futP (P.step 7 0) ∧ (P.step 7 0).tick = P.tick + 1 := by
  have hfl := h.flush
  have e : P.step 7 0 = (tickN P.flush).flush := by
    have := step70 (flush_no P)
    unfold Pr.step at this ⊢
    rw [flush_id (flush_no P)] at this
    exact this
  rw [e]
  refine ⟨hfl.ticks.flush, flush_no _, flush_len _ (flush_len P hl), ?_, rfl⟩
  obtain ⟨k1, k2, new0, k3, k4⟩ := expired hfl.d0 hfl.t0 hfl.hH (flush_no P).1
  refine ⟨k4.fut, fun T2 e2 => ?_⟩
  have e2 : ((P.flush.f1.map (fun S => S.expire (P.flush.tick + 1))).map Fl.flushed) = some T2 := e2
  cases hT : P.flush.f1 with
  | none => rw [hT] at e2; cases e2
  | some T =>
    rw [hT] at e2
    injection e2 with e2
    subst e2
    obtain ⟨g1, g2, new1, g3, g4⟩ := expired (hfl.d1 T hT) (hfl.t1 T hT) (hfl.hJ T hT) ((flush_no P).2 T hT)
    exact g4.fut
theorem drain_fut (n : Nat) : ∀ {P : Pr} {G : Gh}, Iv P iss G K L → noOut P → P.way.length ≤ 60 → wtL iss G P.way ≤ n → futP P → (drain n P).way = [] ∧ noOut (drain n P) ∧ futP (drain n P) ∧ ∃ G', Iv (drain n P) iss G' K L := by
  induction n with
  | zero =>
    intro P G h hn hl hw hf
    have : P.way = [] := by
      cases hx : P.way with
      | nil => rfl
      | cons x l => rw [hx, wtL_cons] at hw; have := wt_bd iss G x; omega
    exact ⟨this, hn, hf, G, h⟩
  | succ n ih =>
    intro P G h hn hl hw hf
    unfold Go.Proofs.Ytjldgialhgfhmaa.drain
    cases hx : P.way with
    | nil => rw [if_pos rfl]; exact ⟨hx, hn, hf, G, h⟩
    | cons x rest =>
      rw [if_neg (by simp)]
      obtain ⟨b, s⟩ := x
      obtain ⟨P', G', e, h', hn', hd⟩ := deliver h hn hl hx
      rw [e]
      have := hd.weight h hx
      have hlen := hd.len
      rw [hx] at hl
      simp at hl
      refine ih h' hn' (by omega) (by omega) ?_
      cases hd with
      | to0 S' f a' m' new hb hp hh x => exact ⟨hh.fut hf.1, hf.2⟩
      | to1 T T' f c' n' new hb hT hp hh x =>
        refine ⟨hf.1, fun T2 e hk => ?_⟩
        injection e with e
        subst e
        exact hh.fut (hf.2 T hT) hk
      | new o hb hT hp hs ho =>
        refine ⟨hf.1, fun T2 e hk => ?_⟩
        injection e with e
        subst e
        obtain ⟨q1, q2, q3, q4, q5, q6, q7, q8, q9, q10⟩ := answered_is s P.tick
        show P.tick < (answered s P.tick).at_
        rw [q7]
        omega
/-- Nothing is waited for but the end of the waiting. -/
def still (P : Pr) (D : Int) : Prop := (P.f0.st ≤ 8 → P.f0.ps = []) ∧ (P.f0.has = true → P.f0.at_ ≤ D) ∧ ∀ T, P.f1 = some T → (T.st ≤ 8 → T.ps = []) ∧ (T.has = true → T.at_ ≤ D)
theorem still_one {S S2 : Fl} {isx isj : Int} {H J : List Pc} {a m : Nat} {b : Bool} {t0 t : Int} {new : List Ot} (hx : Exd S S2 H a isj J m t new) (d : Sd S isx H a m isj J b) (ht : Tm S t0) (h1 : S.st ≤ 8 → S.ps = []) {D : Int} (h2 : S.has = true → S.at_ ≤ D) : new = [] ∧ (S2.st ≤ 8 → S2.ps = []) ∧ (S2.has = true → S2.at_ ≤ D) := by
  cases hx with
  | no e1 e2 e3 => rw [e1]; exact ⟨e2, h1, h2⟩
  | off e1 e2 e3 e4 => exact ⟨e2, fun h => (by omega), fun h => (by rw [e1] at h; cases h)⟩
  | again h0 h1' h2' h3 h4 h5 h6 h7 hl hp => exact absurd (h1 h3) ((ht.lo h3).1 h0)
theorem still_tick (h : Iv P iss G K L) (hn : noOut P) (hw : P.way = []) (hf : futP P) {D : Int} (hs : still P D) : ∃ E, endStep false P = E ∧ Iv E iss G K L ∧ noOut E ∧ E.way = [] ∧ futP E ∧ still E D ∧ E.tick = P.tick + 1 := by
  obtain ⟨P2, new0, new1, ts⟩ := tick_start h hn hw
  obtain ⟨a1, a2, a3⟩ := still_one ts.x0 h.d0 h.t0 hs.1 hs.2.1
  have h1 : new1 = [] ∧ ∀ T, P2.f1 = some T → (T.st ≤ 8 → T.ps = []) ∧ (T.has = true → T.at_ ≤ D) := by
    rcases (show (∃ T, P.f1 = some T) ∨ P.f1 = none by cases P.f1 <;> simp) with ⟨T, hT⟩ | hT
    · obtain ⟨T2, e2, x1⟩ := ts.x1 T hT
      obtain ⟨b1, b2, b3⟩ := still_one x1 (h.d1 T hT) (h.t1 T hT) (hs.2.2 T hT).1 (hs.2.2 T hT).2
      refine ⟨b1, fun T' e => ?_⟩
      rw [e2] at e
      injection e with e
      subst e
      exact ⟨b2, b3⟩
    · obtain ⟨e1, e2⟩ := ts.xn hT
      exact ⟨e2, fun T e => (by rw [e1] at e; cases e)⟩
  have hway : P2.way = [] := by rw [ts.way, a1, h1.1]; rfl
  have e : endStep false P = P2 := by
    unfold endStep
    rw [if_neg (by decide), ts.eq]
    show drain (199 + 1) P2 = P2
    unfold drain
    rw [if_pos hway]
  exact ⟨P2, e, ts.iv, ts.no, hway, ts.fut hf, ⟨a2, a3, h1.2⟩, ts.tick⟩
theorem still_run (n : Nat) : ∀ {P : Pr}, Iv P iss G K L → noOut P → P.way = [] → futP P → ∀ {D : Int}, still P D → ∃ E, endRun false n P = E ∧ Iv E iss G K L ∧ noOut E ∧ E.way = [] ∧ futP E ∧ still E D ∧ E.tick = P.tick + n := by
  induction n with
  | zero => intro P h hn hw hf D hs; exact ⟨P, rfl, h, hn, hw, hf, hs, (by simp)⟩
  | succ n ih =>
    intro P h hn hw hf D hs
    obtain ⟨E, e, h1, h2, h3, h4, h5, h6⟩ := still_tick h hn hw hf hs
    obtain ⟨E2, g1, g2, g3, g4, g5, g6, g7⟩ := ih h1 h2 h3 h4 h5
    refine ⟨E2, (by show endRun false n (endStep false P) = E2; rw [e, g1]), g2, g3, g4, g5, g6, (by rw [g7, h6]; simp; omega)⟩
/-- So many ticks. -/
theorem bd_run (hL : L ≤ 120) (n : Nat) : ∀ {P : Pr} {G : Gh}, Iv P iss G K L → noOut P → P.way = [] → futP P → ∀ {v : Int}, BdP P G v → ∃ E G', endRun false n P = E ∧ Iv E iss G' K L ∧ noOut E ∧ E.way = [] ∧ futP E ∧ BdP E G' (v - n) := by
  induction n with
  | zero => intro P G h hn hw hf v hb; exact ⟨P, G, rfl, h, hn, hw, hf, (by simpa using hb)⟩
  | succ n ih =>
    intro P G h hn hw hf v hb
    obtain ⟨P2, new0, new1, G', ts, e1, e2, e3, e4, mo⟩ := tick_all h hn hw hf
    have b1 : BdP (drain 200 (P.step 7 0)) G' (v - 1) := ⟨bd_tick0 h hn hw hf hL ts e1 e3 mo hb, fun T hT => bd_tick1 h hn hw hf hL ts e1 e3 mo hb T hT⟩
    obtain ⟨E, G2, g1, g2, g3, g4, g5, g6⟩ := ih e3 e2 e1 e4 b1
    refine ⟨E, G2, ?_, g2, g3, g4, g5, ?_⟩
    · show endRun false n (endStep false P) = E
      have e : endStep false P = drain 200 (P.step 7 0) := by unfold endStep; rw [if_neg (by decide)]
      rw [e]
      exact g1
    · have : v - 1 - (n : Int) = v - ((n + 1 : Nat) : Int) := by omega
      rw [← this]
      exact g6
theorem bd_zero {S : Fl} {a n N : Nat} {ov : Prop} {tick : Int} (ht : Tm S tick) (hf : S.has = true → tick < S.at_) (hb : Bd S a n N ov tick 0) : S.st ≤ 8 → S.ps = [] := by
  intro h1
  by_cases h2 : S.ps = []
  · exact h2
  · exfalso
    have hh := (ht.lo h1).2 h2
    have := hf hh
    have := ht.tr.2 (by omega)
    obtain ⟨c1, c2⟩ := hb h1 h2
    by_cases ho : ov
    · have := c1 ho; omega
    · have := (c2 ho).1; omega
/-- What is true of two flows at the end. -/
def EndsOk (lost : Bool) (F : Pr) : Prop := (F.f0.has = false ∧ (F.f0.st ≤ 8 → F.f0.ps = [])) ∧ (∀ T, F.f1 = some T → T.has = false ∧ (T.st ≤ 8 → T.ps = [])) ∧ (lost = false → F.f0.st ≠ 11 → ∀ T, F.f1 = some T → T.st ≠ 11 → F.c1 = F.s0 ∧ F.c0 = F.s1)
theorem done_all {S : Fl} {isx isj : Int} {H J : List Pc} {a m : Nat} {b : Bool} {t : Int} (d : Sd S isx H a m isj J b) (ht : Tm S t) (hh : S.has = false) (hp : S.st ≤ 8 → S.ps = []) (h11 : S.st ≠ 11) : a = H.length := by
  have hr := d.rng
  rcases Int.lt_or_le 8 S.st with g | g
  · rcases Int.lt_or_le S.st 10 with q | q
    · have := (ht.w (by omega)).1
      rw [hh] at this; cases this
    · exact (d.sd (by omega)).2
  · have := hp g
    rw [d.ps] at this
    have h2 := congrArg List.length this
    have := d.al
    simp at h2
    omega
theorem ends_kept (hL : L ≤ 120) (h : Iv P iss G K L) (hl : P.way.length ≤ 60) : EndsOk false (endRun false 200 P) := by
  obtain ⟨k1, k2, k3, k4, k5⟩ := first_tick h hl
  have hwt := wtL_le iss G (P.step 7 0).way
  obtain ⟨a1, a2, a3, G1, a4⟩ := drain_fut 200 k1 k2 k3 (by omega) k4
  have e1 : endStep false P = drain 200 (P.step 7 0) := by unfold endStep; rw [if_neg (by decide)]
  have b0 : BdP (drain 200 (P.step 7 0)) G1 128 := ⟨bd_first a4.t0, fun T hT => bd_first (a4.t1 T hT)⟩
  obtain ⟨E, G2, g1, g2, g3, g4, g5, g6⟩ := bd_run hL 128 a4 a2 a1 a3 b0
  have hst : still E (E.tick + 16) := by
    refine ⟨bd_zero g2.t0 g5.1 g6.b0, g2.t0.at_, fun T hT => ⟨bd_zero (g2.t1 T hT) (g5.2 T hT) (g6.b1 T hT), (g2.t1 T hT).at_⟩⟩
  obtain ⟨F, f1, f2, f3, f4, f5, f6, f7⟩ := still_run 71 g2 g3 g4 g5 hst
  have e : endRun false 200 P = F := by
    show endRun false (1 + (128 + 71)) P = F
    rw [endRun_add]
    show endRun false (128 + 71) (endStep false P) = F
    rw [e1, endRun_add, g1, f1]
  rw [e]
  have hno0 : F.f0.has = false := by
    cases hh : F.f0.has
    · rfl
    · have := f5.1 hh
      have := f6.2.1 hh
      omega
  have hno1 : ∀ T, F.f1 = some T → T.has = false := fun T hT => by
    cases hh : T.has
    · rfl
    · have := f5.2 T hT hh
      have := (f6.2.2 T hT).2 hh
      omega
  refine ⟨⟨hno0, f6.1⟩, fun T hT => ⟨hno1 T hT, (f6.2.2 T hT).1⟩, fun _ h11 T hT h11' => ?_⟩
  have q1 := done_all f2.d0 f2.t0 hno0 f6.1 h11
  have q2 := done_all (f2.d1 T hT) (f2.t1 T hT) (hno1 T hT) (f6.2.2 T hT).1 h11'
  have han := f2.an
  have hcm := f2.cm
  have hnl := f2.nl
  have hml := f2.d0.ml
  have en : G2.n = G2.H.length := by omega
  have em : G2.m = G2.J.length := by omega
  rw [f2.x1, f2.y0, f2.x0, f2.y1, en, em, List.take_length, List.take_length]
  exact ⟨rfl, rfl⟩
/-- How long it takes, if nothing comes. -/
def Lo (S : Fl) (tick v : Int) : Prop := S.has = true → S.at_ - tick + 16 * (4 - S.tries) ≤ v
theorem lo_wait {S S2 : Fl} {H : List Pc} {a : Nat} {isj : Int} {J : List Pc} {m : Nat} {tick : Int} {new : List Ot} (hx : Exd S S2 H a isj J m (tick + 1) new) (hf : S.has = true → tick < S.at_) {v : Int} (hv : Lo S tick v) : Lo S2 (tick + 1) (v - 1) := by
  intro hh
  cases hx with
  | no q1 q2 q3 => rw [q1] at hh ⊢; have := hv hh; omega
  | off q1 q2 q3 q4 => rw [q1] at hh; cases hh
  | again h0 h1 h2 h3 h4 h5 h6 h7 hl hp => rw [h6]; have := hf h0; have := hv h0; omega
theorem lo_run (n : Nat) : ∀ {P : Pr}, Iv P iss G K L → noOut P → P.way = [] → futP P → ∀ {v : Int}, Lo P.f0 P.tick v → (∀ T, P.f1 = some T → Lo T P.tick v) → ∃ E, endRun true n P = E ∧ Iv E iss G K L ∧ futP E ∧ Lo E.f0 E.tick (v - n) ∧ ∀ T, E.f1 = some T → Lo T E.tick (v - n) := by
  induction n with
  | zero => intro P h hn hw hf v h0 h1; exact ⟨P, rfl, h, hf, (by simpa using h0), (by simpa using h1)⟩
  | succ n ih =>
    intro P h hn hw hf v h0 h1
    obtain ⟨P2, new0, new1, ts⟩ := tick_start h hn hw
    have i2 : Iv { P2 with way := [] } iss G K L := ts.iv.less (fun x hx => by cases hx)
    have b0 : Lo P2.f0 P2.tick (v - 1) := by rw [ts.tick]; exact lo_wait ts.x0 hf.1 h0
    have b1 : ∀ T, P2.f1 = some T → Lo T P2.tick (v - 1) := fun T' e => by
      rw [ts.tick]
      rcases (show (∃ T, P.f1 = some T) ∨ P.f1 = none by cases P.f1 <;> simp) with ⟨T, hT⟩ | hT
      · obtain ⟨T2, e2, x1⟩ := ts.x1 T hT
        rw [e2] at e
        injection e with e
        subst e
        exact lo_wait x1 (hf.2 T hT) (h1 T hT)
      · rw [(ts.xn hT).1] at e; cases e
    obtain ⟨E, g1, g2, g3, g4, g5⟩ := ih (P := { P2 with way := [] }) i2 ts.no rfl (ts.fut hf) b0 b1
    have hv : v - 1 - (n : Int) = v - ((n + 1 : Nat) : Int) := by omega
    rw [hv] at g4 g5
    refine ⟨E, ?_, g2, g3, g4, g5⟩
    show endRun true n (endStep true P) = E
    rw [← g1]
    unfold endStep
    rw [if_pos rfl, ts.eq]
theorem ends_lost (h : Iv P iss G K L) (hl : P.way.length ≤ 60) : EndsOk true (endRun true 200 P) := by
  obtain ⟨k1, k2, k3, k4, k5⟩ := first_tick h hl
  have i1 : Iv { P.step 7 0 with way := [] } iss G K L := k1.less (fun x hx => by cases hx)
  have key : ∀ {S : Fl} {t : Int}, Tm S t → Lo S t 80 := fun ht hh => by
    have := ht.at_ hh
    have := ht.tr.1
    omega
  obtain ⟨E, g1, g2, g3, g4, g5⟩ := lo_run 199 (P := { P.step 7 0 with way := [] }) i1 k2 rfl k4 (key k1.t0) (fun T hT => key (k1.t1 T hT))
  have e : endRun true 200 P = E := by
    show endRun true 199 (endStep true P) = E
    rw [← g1]
    unfold endStep
    rw [if_pos rfl]
  rw [e]
  have no : ∀ {S : Fl} {t : Int}, Tm S t → (S.has = true → t < S.at_) → Lo S t (80 - (199 : Nat)) → S.has = false ∧ (S.st ≤ 8 → S.ps = []) := fun {S t} ht hf hlo => by
    have hh : S.has = false := by
      cases hh : S.has
      · rfl
      · have h1 := hf hh
        have h2 := hlo hh
        have h3 : S.st ≤ 10 → S.tries ≤ 4 := ht.tr.2
        have h4 : S.st < 10 := Int.not_le.1 (fun g => by have := ht.hi g; rw [hh] at this; cases this)
        have := h3 (by omega)
        omega
    refine ⟨hh, fun h8 => ?_⟩
    by_cases hp : S.ps = []
    · exact hp
    · have := (ht.lo h8).2 hp
      rw [hh] at this; cases this
  exact ⟨no g2.t0 g3.1 g4, fun T hT => no (g2.t1 T hT) (g3.2 T hT) (g5 T hT), fun h => (by cases h)⟩
end
/-- The law FlowEnds, in plain. -/
theorem ends_plain (iss : Int) (hi : 0 ≤ iss ∧ iss < 4294967296) (l : List (Int × Int)) (hl : l.length ≤ 100) (lost : Bool) : EndsOk lost (endRun lost 200 (stepped iss l)) := by
  obtain ⟨G, h⟩ := stepped_iv iss hi l (by omega)
  cases lost with
  | true => exact ends_lost h (stepped_len iss l)
  | false => exact ends_kept (by omega) h (stepped_len iss l)
end Go.Proofs.Ytjldgialhgfhmaa
namespace Go.Proofs.Ytjldgialhgfhmaa
set_option linter.unusedVariables false
set_option linter.unusedSimpArgs false
set_option linter.unusedVariables false
set_option linter.unusedSimpArgs false
/-- What calls ask of a flow. -/
structure FitF (S : Fl) : Prop where
  ok : S.Ok
  since : -1099511627776 ≤ S.since ∧ S.since ≤ 1099511627776
  tr : S.has = true → 0 ≤ S.tries ∧ S.tries ≤ 1000
  out : ∀ o ∈ S.out, o.rst = false ∧ o.p.xs.length ≤ 1000
structure Fit (P : Pr) : Prop where
  t : 0 ≤ P.tick ∧ P.tick ≤ 1099511627000
  f0 : FitF P.f0
  f1 : ∀ T, P.f1 = some T → FitF T
  s0 : P.s0.length ≤ 1000000
  s1 : P.s1.length ≤ 1000000
  c0 : P.c0.length ≤ 1000000
  c1 : P.c1.length ≤ 1000000
  w : P.way.length ≤ 60
theorem Fit.out1 {P : Pr} (h : Fit P) (o : Ot) (ho : o ∈ outOf P.f1) : o.rst = false ∧ o.p.xs.length ≤ 1000 := by
  cases hT : P.f1 with
  | none => rw [hT] at ho; cases ho
  | some T => rw [hT] at ho; exact (h.f1 T hT).out o ho
theorem Fit.way {P : Pr} (h : Fit P) (way : List (Bool × Sm)) (hw : way.length ≤ 60) : Fit { P with way := way } := ⟨h.t, h.f0, h.f1, h.s0, h.s1, h.c0, h.c1, hw⟩
/-- Only a flow's own pieces go out. -/
structure Ex (S S' : Fl) (k : Nat) : Prop where
  since : S'.since = S.since
  ps : ∀ p ∈ S'.ps, p ∈ S.ps
  n : S'.ps.length ≤ S.ps.length
  out : ∃ new, S'.out = S.out ++ new ∧ new.length ≤ k ∧ ∀ o ∈ new, o.rst = false ∧ (o.p.xs = [] ∨ o.p ∈ S.ps)
section
variable {S S' S1 S2 : Fl} {k l : Nat} {t : Int}
theorem Ex.of (h1 : S'.since = S.since) (h2 : S'.ps = S.ps) (h3 : S'.out = S.out) : Ex S S' 0 := ⟨h1, fun p hp => by rw [← h2]; exact hp, by rw [h2]; exact Nat.le_refl _, [], by rw [h3]; simp, Nat.le_refl _, fun o ho => by cases ho⟩
theorem Ex.trans (h : Ex S S1 k) (g : Ex S1 S2 l) : Ex S S2 (k + l) := by
  obtain ⟨n1, e1, l1, o1⟩ := h.out
  obtain ⟨n2, e2, l2, o2⟩ := g.out
  refine ⟨g.since.trans h.since, fun p hp => h.ps p (g.ps p hp), Nat.le_trans g.n h.n, n1 ++ n2, by rw [e2, e1, List.append_assoc], by rw [List.length_append]; omega, fun o ho => ?_⟩
  rcases List.mem_append.1 ho with ho | ho
  · exact o1 o ho
  · exact ⟨(o2 o ho).1, (o2 o ho).2.imp id (h.ps _)⟩
theorem Ex.more (h : Ex S S' k) (hk : k ≤ l) : Ex S S' l := ⟨h.since, h.ps, h.n, by obtain ⟨n, e, a, b⟩ := h.out; exact ⟨n, e, Nat.le_trans a hk, b⟩⟩
theorem ex_tell : Ex S S.tell 1 := ⟨rfl, fun p hp => hp, Nat.le_refl _, [S.telling false], rfl, Nat.le_refl _, fun o ho => by simp at ho; subst ho; exact ⟨rfl, .inl rfl⟩⟩
theorem ex_again (t : Int) : Ex S (S.again t) S.ps.length := ⟨rfl, fun p hp => hp, Nat.le_refl _, S.ps.map S.putting, rfl, (by simp), fun o ho => by obtain ⟨p, hp, rfl⟩ := List.mem_map.1 ho; exact ⟨rfl, .inr hp⟩⟩
theorem ex_one (t : Int) (p : Pc) : Ex S (wentOne t S p) 0 := by
  unfold wentOne
  split
  · exact Ex.of rfl rfl rfl
  · split
    · exact Ex.of rfl rfl rfl
    · split
      · exact Ex.of rfl rfl rfl
      · split <;> exact Ex.of rfl rfl rfl
theorem ex_all (t : Int) (l : List Pc) : ∀ S : Fl, Ex S (l.foldl (wentOne t) S) 0 := by
  induction l with
  | nil => intro S; exact Ex.of rfl rfl rfl
  | cons p l ih => intro S; exact (ex_one t p).trans (ih _)
theorem ex_went (l : List Pc) (t : Int) : Ex S (S.went l t) 0 := by
  unfold Fl.went
  split
  · exact Ex.of rfl rfl rfl
  · have h1 : Ex S (S.sampled t) 0 := by unfold Fl.sampled; split <;> exact Ex.of rfl rfl rfl
    have h2 : Ex (S.sampled t) ((S.sampled t).renew t) 0 := by unfold Fl.renew; split <;> exact Ex.of rfl rfl rfl
    exact (h1.trans h2).trans (ex_all t l _)
theorem ex_acks (a t : Int) : Ex S (S.acks a t) 0 := by
  have h1 : Ex S ({ S with ps := S.ps.drop (S.ackd a) } : Fl) 0 := ⟨rfl, fun p hp => List.mem_of_mem_drop hp, by simp, [], by simp, Nat.le_refl _, fun o ho => by cases ho⟩
  exact h1.trans (ex_went _ t)
theorem ex_dialed (s : Sm) (t : Int) : Ex S (S.dialed s t) 1 := by
  unfold Fl.dialed
  split
  · exact ((ex_acks s.ack t).trans (S2 := ({ S.acks s.ack t with st := 3, rcv := onN s.seq 1 } : Fl)) (l := 0) (Ex.of rfl rfl rfl)).trans ex_tell
  · exact (Ex.of rfl rfl rfl).more (Nat.zero_le _)
theorem ex_ends (t : Int) : Ex S (S.ends t) 0 := by unfold Fl.ends; split <;> exact Ex.of rfl rfl rfl
theorem ex_takes (s : Sm) (t : Int) : Ex S (S.takes s t).1 1 := by
  unfold Fl.takes
  split
  · dsimp only
    split
    · exact ex_tell
    · exact (Ex.of rfl rfl rfl).more (Nat.zero_le _)
  · dsimp only
    have h0 : Ex S ({ S with rcv := onN S.rcv s.xs.length } : Fl) 0 := Ex.of rfl rfl rfl
    split
    · exact (h0.trans (ex_ends t)).trans ex_tell
    · split
      · exact h0.trans ex_tell
      · exact h0.more (Nat.zero_le _)
theorem ex_takesIf (s : Sm) (t : Int) : Ex S (S.takesIf s t).1 1 := by
  unfold Fl.takesIf
  split
  · exact ex_takes s t
  · exact (Ex.of rfl rfl rfl).more (Nat.zero_le _)
theorem ex_hear (s : Sm) (t : Int) : Ex S (S.hear s t).1 (S.ps.length + 1) := by
  unfold Fl.hear
  split
  · exact (Ex.of rfl rfl rfl).more (Nat.zero_le _)
  · split
    · exact (ex_dialed s t).more (by omega)
    · split
      · exact (ex_again t).more (by omega)
      · split
        · exact ex_tell.more (by omega)
        · split
          · exact ((ex_acks s.ack t).trans (ex_takesIf s t)).more (by omega)
          · exact (ex_takesIf s t).more (by omega)
theorem ex_expire (t : Int) : Ex S (S.expire t) S.ps.length := by
  unfold Fl.expire
  split
  · exact (Ex.of rfl rfl rfl).more (Nat.zero_le _)
  · split
    · exact Ex.more (k := 0) (Ex.of rfl rfl rfl) (Nat.zero_le _)
    · split
      · exact Ex.more (k := 0) (Ex.of (S := S) (S' := ({ S with tries := S.tries + 1 } : Fl).dead) rfl rfl rfl) (Nat.zero_le _)
      · exact ((Ex.of rfl rfl rfl : Ex S ({ S with tries := S.tries + 1, k := min (S.k + 1) 16 } : Fl) 0).trans (ex_again t)).more (by simp)
/-- What is short, and new, in a flow. -/
structure ShF (S : Fl) (t : Int) (N : Nat) : Prop where
  since : 0 ≤ S.since ∧ S.since ≤ t
  x : ∀ p ∈ S.ps, p.xs.length ≤ 12
  n : S.out.length ≤ N
  o : ∀ o ∈ S.out, o.rst = false ∧ o.p.xs.length ≤ 12
theorem ShF.ex {N : Nat} (h : ShF S t N) (e : Ex S S' k) {t' : Int} (ht : t ≤ t') : ShF S' t' (N + k) := by
  obtain ⟨new, e1, e2, e3⟩ := e.out
  refine ⟨by have := h.since; rw [e.since]; omega, fun p hp => h.x p (e.ps p hp), by rw [e1, List.length_append]; have := h.n; omega, fun o ho => ?_⟩
  rw [e1] at ho
  rcases List.mem_append.1 ho with ho | ho
  · exact h.o o ho
  · refine ⟨(e3 o ho).1, ?_⟩
    rcases (e3 o ho).2 with g | g
    · rw [g]; simp
    · exact h.x _ g
theorem ShF.more {N M : Nat} (h : ShF S t N) (hk : N ≤ M) : ShF S t M := ⟨h.since, h.x, Nat.le_trans h.n hk, h.o⟩
theorem ShF.send {N : Nat} (h : ShF S t N) (ht : 0 ≤ t) (p : Pc) (hp : p.xs.length ≤ 12) : ShF (S.send p t) t (N + 1) := by
  have hx : ∀ q ∈ pushL S.ps p S.e, q.xs.length ≤ 12 := fun q hq => by
    unfold pushL at hq
    split at hq
    · rcases List.mem_append.1 hq with hq | hq
      · exact h.x q hq
      · simp at hq; subst hq; exact hp
    · exact h.x q hq
  have ho : ∀ T : Fl, ∀ o ∈ S.out ++ [T.putting (withSeq p S.e)], o.rst = false ∧ o.p.xs.length ≤ 12 := fun T o ho => by
    rcases List.mem_append.1 ho with ho | ho
    · exact h.o o ho
    · simp at ho; subst ho; exact ⟨rfl, hp⟩
  have hn : ∀ T : Fl, (S.out ++ [T.putting (withSeq p S.e)]).length ≤ N + 1 := fun T => by have := h.n; simp; omega
  have hs := h.since
  unfold Fl.send Fl.armed Fl.sent
  by_cases h1 : S.ps = []
  · rw [if_pos h1]
    split
    · exact ⟨⟨ht, Int.le_refl _⟩, hx, hn _, ho _⟩
    · exact ⟨⟨ht, Int.le_refl _⟩, hx, hn _, ho _⟩
  · rw [if_neg h1]
    split
    · exact ⟨hs, hx, hn _, ho _⟩
    · exact ⟨hs, hx, hn _, ho _⟩
theorem ShF.close {N : Nat} (h : ShF S t N) (ht : 0 ≤ t) : ShF (S.close t) t (N + 1) := by
  unfold Fl.close
  split
  · exact ShF.send (S := { S with st := 4 }) ⟨h.since, h.x, h.n, h.o⟩ ht finP (by simp [finP])
  · split
    · exact ShF.send (S := { S with st := 8 }) ⟨h.since, h.x, h.n, h.o⟩ ht finP (by simp [finP])
    · exact h.more (by omega)
theorem ShF.flushed {N : Nat} (h : ShF S t N) : ShF S.flushed t 0 := ⟨h.since, h.x, Nat.le_refl _, fun o ho => by cases ho⟩
theorem shF_flow0 (iss st rcv : Int) (ht : 0 ≤ t) : ShF (flow0 iss st rcv) t 0 := ⟨⟨Int.le_refl _, ht⟩, fun p hp => (by cases hp), Nat.le_refl _, fun o ho => (by cases ho)⟩
end
structure Sh (P : Pr) (N : Nat) : Prop where
  t : 0 ≤ P.tick
  f0 : ShF P.f0 P.tick N
  f1 : ∀ T, P.f1 = some T → ShF T P.tick N
section
variable {P : Pr} {N M : Nat} {iss : Int} {G : Gh} {K L : Nat}
theorem Sh.more (h : Sh P N) (hk : N ≤ M) : Sh P M := ⟨h.t, h.f0.more hk, fun T e => (h.f1 T e).more hk⟩
theorem Sh.flush (h : Sh P N) : Sh P.flush 0 := ⟨h.t, h.f0.flushed, fun T e => by
  simp [Pr.flush] at e
  obtain ⟨T0, e1, rfl⟩ := e
  exact (h.f1 T0 e1).flushed⟩
theorem bytesN_len (n : Int) : (bytesN n).length ≤ 12 := by unfold bytesN; simp; omega
theorem sh_set0 (h : Sh P N) {S : Fl} (hS : ShF S P.tick M) (hN : N ≤ M) {way : List (Bool × Sm)} {s0 s1 c0 c1 : List Int} : Sh ⟨S, P.f1, way, s0, s1, c0, c1, P.tick⟩ M := ⟨h.t, hS, fun T e => (h.f1 T e).more hN⟩
theorem sh_set1 (h : Sh P N) {S : Fl} (hS : ShF S P.tick M) (hN : N ≤ M) {way : List (Bool × Sm)} {s0 s1 c0 c1 : List Int} : Sh ⟨P.f0, some S, way, s0, s1, c0, c1, P.tick⟩ M := ⟨h.t, h.f0.more hN, fun T e => by injection e with e; subst e; exact hS⟩
theorem Sh.comes (h : Sh P N) (h0 : P.f0.ps.length ≤ 800) (h1 : ∀ T, P.f1 = some T → T.ps.length ≤ 800) (p : Bool × Sm) : Sh (P.comes p) (N + 801) := by
  obtain ⟨b, s⟩ := p
  unfold Pr.comes
  cases b with
  | false => exact sh_set0 h ((h.f0.ex (ex_hear s P.tick) (Int.le_refl _)).more (by omega)) (by omega)
  | true =>
    cases hT : P.f1 with
    | none =>
      dsimp only
      split
      · exact sh_set1 h (((shF_flow0 9000 2 (onN s.seq 1) h.t).send h.t synP (by simp [synP])).more (by omega)) (by omega)
      · exact h.more (by omega)
    | some T => exact sh_set1 h (((h.f1 T hT).ex (ex_hear s P.tick) (Int.le_refl _)).more (by have := h1 T hT; omega)) (by omega)
theorem Sh.act (h : Sh P N) (h0 : P.f0.ps.length ≤ 800) (h1 : ∀ T, P.f1 = some T → T.ps.length ≤ 800) (kind i : Int) : Sh (P.act kind i) (N + 801) := by
  have hm := h.more (M := N + 801) (by omega)
  unfold Pr.act
  split
  · unfold Pr.pass
    cases hx : P.way[(min (max i 0) (P.way.length - 1)).toNat]? with
    | none => exact hm
    | some p =>
      dsimp only
      have e : Sh (if kind = 2 then P else { P with way := P.way.eraseIdx (min (max i 0) (P.way.length - 1)).toNat }) N := by
        split
        · exact h
        · exact ⟨h.t, h.f0, h.f1⟩
      have e0 : (if kind = 2 then P else { P with way := P.way.eraseIdx (min (max i 0) (P.way.length - 1)).toNat }).f0 = P.f0 := by split <;> rfl
      have e1 : (if kind = 2 then P else { P with way := P.way.eraseIdx (min (max i 0) (P.way.length - 1)).toNat }).f1 = P.f1 := by split <;> rfl
      split
      · exact e.more (by omega)
      · exact e.comes (by rw [e0]; exact h0) (by rw [e1]; exact h1) p
  · split
    · unfold Pr.sends
      dsimp only
      split
      · exact sh_set0 h ((h.f0.send h.t (dataP (bytesN i)) (bytesN_len i)).more (by omega)) (by omega)
      · exact hm
    · split
      · unfold Pr.sends
        cases hT : P.f1 with
        | none => exact hm
        | some T =>
          dsimp only
          split
          · exact sh_set1 h (((h.f1 T hT).send h.t (dataP (bytesN i)) (bytesN_len i)).more (by omega)) (by omega)
          · exact hm
      · split
        · exact sh_set0 h ((h.f0.close h.t).more (by omega)) (by omega)
        · split
          · refine ⟨h.t, h.f0.more (by omega), fun T e => ?_⟩
            obtain ⟨T0, e1, rfl⟩ := Option.map_eq_some_iff.1 e
            exact ((h.f1 T0 e1).close h.t).more (by omega)
          · split
            · refine ⟨by have := h.t; show 0 ≤ P.tick + 1; omega, (h.f0.ex (ex_expire (P.tick + 1)) (by show P.tick ≤ P.tick + 1; omega)).more (by omega), fun T e => ?_⟩
              obtain ⟨T0, e1, rfl⟩ := Option.map_eq_some_iff.1 e
              exact ((h.f1 T0 e1).ex (ex_expire (P.tick + 1)) (by show P.tick ≤ P.tick + 1; omega)).more (by have := h1 T0 e1; omega)
            · exact hm
theorem act_tick (P : Pr) (kind i : Int) : (P.act kind i).tick ≤ P.tick + 1 := by
  have hc : ∀ (Q : Pr) (p : Bool × Sm), (Q.comes p).tick = Q.tick := fun Q p => by
    obtain ⟨b, s⟩ := p
    unfold Pr.comes
    cases b with
    | false => rfl
    | true =>
      cases hT : Q.f1 with
      | none => dsimp only; split <;> rfl
      | some T => rfl
  have hle : P.tick ≤ P.tick + 1 := by omega
  unfold Pr.act
  split
  · unfold Pr.pass
    cases hx : P.way[(min (max i 0) (P.way.length - 1)).toNat]? with
    | none => exact hle
    | some p =>
      dsimp only
      split
      · split <;> exact hle
      · rw [hc]
        split <;> exact hle
  · split
    · unfold Pr.sends
      dsimp only
      split <;> exact hle
    · split
      · unfold Pr.sends
        cases hT : P.f1 with
        | none => exact hle
        | some T => dsimp only; split <;> exact hle
      · split
        · exact hle
        · split
          · exact hle
          · split
            · exact Int.le_refl _
            · exact hle
theorem dat_len (H : List Pc) : (dat H).length ≤ total H := by
  induction H with
  | nil => simp [dat, total]
  | cons p H ih =>
    have h1 : dat (p :: H) = p.xs ++ dat H := rfl
    have h2 : total (p :: H) = long p + total H := by simp [total]
    have h3 : p.xs.length ≤ long p := by unfold long; omega
    rw [h1, h2, List.length_append]
    omega
theorem Iv.ps0 (h : Iv P iss G K L) : P.f0.ps.length ≤ L := by rw [h.d0.ps, List.length_drop]; have := h.cnt; omega
theorem Iv.ps1 (h : Iv P iss G K L) (T : Fl) (e : P.f1 = some T) : T.ps.length ≤ L := by rw [(h.d1 T e).ps, List.length_drop]; have := h.cnt; omega
theorem fitF_of {S : Fl} {iss isj : Int} {H J : List Pc} {a m : Nat} {b : Bool} {t : Int} (hd : Sd S iss H a m isj J b) (ht : Tm S t) (hs : ShF S t N) (hN : N ≤ 90000) (hn : S.ps.length ≤ 800) (hb : t ≤ 1099511627776) : FitF S := by
  refine ⟨⟨ht.r, ht.k, hn, fun p hp => by have := hs.x p hp; omega, by rw [hd.e]; exact pos_bd _ _ _, by have := hs.n; omega⟩, by have := hs.since; omega, fun hh => ?_, fun o ho => ⟨(hs.o o ho).1, by have := (hs.o o ho).2; omega⟩⟩
  have h10 : S.st < 10 := by
    rcases Int.lt_or_le S.st 10 with g | g
    · exact g
    · have := ht.hi g; rw [hh] at this; cases this
  have := ht.tr.1
  have := ht.tr.2 (by omega)
  omega
theorem Iv.fit (h : Iv P iss G K L) (hs : Sh P N) (hN : N ≤ 90000) (hL : L ≤ 800) (hK : K ≤ 1000000) (ht : P.tick ≤ 1099511627000) (hw : P.way.length ≤ 60) : Fit P := by
  have d1 := dat_len (G.H.take G.n)
  have d2 := dat_len G.H
  have d3 := dat_len (G.J.take G.m)
  have d4 := dat_len G.J
  have t1 : total (G.H.take G.n) ≤ total G.H := off_tot G.H G.n
  have t2 : total (G.J.take G.m) ≤ total G.J := off_tot G.J G.m
  have htot := h.tot
  refine ⟨⟨hs.t, ht⟩, fitF_of h.d0 h.t0 hs.f0 hN (by have := h.ps0; omega) (by omega), fun T e => fitF_of (h.d1 T e) (h.t1 T e) (hs.f1 T e) hN (by have := h.ps1 T e; omega) (by omega), ?_, ?_, ?_, ?_, hw⟩
  · rw [h.y0]; omega
  · rw [h.y1]; omega
  · rw [h.x0]; omega
  · rw [h.x1]; omega
/-- At any time, between two steps. -/
def Good (P : Pr) (iss : Int) (K L : Nat) (t : Int) : Prop := (∃ G, Iv P iss G K L) ∧ Sh P 1 ∧ P.tick ≤ t ∧ P.way.length ≤ 60
/-- What a step asks for. -/
structure Fits (P : Pr) (kind i : Int) : Prop where
  a : Fit P
  b : Fit P.flush
  c : Fit (P.flush.act kind i)
theorem good0 (hi : 0 ≤ iss ∧ iss < 4294967296) : Good (pair0 iss) iss 2 2 0 := by
  refine ⟨⟨_, pair0_iv iss hi⟩, ⟨Int.le_refl _, (shF_flow0 iss 1 0 (Int.le_refl 0)).send (Int.le_refl 0) synP (by simp [synP]), fun T e => by cases e⟩, Int.le_refl _, Nat.zero_le _⟩
theorem fits_of (h : Iv P iss G K L) (hs : Sh P 1) (hw : P.way.length ≤ 60) (kind i : Int) {K' L' : Nat} {G' : Gh} (h' : Iv (P.flush.act kind i) iss G' K' L') (hK : K ≤ 1000000) (hL : L ≤ 800) (hK' : K' ≤ 1000000) (hL' : L' ≤ 800) (ht : P.tick ≤ 1099511626999) :
    Fits P kind i ∧ Good (P.step kind i) iss K' L' (P.tick + 1) := by
  have p0 := h.flush.ps0
  have p1 := h.flush.ps1
  have h2 := (hs.flush).act (by omega) (fun T e => by have := p1 T e; omega) kind i
  have ht2 := act_tick P.flush kind i
  have et : P.flush.tick = P.tick := rfl
  refine ⟨⟨h.fit hs (by omega) hL hK (by omega) hw, h.flush.fit hs.flush (by omega) hL hK (by rw [et]; omega) (flush_len P hw), h'.fit h2 (by omega) hL' hK' (by omega) (act_len _ _ _ (flush_len P hw))⟩, ⟨G', h'.flush⟩, h2.flush.more (by omega), ?_, step_len P kind i hw⟩
  show (P.flush.act kind i).tick ≤ P.tick + 1
  omega
theorem Good.step {t : Int} (h : Good P iss K L t) (hK : K + 9 < 1000000) (hL : L + 1 ≤ 800) (ht : t ≤ 1099511626999) (kind i : Int) : Fits P kind i ∧ Good (P.step kind i) iss (K + 9) (L + 1) (t + 1) := by
  obtain ⟨⟨G, h1⟩, h2, h3, hw⟩ := h
  obtain ⟨G', h4⟩ := h1.flush.act hK kind i
  obtain ⟨h5, h6, h7, h8, h9⟩ := fits_of h1 h2 hw kind i h4 (by omega) (by omega) (by omega) hL (by omega)
  exact ⟨h5, h6, h7, by omega, h9⟩
/-- A packet comes, a tick: nothing more is pushed. -/
theorem Good.quiet {t : Int} (h : Good P iss K L t) (hK : K ≤ 1000000) (hL : L ≤ 800) (ht : t ≤ 1099511626999) (kind i : Int) (hk : kind = 0 ∨ kind = 7) : Fits P kind i ∧ Good (P.step kind i) iss K L (t + 1) := by
  obtain ⟨⟨G, h1⟩, h2, h3, hw⟩ := h
  have h4 : ∃ G', Iv (P.flush.act kind i) iss G' K L := by
    unfold Pr.act
    split
    · exact h1.flush.pass kind _
    · rw [if_neg (by omega), if_neg (by omega), if_neg (by omega), if_neg (by omega)]
      split
      · exact ⟨G, h1.flush.ticks⟩
      · exact ⟨G, h1.flush⟩
  obtain ⟨G', h4⟩ := h4
  obtain ⟨h5, h6, h7, h8, h9⟩ := fits_of h1 h2 hw kind i h4 hK hL hK hL (by omega)
  exact ⟨h5, h6, h7, by omega, h9⟩
theorem Good.noway {t : Int} (h : Good P iss K L t) : Good { P with way := [] } iss K L t := by
  obtain ⟨⟨G, h1⟩, h2, h3, hw⟩ := h
  exact ⟨⟨G, h1.less (fun x hx => by cases hx)⟩, ⟨h2.t, h2.f0, h2.f1⟩, h3, Nat.zero_le _⟩
theorem Good.flush_ {t : Int} (h : Good P iss K L t) : Good P.flush iss K L t := by
  obtain ⟨⟨G, h1⟩, h2, h3, hw⟩ := h
  exact ⟨⟨G, h1.flush⟩, h2.flush.more (by omega), h3, flush_len P hw⟩
theorem Good.more {t t' : Int} {K' L' : Nat} (h : Good P iss K L t) (hK : K ≤ K') (hL : L ≤ L') (ht : t ≤ t') : Good P iss K' L' t' := by
  obtain ⟨⟨G, h1⟩, h2, h3, hw⟩ := h
  exact ⟨⟨G, h1.more hK hL⟩, h2, by omega, hw⟩
theorem Good.fit {t : Int} (h : Good P iss K L t) (hK : K ≤ 1000000) (hL : L ≤ 800) (ht : t ≤ 1099511627000) : Fit P := by
  obtain ⟨⟨G, h1⟩, h2, h3, hw⟩ := h
  exact h1.fit h2 (by omega) hL hK (by omega) hw
end
end Go.Proofs.Ytjldgialhgfhmaa
