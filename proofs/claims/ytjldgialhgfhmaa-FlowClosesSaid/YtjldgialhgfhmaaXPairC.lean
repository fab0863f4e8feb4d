/- Two flows, in plain Lean. -/
import Derived.Test.YtjldgialhgfhmaaNi
namespace Go.Proofs.Ytjldgialhgfhmaa
set_option linter.unusedVariables false
set_option linter.unusedSimpArgs false
set_option linter.unusedVariables false
set_option linter.unusedSimpArgs false
section
variable {P P2 : Pr} {G : Gh} {iss : Int} {K L : Nat}
/-- All that is on its way are pieces, in order, just sent. -/
theorem Mo.start (h : Iv P2 iss G K L) (hX : ∀ (t : Nat) (s : Sm), (sub true P2.way)[t]? = some s → isPiece s G.H (G.a + t) ∧ (s.acks = true → s.ack = pos 9000 G.J G.m)) (hY : ∀ (t : Nat) (s : Sm), (sub false P2.way)[t]? = some s → isPiece s G.J (G.c + t) ∧ (s.acks = true → s.ack = pos iss G.H G.n)) (h8 : sub true P2.way ≠ [] → P2.f0.st ≤ 10) :
    Mo P2 G (sub true P2.way) (sub false P2.way) iss P2 G := by
  have hsyn : ∀ s, s ∈ sub true P2.way → s.syn = true → G.m = 0 := fun s hs hsy => by
    have hne : sub true P2.way ≠ [] := fun e => by rw [e] at hs; simp at hs
    have h10 := h8 hne
    obtain ⟨t, ht⟩ := List.mem_iff_getElem?.1 hs
    have hpc := (hX t s ht).1
    have := (piece_syn h.hH hpc).1 hsy
    have ha : G.a = 0 := by omega
    have hr := h.d0.rng
    have h2 : P2.f0.st ≠ 2 := fun e => by have := h.d0.b2 e; cases this
    rcases Int.lt_or_le P2.f0.st 3 with g | g
    · exact (h.d0.s1 (by omega)).2.2
    · have := (h.d0.s3 g h10).1; omega
  refine ⟨rfl, fun _ => ⟨rfl, .inl rfl, ⟨Nat.le_refl _, Nat.le_refl _, Nat.le_refl _, Nat.le_refl _⟩, ⟨0, [], (by simp), Nat.zero_le _, fun s hs => (by simp at hs), h.an, .inl ⟨rfl, rfl⟩⟩, ⟨0, [], (by simp), Nat.zero_le _, fun s hs => (by simp at hs), h.cm, .inl ⟨rfl, rfl⟩⟩, hsyn, .inl ⟨rfl, rfl, rfl, rfl⟩, ?_, fun hx s hs hk => ?_, fun hy s hs hk => ?_, fun _ h => absurd h (Nat.lt_irrefl _), fun _ h => absurd h (Nat.lt_irrefl _), fun _ => rfl, fun _ => .inl rfl⟩, id, ⟨Nat.le_refl _, Nat.le_refl _, Nat.le_refl _, Nat.le_refl _⟩, rfl, .inl rfl, id, fun T e => ⟨T, e, id⟩, fun h => .inl h, fun T e h => .inl ⟨T, e, h⟩, id, fun T e h => ⟨T, e, h⟩, fun _ h => ⟨rfl, h⟩, fun _ h => ⟨rfl, h⟩⟩
  · cases hx : P2.f1 with
    | none => exact .inl ⟨rfl, rfl⟩
    | some T => exact .inr (.inl ⟨T, T, rfl, rfl, rfl, rfl, rfl, rfl⟩)
  · obtain ⟨t, ht⟩ := List.mem_iff_getElem?.1 hs
    exact (hY t s ht).2 hk
  · obtain ⟨t, ht⟩ := List.mem_iff_getElem?.1 hs
    exact (hX t s ht).2 hk
/-- All that is on its way comes. -/
def allCome (P : Pr) : Pr := drain 300 P.flush
theorem allCome_mo (h : Iv P2 iss G K L) (hn : noOut P2) (hl : P2.way.length ≤ 60) (hX : ∀ (t : Nat) (s : Sm), (sub true P2.way)[t]? = some s → isPiece s G.H (G.a + t) ∧ (s.acks = true → s.ack = pos 9000 G.J G.m)) (hY : ∀ (t : Nat) (s : Sm), (sub false P2.way)[t]? = some s → isPiece s G.J (G.c + t) ∧ (s.acks = true → s.ack = pos iss G.H G.n)) (h8 : sub true P2.way ≠ [] → P2.f0.st ≤ 10) :
    ∃ G', (allCome P2).way = [] ∧ noOut (allCome P2) ∧ Iv (allCome P2) iss G' K L ∧ Mo P2 G (sub true P2.way) (sub false P2.way) iss (allCome P2) G' := by
  have hwt := wtL_le iss G P2.way
  have hYn : P2.f1 = none → sub false P2.way = [] ∧ G.J = [] := fun e => by
    refine ⟨?_, (h.no e).1⟩
    cases hx : sub false P2.way with
    | nil => rfl
    | cons y l =>
      obtain ⟨T, hT'⟩ := h.some_of (h.w0 y (mem_sub.1 (by rw [hx]; simp)))
      rw [e] at hT'; cases hT'
  unfold allCome
  rw [flush_id hn]
  exact Mo.drain (fun t s ht => (hX t s ht).1) (fun t s ht => (hY t s ht).1) hYn 300 h hn hl (by omega) (Mo.start h hX hY h8)
/-- Both are open, and nothing is left. -/
structure Open2 (P : Pr) (iss : Int) (G : Gh) (K L : Nat) : Prop where
  iv : Iv P iss G K L
  no : noOut P
  way : P.way = []
  s0 : P.f0.st = 3
  T : ∃ T, P.f1 = some T ∧ T.st = 3
  a : G.a = G.H.length
  c : G.c = G.J.length
theorem Open2.of (hE : Iv P2 iss G K L) (hn : noOut P2) (hw : P2.way = []) (hH : ¬ finH G.H) (hJ : ¬ finH G.J) (h11 : P2.f0.st ≠ 11) (h11' : ∀ T, P2.f1 = some T → T.st ≠ 11) (hs : ∃ T, P2.f1 = some T) (ha : G.a = G.H.length) (hc : G.c = G.J.length) : Open2 P2 iss G K L := by
  have key : ∀ {S : Fl} {isx isj : Int} {H J : List Pc} {a m : Nat} {b : Bool}, Sd S isx H a m isj J b → ¬ finH H → ¬ finH J → S.st ≠ 11 → a = H.length → 1 ≤ H.length → S.st = 3 := fun {S isx isj H J a m b} d f1 f2 h11 ha h1 => by
    have hr := d.rng
    have h6 : ¬ 6 ≤ S.st := fun g => f2 (d.sx g (by omega)).2
    have h4 : S.st ≠ 4 := fun g => f1 (d.sf (by omega)).1
    have h5 : S.st ≠ 5 := fun g => f1 (d.sd (by omega)).1
    have h1' : S.st ≠ 1 := fun g => by have := d.s1 g; omega
    have h2' : S.st ≠ 2 := fun g => by have := d.s2 g; omega
    omega
  obtain ⟨T, hT⟩ := hs
  have hJl := (hE.hJ T hT).len
  exact ⟨hE, hn, hw, key hE.d0 hH hJ h11 ha hE.hH.len, ⟨T, hT, key (hE.d1 T hT) hJ hH (h11' T hT) hc hJl⟩, ha, hc⟩
/-- They open. -/
theorem opens (hi : 0 ≤ iss ∧ iss < 4294967296) : ∃ G, Open2 (allCome (pair0 iss)) iss G 2 2 := by
  have h0 := (pair0_iv iss hi).flush
  obtain ⟨q1, q2, q3, q4, q5, q6, q7, q8, q9⟩ := pair0_is iss hi
  have hw : (pair0 iss).flush.way = [(true, (⟨withSeq synP iss, 0, false, false⟩ : Ot).seg)] := by
    show fill (fill [] true (pair0 iss).f0.out) false (outOf none) = _
    rw [q9]; rfl
  have e1 : sub true (pair0 iss).flush.way = [(⟨withSeq synP iss, 0, false, false⟩ : Ot).seg] := by rw [hw]; rfl
  have e0 : sub false (pair0 iss).flush.way = [] := by rw [hw]; rfl
  have hs1 : (pair0 iss).flush.f0.st = 1 := q3
  obtain ⟨G', a1, a2, a3, mo⟩ := allCome_mo h0 (flush_no _) (by rw [hw]; simp) (fun t s ht => by
    rw [e1] at ht
    rcases t with _ | t
    · simp at ht
      subst ht
      exact ⟨⟨withSeq synP iss, rfl, rfl, rfl, rfl, rfl⟩, fun h => (by cases h)⟩
    · simp at ht) (fun t s ht => by rw [e0] at ht; simp at ht) (fun _ => by rw [hs1]; omega)
  have e : allCome (pair0 iss).flush = allCome (pair0 iss) := by unfold allCome; rw [flush_id (flush_no _)]
  rw [e] at a1 a2 a3 mo
  have eH : G'.H = [withSeq synP iss] := mo.H
  have hH1 : ¬ finH G'.H := by rw [eH]; exact nofin_H1 (Hist.first hi) rfl
  have hJ1 : ¬ finH G'.J := by
    rcases mo.J with e | ⟨_, _, e⟩
    · rw [e]; rintro ⟨p, h, _⟩; simp at h
    · rw [e]; exact nofin_H1 (Hist.first (iss := 9000) (by omega)) rfl
  have hal : alive (allCome (pair0 iss)) := ⟨Int.not_le.1 (fun g => by
    rcases mo.v0 g with g | g
    · rw [hs1] at g; omega
    · exact hH1 g), fun T e => Int.not_le.1 (fun g => by
    rcases mo.v1 T e g with ⟨T2, g, _⟩ | g
    · cases g
    · exact hJ1 g)⟩
  have hd := mo.di hal
  obtain ⟨u1, u2⟩ := hd.end0 a1
  obtain ⟨w1, w2⟩ := hd.end1 a1
  rw [e1] at u1 u2
  have ha : G'.a = G'.n := u2.elim (fun w => by cases w.1) id
  have hnl := a3.nl
  rw [eH] at hnl
  simp at u1 hnl
  have hsome : ∃ T, (allCome (pair0 iss)).f1 = some T := by
    cases hx : (allCome (pair0 iss)).f1 with
    | some T => exact ⟨T, rfl⟩
    | none => have := (a3.no hx).2.1; omega
  obtain ⟨T, hT⟩ := hsome
  have hJl : G'.J.length = 1 := by
    have := (a3.hJ T hT).len
    rcases mo.J with e | ⟨_, _, e⟩
    · rw [e] at this; simp at this
    · rw [e]; rfl
  have hc : G'.c = 1 := by
    have hcl := (a3.d1 T hT).al
    rcases hd.tm1 with ⟨z, _⟩ | ⟨Ta, Tb, z1, z2, _⟩ | z | z | ⟨z1, z2⟩
    · rw [hT] at z; cases z
    · cases z2
    · omega
    · omega
    · have hm1 : 1 ≤ G'.m := by
        rcases z2 with z2 | ⟨s, hs, _⟩
        · exact z2
        · rw [a1] at hs; simp [sub] at hs
      rcases w2 with ⟨_, w⟩ | w
      · have w : G'.m = 0 := w
        omega
      · omega
  refine ⟨G', Open2.of a3 a2 a1 hH1 hJ1 (fun g => ?_) (fun T' e g => ?_) ⟨T, hT⟩ (by rw [eH]; simp; omega) (by omega)⟩
  · have := hal.1; omega
  · have := hal.2 T' e; omega
theorem step_way {P : Pr} (hn : noOut P) (k i : Int) : P.step k i = (P.act k i).flush := by unfold Pr.step; rw [flush_id hn]
/-- A flow sends, and it comes. -/
theorem send_comes (h : Open2 P iss G K L) (hK : K + 9 < 1000000) (b : Bool) (i : Int) (h1 : 1 ≤ i ∧ i ≤ 8) : ∃ G', Open2 (allCome (P.step (if b then 4 else 3) i)) iss G' (K + 9) (L + 1) := by
  have hlen : (bytesN i).length = i.toNat := by unfold bytesN; simp; omega
  obtain ⟨T, hT, hTs⟩ := h.T
  have hH1 : ¬ finH G.H := h.iv.d0.so (.inl h.s0)
  have hJ1 : ¬ finH G.J := (h.iv.d1 T hT).so (.inl hTs)
  have hl : long (dataP (bytesN i)) = (bytesN i).length := by simp [long, dataP]
  rw [step_way h.no]
  cases b with
  | false =>
    have hcan : P.f0.canSend (bytesN i) := ⟨.inl h.s0, (by omega), (by omega)⟩
    have ea : P.act (if false then 4 else 3) i = { P with f0 := P.f0.send (dataP (bytesN i)) P.tick, s0 := P.s0 ++ bytesN i } := by
      unfold Pr.act
      rw [if_neg (by simp), if_pos (by simp)]
      unfold Pr.sends
      dsimp only
      rw [if_pos hcan]
    rw [ea]
    have i1 := h.iv.push0 hK (dataP (bytesN i)) rfl (by omega) (by omega) (fun h => by cases h) (.inl h.s0) P.f0.st (.inl ⟨rfl, rfl⟩)
    have i1 : Iv { P with f0 := P.f0.send (dataP (bytesN i)) P.tick, s0 := P.s0 ++ bytesN i } iss { G with H := G.H ++ [withSeq (dataP (bytesN i)) (pos iss G.H G.H.length)] } (K + 9) (L + 1) := i1
    obtain ⟨q1, q2, q3, q4, q5, q6, q7, q8, q9, q10⟩ := send_is (S := P.f0) (dataP (bytesN i)) P.tick (by omega)
    rw [h.iv.d0.e] at q10
    rw [h.no.1] at q10
    obtain ⟨P2, hP2⟩ : ∃ z, ({ P with f0 := P.f0.send (dataP (bytesN i)) P.tick, s0 := P.s0 ++ bytesN i } : Pr).flush = z := ⟨_, rfl⟩
    have hw : P2.way = [(true, (P.f0.putting (withSeq (dataP (bytesN i)) (pos iss G.H G.H.length))).seg)] := by
      rw [← hP2]
      show fill (fill P.way true (P.f0.send (dataP (bytesN i)) P.tick).out) false (outOf P.f1) = _
      rw [h.way, q10, hT, show outOf (some T) = T.out from rfl, h.no.2 T hT]
      rfl
    have e1 : sub true P2.way = [(P.f0.putting (withSeq (dataP (bytesN i)) (pos iss G.H G.H.length))).seg] := by rw [hw]; rfl
    have e0 : sub false P2.way = [] := by rw [hw]; rfl
    have hs3 : P2.f0.st = 3 := by rw [← hP2]; show (P.f0.send (dataP (bytesN i)) P.tick).st = 3; rw [q3]; exact h.s0
    have hT2 : P2.f1 = some T := by rw [← hP2]; show P.f1.map Fl.flushed = some T; rw [hT]; show some T.flushed = some T; rw [flushed_id (h.no.2 T hT)]
    have i2 := i1.flush
    rw [hP2] at i2 ⊢
    have hn2 : noOut P2 := by rw [← hP2]; exact flush_no _
    obtain ⟨G', a1, a2, a3, mo⟩ := allCome_mo i2 hn2 (by rw [hw]; simp) (fun t s ht => by
      rw [e1] at ht
      rcases t with _ | t
      · simp at ht
        subst ht
        refine ⟨⟨withSeq (dataP (bytesN i)) (pos iss G.H G.H.length), (by show (G.H ++ [_])[G.a + 0]? = _; rw [h.a]; simp), rfl, rfl, rfl, rfl⟩, fun _ => ?_⟩
        show (if P.f0.st = 1 then 0 else P.f0.rcv) = pos 9000 G.J G.m
        rw [if_neg (by rw [h.s0]; omega)]
        exact h.iv.d0.rcv (h.iv.d0.s3 (by rw [h.s0]; omega) (by rw [h.s0]; omega)).2
      · simp at ht) (fun t s ht => by rw [e0] at ht; simp at ht) (fun _ => by rw [hs3]; omega)
    have eH : G'.H = G.H ++ [withSeq (dataP (bytesN i)) (pos iss G.H G.H.length)] := mo.H
    have eJ : G'.J = G.J := by
      rcases mo.J with e | ⟨e, _⟩
      · exact e
      · rw [hT2] at e; cases e
    have hH2 : ¬ finH G'.H := by rw [eH, finH_app]; rintro (g | g); exact hH1 g; cases g
    have hJ2 : ¬ finH G'.J := by rw [eJ]; exact hJ1
    have hal : alive (allCome P2) := ⟨Int.not_le.1 (fun g => by
      rcases mo.v0 g with g | g
      · omega
      · exact hH2 g), fun T' e => Int.not_le.1 (fun g => by
      rcases mo.v1 T' e g with ⟨T2, g, g'⟩ | g
      · rw [hT2] at g; injection g with g; subst g; omega
      · exact hJ2 g)⟩
    have hd := mo.di hal
    obtain ⟨u1, u2⟩ := hd.end0 a1
    rw [e1] at u1 u2
    have ha : G'.a = G'.n := u2.elim (fun w => by cases w.1) id
    have u1 : G.a + 1 ≤ G'.n := u1
    have hnl := a3.nl
    have hl2 : G'.H.length = G.H.length + 1 := by rw [eH]; simp
    have hcl : G'.c = G'.J.length := by
      obtain ⟨T', hT', _⟩ := mo.s1 T hT2
      have h1 := (a3.d1 T' hT').al
      have h2 := mo.ge.2.2.1
      have h3 : G.c ≤ G'.c := h2
      rw [eJ] at h1 ⊢
      have := h.c
      omega
    obtain ⟨T', hT', _⟩ := mo.s1 T hT2
    have := h.a
    refine ⟨G', Open2.of a3 a2 a1 hH2 hJ2 (fun g => ?_) (fun T' e g => ?_) ⟨T', hT'⟩ (by omega) hcl⟩
    · have := hal.1; omega
    · have := hal.2 T' e; omega
  | true =>
    have hcan : T.canSend (bytesN i) := ⟨.inl hTs, (by omega), (by omega)⟩
    have ea : P.act (if true then 4 else 3) i = { P with f1 := some (T.send (dataP (bytesN i)) P.tick), s1 := P.s1 ++ bytesN i } := by
      unfold Pr.act
      rw [if_neg (by simp), if_neg (by simp), if_pos (by simp)]
      unfold Pr.sends
      simp only [hT]
      rw [if_pos hcan]
    rw [ea]
    have i1 := h.iv.push1 hK T hT (dataP (bytesN i)) rfl (by omega) (by omega) (fun h => by cases h) (.inl hTs) T.st (.inl ⟨rfl, rfl⟩)
    have i1 : Iv { P with f1 := some (T.send (dataP (bytesN i)) P.tick), s1 := P.s1 ++ bytesN i } iss { G with J := G.J ++ [withSeq (dataP (bytesN i)) (pos 9000 G.J G.J.length)] } (K + 9) (L + 1) := i1
    obtain ⟨q1, q2, q3, q4, q5, q6, q7, q8, q9, q10⟩ := send_is (S := T) (dataP (bytesN i)) P.tick (by omega)
    rw [(h.iv.d1 T hT).e] at q10
    rw [h.no.2 T hT] at q10
    obtain ⟨P2, hP2⟩ : ∃ z, ({ P with f1 := some (T.send (dataP (bytesN i)) P.tick), s1 := P.s1 ++ bytesN i } : Pr).flush = z := ⟨_, rfl⟩
    have hw : P2.way = [(false, (T.putting (withSeq (dataP (bytesN i)) (pos 9000 G.J G.J.length))).seg)] := by
      rw [← hP2]
      show fill (fill P.way true P.f0.out) false (outOf (some (T.send (dataP (bytesN i)) P.tick))) = _
      rw [h.way, h.no.1, show outOf (some (T.send (dataP (bytesN i)) P.tick)) = (T.send (dataP (bytesN i)) P.tick).out from rfl, q10]
      rfl
    have e1 : sub true P2.way = [] := by rw [hw]; rfl
    have e0 : sub false P2.way = [(T.putting (withSeq (dataP (bytesN i)) (pos 9000 G.J G.J.length))).seg] := by rw [hw]; rfl
    have hs3 : P2.f0.st = 3 := by rw [← hP2]; exact h.s0
    have hT2 : P2.f1 = some (T.send (dataP (bytesN i)) P.tick).flushed := by rw [← hP2]; rfl
    have hT2s : (T.send (dataP (bytesN i)) P.tick).flushed.st = 3 := by show (T.send (dataP (bytesN i)) P.tick).st = 3; rw [q3]; exact hTs
    have i2 := i1.flush
    rw [hP2] at i2 ⊢
    have hn2 : noOut P2 := by rw [← hP2]; exact flush_no _
    obtain ⟨G', a1, a2, a3, mo⟩ := allCome_mo i2 hn2 (by rw [hw]; simp) (fun t s ht => by rw [e1] at ht; simp at ht) (fun t s ht => by
      rw [e0] at ht
      rcases t with _ | t
      · simp at ht
        subst ht
        refine ⟨⟨withSeq (dataP (bytesN i)) (pos 9000 G.J G.J.length), (by show (G.J ++ [_])[G.c + 0]? = _; rw [h.c]; simp), rfl, rfl, rfl, rfl⟩, fun _ => ?_⟩
        show (if T.st = 1 then 0 else T.rcv) = pos iss G.H G.n
        rw [if_neg (by rw [hTs]; omega)]
        exact (h.iv.d1 T hT).rcv ((h.iv.d1 T hT).s3 (by rw [hTs]; omega) (by rw [hTs]; omega)).2
      · simp at ht) (fun _ => by rw [hs3]; omega)
    have eH : G'.H = G.H := mo.H
    have eJ : G'.J = G.J ++ [withSeq (dataP (bytesN i)) (pos 9000 G.J G.J.length)] := by
      rcases mo.J with e | ⟨e, _⟩
      · exact e
      · rw [hT2] at e; cases e
    have hH2 : ¬ finH G'.H := by rw [eH]; exact hH1
    have hJ2 : ¬ finH G'.J := by rw [eJ, finH_app]; rintro (g | g); exact hJ1 g; cases g
    have hal : alive (allCome P2) := ⟨Int.not_le.1 (fun g => by
      rcases mo.v0 g with g | g
      · omega
      · exact hH2 g), fun T' e => Int.not_le.1 (fun g => by
      rcases mo.v1 T' e g with ⟨T2, g, g'⟩ | g
      · rw [hT2] at g; injection g with g; subst g; omega
      · exact hJ2 g)⟩
    have hd := mo.di hal
    obtain ⟨u1, u2⟩ := hd.end1 a1
    rw [e0] at u1 u2
    have ha : G'.c = G'.m := u2.elim (fun w => by cases w.1) id
    have u1 : G.c + 1 ≤ G'.m := u1
    have hml := a3.d0.ml
    have hl2 : G'.J.length = G.J.length + 1 := by rw [eJ]; simp
    have hal2 : G'.a = G'.H.length := by
      have h1 := a3.d0.al
      have h3 : G.a ≤ G'.a := mo.ge.1
      rw [eH] at h1 ⊢
      have := h.a
      omega
    obtain ⟨T', hT', _⟩ := mo.s1 _ hT2
    have := h.c
    refine ⟨G', Open2.of a3 a2 a1 hH2 hJ2 (fun g => ?_) (fun T' e g => ?_) ⟨T', hT'⟩ hal2 (by omega)⟩
    · have := hal.1; omega
    · have := hal.2 T' e; omega
/-- A row of pieces is sent. -/
theorem send_all (b : Bool) : ∀ (l : List Int) {P : Pr} {G : Gh} {K L : Nat}, (∀ i ∈ l, 1 ≤ i ∧ i ≤ 8) → K + 9 * l.length + 9 < 1000000 → Open2 P iss G K L → ∃ G', Open2 (l.foldl (fun P i => allCome (P.step (if b then 4 else 3) i)) P) iss G' (K + 9 * l.length) (L + l.length)
  | [], P, G, K, L, _, _, h => ⟨G, h⟩
  | i :: l, P, G, K, L, hi, hK, h => by
    simp only [List.length_cons] at hK
    obtain ⟨G1, h1⟩ := send_comes h (by omega) b i (hi i (by simp))
    obtain ⟨G2, h2⟩ := send_all b l (fun j hj => hi j (by simp [hj])) (by omega) h1
    refine ⟨G2, ?_⟩
    simp only [List.foldl_cons, List.length_cons]
    rw [show K + 9 * (l.length + 1) = K + 9 + 9 * l.length by omega, show L + (l.length + 1) = L + 1 + l.length by omega]
    exact h2
end
end Go.Proofs.Ytjldgialhgfhmaa
