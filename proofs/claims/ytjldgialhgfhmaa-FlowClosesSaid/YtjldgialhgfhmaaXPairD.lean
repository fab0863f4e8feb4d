/- Two flows, in plain Lean. -/
import Derived.Test.YtjldgialhgfhmaaXPairC
namespace Go.Proofs.Ytjldgialhgfhmaa
set_option linter.unusedVariables false
set_option linter.unusedSimpArgs false
set_option linter.unusedVariables false
set_option linter.unusedSimpArgs false
section
variable {P P2 : Pr} {G : Gh} {iss : Int} {K L : Nat}
/-- The first one has ended what it sends. -/
structure Half (P : Pr) (iss : Int) (G : Gh) (K L : Nat) : Prop where
  iv : Iv P iss G K L
  no : noOut P
  way : P.way = []
  s0 : P.f0.st = 5
  T : ∃ T, P.f1 = some T ∧ T.st = 6
  c : G.c = G.J.length
theorem closes0 (h : Open2 P iss G K L) (hK : K + 9 < 1000000) : ∃ G', Half (allCome (P.step 5 0)) iss G' (K + 9) (L + 1) := by
  obtain ⟨T, hT, hTs⟩ := h.T
  have hH1 : ¬ finH G.H := h.iv.d0.so (.inl h.s0)
  have hJ1 : ¬ finH G.J := (h.iv.d1 T hT).so (.inl hTs)
  have hl : long finP = 1 := by simp [long, finP]
  rw [step_way h.no]
  have ea : P.act 5 0 = { P with f0 := ({ P.f0 with st := 4 } : Fl).send finP P.tick, s0 := P.s0 ++ finP.xs } := by
    unfold Pr.act
    rw [if_neg (by simp), if_neg (by simp), if_neg (by simp), if_pos rfl]
    unfold Fl.close
    rw [if_pos h.s0, show finP.xs = [] from rfl, List.append_nil]
  rw [ea]
  have i1 := h.iv.push0 hK finP rfl (by omega) (by omega) (fun _ => rfl) (.inl h.s0) 4 (.inr ⟨rfl, .inl ⟨h.s0, rfl⟩⟩)
  obtain ⟨S4, hS4⟩ : ∃ z : Fl, ({ P.f0 with st := 4 } : Fl) = z := ⟨_, rfl⟩
  have e4 : S4.out = [] := by rw [← hS4]; exact h.no.1
  have e5 : S4.e = pos iss G.H G.H.length := by rw [← hS4]; exact h.iv.d0.e
  have e6 : S4.st = 4 := by rw [← hS4]
  have e7 : S4.rcv = P.f0.rcv := by rw [← hS4]
  rw [hS4] at i1 ⊢
  obtain ⟨q1, q2, q3, q4, q5, q6, q7, q8, q9, q10⟩ := send_is (S := S4) finP P.tick (by omega)
  rw [e4, e5] at q10
  obtain ⟨P2, hP2⟩ : ∃ z, ({ P with f0 := S4.send finP P.tick, s0 := P.s0 ++ finP.xs } : Pr).flush = z := ⟨_, rfl⟩
  have hw : P2.way = [(true, (S4.putting (withSeq finP (pos iss G.H G.H.length))).seg)] := by
    rw [← hP2]
    show fill (fill P.way true (S4.send finP P.tick).out) false (outOf P.f1) = _
    rw [h.way, q10, hT, show outOf (some T) = T.out from rfl, h.no.2 T hT]
    rfl
  have e1 : sub true P2.way = [(S4.putting (withSeq finP (pos iss G.H G.H.length))).seg] := by rw [hw]; rfl
  have e0 : sub false P2.way = [] := by rw [hw]; rfl
  have hs3 : P2.f0.st = 4 := by rw [← hP2]; exact q3.trans e6
  have hT2 : P2.f1 = some T := by rw [← hP2]; show P.f1.map Fl.flushed = some T; rw [hT]; show some T.flushed = some T; rw [flushed_id (h.no.2 T hT)]
  have i2 := i1.flush
  rw [hP2] at i2 ⊢
  have hn2 : noOut P2 := by rw [← hP2]; exact flush_no _
  obtain ⟨G', a1, a2, a3, mo⟩ := allCome_mo i2 hn2 (by rw [hw]; simp) (fun t s ht => by
    rw [e1] at ht
    rcases t with _ | t
    · simp at ht
      subst ht
      refine ⟨⟨withSeq finP (pos iss G.H G.H.length), (by show (G.H ++ [_])[G.a + 0]? = _; rw [h.a]; simp), rfl, rfl, rfl, rfl⟩, fun _ => ?_⟩
      show (if S4.st = 1 then 0 else S4.rcv) = pos 9000 G.J G.m
      rw [if_neg (by omega), e7]
      exact h.iv.d0.rcv (h.iv.d0.s3 (by rw [h.s0]; omega) (by rw [h.s0]; omega)).2
    · simp at ht) (fun t s ht => by rw [e0] at ht; simp at ht) (fun _ => by rw [hs3]; omega)
  have eH : G'.H = G.H ++ [withSeq finP (pos iss G.H G.H.length)] := mo.H
  have eJ : G'.J = G.J := by
    rcases mo.J with e | ⟨e, _⟩
    · exact e
    · rw [hT2] at e; cases e
  have hH2 : finH G'.H := by rw [eH, finH_app]; exact .inr rfl
  have hJ2 : ¬ finH G'.J := by rw [eJ]; exact hJ1
  have hr0 := a3.d0.rng
  have h11 : (allCome P2).f0.st ≠ 11 := fun g => by have := mo.u0 g; omega
  have h10 : (allCome P2).f0.st < 10 := Int.not_le.1 (fun g => hJ2 (a3.d0.sx (by omega) (by omega)).2)
  obtain ⟨T', hT', _⟩ := mo.s1 T hT2
  have d1 := a3.d1 T' hT'
  have hr1 := d1.rng
  have h11' : T'.st ≠ 11 := fun g => by
    obtain ⟨T3, e3, g3⟩ := mo.u1 T' hT' g
    rw [hT2] at e3; injection e3 with e3; subst e3; omega
  have h10' : T'.st < 10 := Int.not_le.1 (fun g => hJ2 (d1.sd (by omega)).1)
  have hal : alive (allCome P2) := ⟨h10, fun T2 e => (by rw [hT'] at e; injection e with e; subst e; exact h10')⟩
  have hd := mo.di hal
  obtain ⟨u1, u2⟩ := hd.end0 a1
  rw [e1] at u1 u2
  have ha : G'.a = G'.n := u2.elim (fun w => by cases w.1) id
  have u1 : G.a + 1 ≤ G'.n := u1
  have hnl := a3.nl
  have hl2 : G'.H.length = G.H.length + 1 := by rw [eH]; simp
  have hga := h.a
  have hcl : G'.c = G'.J.length := by
    have h1 := d1.al
    have h3 : G.c ≤ G'.c := mo.ge.2.2.1
    rw [eJ] at h1 ⊢
    have := h.c
    omega
  have hHl := h.iv.hH.len
  have hJl := (a3.hJ T' hT').len
  have en : G'.n = G'.H.length := by omega
  refine ⟨G', a3, a2, a1, ?_, ⟨T', hT', ?_⟩, hcl⟩
  · have d := a3.d0
    have h1' : (allCome P2).f0.st ≠ 1 := fun g => by have := d.s1 g; omega
    have h2' : (allCome P2).f0.st ≠ 2 := fun g => by have := d.b2 g; cases this
    have h3' : ¬ ((allCome P2).f0.st = 3 ∨ (allCome P2).f0.st = 6) := fun g => d.so g hH2
    have h4' : ¬ ((allCome P2).f0.st = 4 ∨ (allCome P2).f0.st = 7 ∨ (allCome P2).f0.st = 8) := fun g => by have := (d.sf g).2; omega
    have h9' : (allCome P2).f0.st ≠ 9 := fun g => hJ2 (d.sx (by omega) (by omega)).2
    omega
  · have hnf : finH (G'.H.take G'.n) := by rw [en, List.take_length]; exact hH2
    have h1' : T'.st ≠ 1 := fun g => by have := d1.b1 g; cases this
    have h2' : T'.st ≠ 2 := fun g => by have := d1.s2 g; omega
    have h3' : ¬ (T'.st = 3 ∨ T'.st = 4 ∨ T'.st = 5) := fun g => d1.sr g hnf
    have h4' : ¬ (T'.st = 4 ∨ T'.st = 7 ∨ T'.st = 8) := fun g => hJ2 (d1.sf g).1
    have h9' : T'.st ≠ 9 := fun g => hJ2 (d1.sd (by omega)).1
    omega
/-- Both have ended. -/
structure Over2 (P : Pr) (iss : Int) (G : Gh) (K L : Nat) : Prop where
  iv : Iv P iss G K L
  no : noOut P
  way : P.way = []
  s0 : P.f0.st = 9
  T : ∃ T, P.f1 = some T ∧ T.st = 10
  fut : P.tick < P.f0.at_
theorem drain_nil (n : Nat) {P : Pr} (h : P.way = []) : drain n P = P := by
  cases n with
  | zero => rfl
  | succ n => unfold drain; rw [if_pos h]
theorem closes1 (h : Half P iss G K L) (hK : K + 9 < 1000000) : ∃ G', Over2 (allCome (P.step 6 0)) iss G' (K + 9) (L + 1) := by
  obtain ⟨T, hT, hTs⟩ := h.T
  have hd0 := h.iv.d0
  have hd1 := h.iv.d1 T hT
  have hHf := (hd0.sd (.inl h.s0))
  have hJ1 : ¬ finH G.J := hd1.so (.inr hTs)
  have hn1 := hd1.sx (by omega) (by omega)
  have hl : long finP = 1 := by simp [long, finP]
  rw [step_way h.no]
  have ea : P.act 6 0 = { P with f1 := some (({ T with st := 8 } : Fl).send finP P.tick), s1 := P.s1 ++ finP.xs } := by
    unfold Pr.act
    rw [if_neg (by simp), if_neg (by simp), if_neg (by simp), if_neg (by simp), if_pos rfl, hT]
    simp only [Option.map_some]
    unfold Fl.close
    rw [if_neg (by omega), if_pos hTs, show finP.xs = [] from rfl, List.append_nil]
  rw [ea]
  have i1 := h.iv.push1 hK T hT finP rfl (by omega) (by omega) (fun _ => rfl) (.inr hTs) 8 (.inr ⟨rfl, .inr ⟨hTs, rfl⟩⟩)
  obtain ⟨S4, hS4⟩ : ∃ z : Fl, ({ T with st := 8 } : Fl) = z := ⟨_, rfl⟩
  have e4 : S4.out = [] := by rw [← hS4]; exact h.no.2 T hT
  have e5 : S4.e = pos 9000 G.J G.J.length := by rw [← hS4]; exact hd1.e
  have e6 : S4.st = 8 := by rw [← hS4]
  rw [hS4] at i1 ⊢
  obtain ⟨q1, q2, q3, q4, q5, q6, q7, q8, q9, q10⟩ := send_is (S := S4) finP P.tick (by omega)
  rw [e4, e5] at q10
  obtain ⟨P2, hP2⟩ : ∃ z, ({ P with f1 := some (S4.send finP P.tick), s1 := P.s1 ++ finP.xs } : Pr).flush = z := ⟨_, rfl⟩
  obtain ⟨o, ho⟩ : ∃ z, S4.putting (withSeq finP (pos 9000 G.J G.J.length)) = z := ⟨_, rfl⟩
  have hos : isPiece o.seg (G.J ++ [withSeq finP (pos 9000 G.J G.J.length)]) G.J.length := by
    rw [← ho]
    exact ⟨withSeq finP (pos 9000 G.J G.J.length), (by simp), rfl, rfl, rfl, rfl⟩
  rw [ho] at q10
  have hw : P2.way = [(false, o.seg)] := by
    rw [← hP2]
    show fill (fill P.way true P.f0.out) false (outOf (some (S4.send finP P.tick))) = _
    rw [h.way, h.no.1, show outOf (some (S4.send finP P.tick)) = (S4.send finP P.tick).out from rfl, q10]
    rfl
  have hs3 : P2.f0 = P.f0 := by rw [← hP2]; exact flushed_id h.no.1
  have htk : P2.tick = P.tick := by rw [← hP2]; rfl
  have hT2 : P2.f1 = some (S4.send finP P.tick).flushed := by rw [← hP2]; rfl
  have i2 := i1.flush
  rw [hP2] at i2 ⊢
  have hn2 : noOut P2 := by rw [← hP2]; exact flush_no _
  -- the end comes
  obtain ⟨P3, G3, e3, i3, n3, dl3⟩ := deliver i2 hn2 (by rw [hw]; simp) hw
  have key : ∃ tl, P3.way = [(true, tl)] ∧ P3.f0.st = 9 ∧ P3.tick = P.tick ∧ P3.f1 = P2.f1 ∧ P3.tick < P3.f0.at_ ∧ isTell tl ∧ tl.seq = pos iss G3.H G3.H.length ∧ tl.acks = true ∧ tl.ack = pos 9000 G3.J G3.J.length ∧ finH G3.J ∧ G3.H = G.H ∧ G3.n = G.n := by
    cases dl3 with
    | to1 T T' f c' n' new hb hT hp hh x => cases hb
    | new o hb hT hp hs ho => cases hb
    | to0 S' f a' m' new hb hp hh x =>
      have hm0 := hd0.ml
      have hr := hh.sd.rng
      have hS5 : P2.f0.st = 5 := by rw [hs3]; exact h.s0
      have h11 : S'.st ≠ 11 := fun g => by have := hh.ov g; omega
      have h10 : S'.st ≠ 10 := fun g => by have := hh.ten g; omega
      obtain ⟨r1, r2⟩ := hh.resp (by omega) (by omega) G.J.length hos (fun g => by omega)
      have hml : G.m ≤ G.J.length := hm0
      have hcm := h.iv.cm
      have hc := h.c
      have em : G.m = G.J.length := by omega
      have r2 := r2 (by show G.J.length ≤ G.m; omega)
      have hml' := hh.sd.ml
      have hfJ : finH (G.J ++ [withSeq finP (pos 9000 G.J G.J.length)]) := by rw [finH_app]; exact .inr rfl
      have hJl : (G.J ++ [withSeq finP (pos 9000 G.J G.J.length)]).length = G.J.length + 1 := by simp
      have em' : m' = (G.J ++ [withSeq finP (pos 9000 G.J G.J.length)]).length := by
        have : m' ≤ (G.J ++ [withSeq finP (pos 9000 G.J G.J.length)]).length := hml'
        omega
      have hst : S'.st = 9 := by
        have d := hh.sd
        have haa := hh.aa.1
        have hal := d.al
        have h1' : S'.st ≠ 1 := fun g => by have := (d.s1 g).2.2; omega
        have h2' : S'.st ≠ 2 := fun g => by have := d.b2 g; cases this
        have h3' : ¬ (S'.st = 3 ∨ S'.st = 6) := fun g => d.so g hHf.1
        have h4' : ¬ (S'.st = 4 ∨ S'.st = 7 ∨ S'.st = 8) := fun g => by
          have := (d.sf g).2
          have h1 := hHf.2
          have h2 : G.a ≤ a' := haa
          have h3 : a' < G.H.length := this
          omega
        have h5' : S'.st ≠ 5 := fun g => d.sr (.inr (.inr g)) (by show finH (List.take m' _); rw [em', List.take_length]; exact hfJ)
        omega
      obtain ⟨tl, htl⟩ := List.exists_mem_of_ne_nil new r1
      have hn1' := hh.n1
      have hnew : new = [tl] := by
        match new, htl, hn1' with
        | [x], h, _ => simp at h; rw [h]
        | _ :: _ :: _, _, h => simp at h
      have hhas := (hh.tm.w hst)
      have hfut : P2.tick < S'.at_ := by
        refine hh.fut (fun hh5 => ?_) hhas.1
        have h55 : P2.f0.has = true := hh5
        rw [hs3] at h55
        have := (h.iv.t0.lo (by rw [h.s0]; omega)).1 h55
        rw [hd0.ps, hHf.2, List.drop_length] at this
        exact absurd rfl this
      rcases hh.wt tl htl with ⟨t1, t2, t3, t4⟩ | ⟨u, _⟩
      · refine ⟨tl.seg, (by rw [hnew]; rfl), hst, htk, rfl, hfut, t1, t2, t3, ?_, hfJ, rfl, rfl⟩
        rw [t4, em']
      · omega
  obtain ⟨tl, k1, k2, k3, k4, k5, k6, k7, k8, k9, k10, k11, k12⟩ := key
  obtain ⟨P4, G4, e4, i4, n4, dl4⟩ := deliver i3 n3 (by rw [k1]; simp) k1
  have key4 : P4.way = [] ∧ P4.f0 = P3.f0 ∧ P4.tick = P3.tick ∧ ∃ T, P4.f1 = some T ∧ T.st = 10 := by
    cases dl4 with
    | to0 S' f a' m' new hb hp hh x => cases hb
    | new o hb hT hp hs ho => rw [hT, hT2] at k4; cases k4
    | to1 Ta T' f c' n' new hb hTa hp hh x =>
      rw [hTa, hT2] at k4
      injection k4 with k4
      have hTa8 : Ta.st = 8 := by rw [k4]; exact q3.trans e6
      have hnew := hh.quiet k6 k7
      have hr := hh.sd.rng
      have hack := hh.ackd k6.1 (by omega) (by omega) G3.J.length k8 k9 (Nat.le_refl _)
      have h8 := hh.eight hTa8
      have hc' := hh.sd.al
      have hst : T'.st = 10 := by
        rcases h8 with g | g
        · have := (hh.sd.sf (.inr (.inr g))).2
          have h3 : c' < G3.J.length := this
          omega
        · exact g
      exact ⟨(by rw [hnew]; rfl), rfl, rfl, _, rfl, hst⟩
  obtain ⟨m1, m2, m3, T4, m4, m5⟩ := key4
  have e : allCome P2 = P4 := by
    unfold allCome
    rw [flush_id hn2, show (300 : Nat) = 298 + 1 + 1 from rfl]
    unfold drain
    rw [hw, if_neg (by simp), e3]
    unfold drain
    rw [k1, if_neg (by simp), e4]
    exact drain_nil _ m1
  rw [e]
  exact ⟨G4, i4, n4, m1, (by rw [m2]; exact k2), ⟨T4, m4, m5⟩, (by rw [m2, m3]; exact k5)⟩
/-- A tick more of the waiting. -/
def ticks : Nat → Pr → Pr
  | 0, P => P
  | n + 1, P => ticks n (P.step 7 0)
theorem over_tick (h : Iv P iss G K L) (hn : noOut P) (hw : P.way = []) (hs : (P.f0.st = 9 ∧ P.tick < P.f0.at_) ∨ P.f0.st = 10) (hT : ∃ T, P.f1 = some T ∧ T.st = 10) :
    Iv (P.step 7 0) iss G K L ∧ noOut (P.step 7 0) ∧ (P.step 7 0).way = [] ∧ (((P.step 7 0).f0.st = 9 ∧ (P.step 7 0).tick < (P.step 7 0).f0.at_ ∧ (P.step 7 0).f0.at_ = P.f0.at_) ∨ (P.step 7 0).f0.st = 10) ∧ (∃ T, (P.step 7 0).f1 = some T ∧ T.st = 10) ∧ (P.step 7 0).tick = P.tick + 1 := by
  obtain ⟨T, hT, hTs⟩ := hT
  have hTh := (h.t1 T hT).hi (by omega)
  have eT : T.expire (P.tick + 1) = T := by unfold Fl.expire; rw [if_pos (.inl hTh)]
  have hS : (P.f0.expire (P.tick + 1)).out = [] ∧ ((P.f0.expire (P.tick + 1)).st = 9 ∧ P.tick + 1 < (P.f0.expire (P.tick + 1)).at_ ∧ (P.f0.expire (P.tick + 1)).at_ = P.f0.at_ ∨ (P.f0.expire (P.tick + 1)).st = 10) := by
    unfold Fl.expire
    rcases hs with ⟨h9, hf⟩ | h10
    · by_cases hc : P.f0.has = false ∨ P.tick + 1 < P.f0.at_
      · rw [if_pos hc]
        refine ⟨hn.1, .inl ⟨h9, ?_, rfl⟩⟩
        rcases hc with hc | hc
        · have := (h.t0.w h9).1; rw [hc] at this; cases this
        · exact hc
      · rw [if_neg hc, if_pos h9]
        exact ⟨hn.1, .inr rfl⟩
    · rw [if_pos (.inl (h.t0.hi (by omega)))]
      exact ⟨hn.1, .inr h10⟩
  have e := step70 hn
  rw [e]
  have e1 : (tickN P).f1 = some T := by show P.f1.map _ = _; rw [hT]; show some (T.expire (P.tick + 1)) = some T; rw [eT]
  refine ⟨h.ticks.flush, flush_no _, ?_, hS.2, ⟨T.flushed, (by show (tickN P).f1.map _ = _; rw [e1]; rfl), hTs⟩, rfl⟩
  show fill (fill P.way true (P.f0.expire (P.tick + 1)).out) false (outOf (tickN P).f1) = []
  rw [hw, hS.1, e1, show outOf (some T) = T.out from rfl, hn.2 T hT]
  rfl
theorem over_ticks (n : Nat) : ∀ {P : Pr}, Iv P iss G K L → noOut P → P.way = [] → ((P.f0.st = 9 ∧ P.tick < P.f0.at_ ∧ P.f0.at_ ≤ P.tick + n) ∨ P.f0.st = 10) → (∃ T, P.f1 = some T ∧ T.st = 10) → Iv (ticks n P) iss G K L ∧ (ticks n P).f0.st = 10 := by
  induction n with
  | zero =>
    intro P h hn hw hs hT
    refine ⟨h, ?_⟩
    rcases hs with ⟨_, h1, h2⟩ | h
    · simp at h2; omega
    · exact h
  | succ n ih =>
    intro P h hn hw hs hT
    obtain ⟨a1, a2, a3, a4, a5, a6⟩ := over_tick h hn hw (hs.imp (fun h => ⟨h.1, h.2.1⟩) id) hT
    refine ih a1 a2 a3 ?_ a5
    rcases a4 with ⟨b1, b2, b3⟩ | b
    · left
      rcases hs with ⟨c1, c2, c3⟩ | c
      · exact ⟨b1, b2, (by rw [b3, a6]; omega)⟩
      · have h10 := h.t0.hi (by omega : 10 ≤ P.f0.st)
        have e : (P.step 7 0).f0.st = 10 := by
          rw [step70 hn]
          show (P.f0.expire (P.tick + 1)).st = 10
          unfold Fl.expire
          rw [if_pos (.inl h10)]
          exact c
        omega
    · exact .inr b
end
/-- What the law FlowCloses does. -/
def closeRun (iss : Int) (a b : List Int) : Pr × Pr × Pr :=
  let P1 := b.foldl (fun P i => allCome (P.step 4 i)) (a.foldl (fun P i => allCome (P.step 3 i)) (allCome (pair0 iss)))
  let P2 := allCome (P1.step 5 0)
  let P3 := allCome (P2.step 6 0)
  (P2, P3, ticks 8 P3)
theorem closes_plain (iss : Int) (hi : 0 ≤ iss ∧ iss < 4294967296) (a b : List Int) (ha : ∀ i ∈ a, 1 ≤ i ∧ i ≤ 8) (hb : ∀ i ∈ b, 1 ≤ i ∧ i ≤ 8) (hla : a.length ≤ 20) (hlb : b.length ≤ 20) :
    ((closeRun iss a b).1.f0.st = 5 ∧ ∃ T, (closeRun iss a b).1.f1 = some T ∧ T.st = 6) ∧ ((closeRun iss a b).2.1.f0.st = 9 ∧ ∃ T, (closeRun iss a b).2.1.f1 = some T ∧ T.st = 10) ∧ ((closeRun iss a b).2.2.f0.st = 10 ∧ (closeRun iss a b).2.2.c1 = (closeRun iss a b).2.2.s0 ∧ (closeRun iss a b).2.2.c0 = (closeRun iss a b).2.2.s1) := by
  obtain ⟨G0, h0⟩ := opens hi
  obtain ⟨G1, h1⟩ := send_all false a ha (by omega) h0
  obtain ⟨G2, h2⟩ := send_all true b hb (by omega) h1
  have h2 : Open2 (b.foldl (fun P i => allCome (P.step 4 i)) (a.foldl (fun P i => allCome (P.step 3 i)) (allCome (pair0 iss)))) iss G2 _ _ := h2
  obtain ⟨G3, h3⟩ := closes0 h2 (by omega)
  obtain ⟨G4, h4⟩ := closes1 h3 (by omega)
  have hw := (h4.iv.t0.w h4.s0).2
  obtain ⟨i5, s5⟩ := over_ticks 8 h4.iv h4.no h4.way (.inl ⟨h4.s0, h4.fut, (by simpa using hw)⟩) h4.T
  refine ⟨⟨h3.s0, h3.T⟩, ⟨h4.s0, h4.T⟩, s5, ?_⟩
  obtain ⟨T, hT, hTs⟩ := h4.T
  have e1 := ((h4.iv.d1 T hT).sx (by omega) (by omega)).1
  have e0 := (h4.iv.d0.sx (by rw [h4.s0]; omega) (by rw [h4.s0]; omega)).1
  have i5 : Iv (closeRun iss a b).2.2 iss G4 _ _ := i5
  rw [i5.x1, i5.y0, i5.x0, i5.y1, e1, e0, List.take_length, List.take_length]
  exact ⟨rfl, rfl⟩
end Go.Proofs.Ytjldgialhgfhmaa
