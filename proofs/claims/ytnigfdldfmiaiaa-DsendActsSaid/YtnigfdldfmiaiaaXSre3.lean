/- The document's sender: Take. -/
import Derived.Test.YtnigfdldfmiaiaaMe
namespace Go.Proofs.Ytnigfdldfmiaiaa
set_option linter.unusedVariables false
set_option linter.unusedSimpArgs false
open Go.ChangeShapes Go.WideShapes Go.ChangeAt Go.RowKit Go.Maps
set_option linter.unusedVariables false
set_option linter.unusedSimpArgs false
theorem size87 : (Try.prog.info? 87).map (·.size) = some 2 := by kernel_rfl
/-- What Take answers. -/
def RsTk (G : Nat → Prop) (x : Nat) (T : Sn) (L : Int → Bool) (most : Int) (w : World) (r : Ending) (w' : World) : Prop :=
  ∃ dsn n A' c' nx' L', r = .returned (.agg #[.int .i64 dsn, .slice A' n c']) ∧ RS layB w' A' c' ((T.buf.drop (dsn - T.una).toNat).take n) ∧ RsI G w' x { T with nx := nx' } L' ∧ Kept G w w' ∧ TakeP T L most dsn n nx' L' ∧ ∀ b o, A' = some ⟨b, o, none⟩ → w.heap.size ≤ b
theorem RsX.toI {G : Nat → Prop} {w : World} {x : Nat} {Ab : Option Addr} {cb : Nat} {Ai : Option Addr} {ci : Nat} {all : List Int} {LL L : Int → Bool} {na : Nat} {una nx ed : Int} {told done : Bool} {buf : List Int} {la : Int} (h : RsX G w x Ab cb Ai ci all (il LL na) una nx ed told done) (hna : all.length = na) (hlen : (na : Int) + 1 = la) (hla : una + (buf.length : Int) = la) (hbuf : buf = all.drop (una - 1).toNat) (hLL : ∀ m, una ≤ m → LL m = L m) (hL0 : ∀ m, (all.length : Int) < m → LL m = false) : RsI G w x ⟨una, nx, ed, buf, told, done⟩ L := by
  subst hna
  exact ⟨Ab, cb, Ai, ci, all, LL, h, by dsimp only; omega, hbuf, hLL, hL0⟩
theorem drop_buf {all buf : List Int} {una d : Int} {j : Nat} (h : buf = all.drop (una - 1).toNat) (h1 : 1 ≤ una) (h2 : una ≤ d) : (buf.drop (d - una).toNat).take j = (all.drop (d - 1).toNat).take j := by
  rw [h, List.drop_drop]
  congr 2
  omega
theorem take_snoc {all : List Int} {i j : Nat} (h : i + j < all.length) : (all.drop i).take (j + 1) = (all.drop i).take j ++ [all.getD (i + j) 0] := by
  rw [List.take_add_one, List.getElem?_drop]
  congr 1
  rw [List.getElem?_eq_getElem h]
  simp [List.getD, h]
theorem il_put {LL : Int → Bool} {na i : Nat} (h : i < na) (b : Bool) : (il LL na).set i b = il (fun m => if m = (i : Int) + 1 then b else LL m) na :=
  il_set LL _ na i b (by simp) (fun k hk hki => by rw [if_neg (by omega)])
/-- What holds while lost data are looked for: up to n, j of them from d on. -/
structure Lk (una nx mv n d : Int) (j : Nat) (LL LL1 : Int → Bool) : Prop where
  n1 : una ≤ n
  n2 : n ≤ nx
  jm : (j : Int) ≤ mv
  nil_ : j = 0 → d = 0 ∧ (∀ m, una ≤ m → m < n → LL m = false)
  run : 0 < j → d + j = n ∧ una ≤ d ∧ (∀ m, una ≤ m → m < d → LL m = false) ∧ (∀ m, d ≤ m → m < n → LL m = true)
  now : ∀ m, LL1 m = (LL m && !(decide (0 < j) && (decide (d ≤ m) && decide (m < n))))
section
variable {una nx mv n d : Int} {j : Nat} {LL LL1 : Int → Bool}
theorem Lk.here (h : Lk una nx mv n d j LL LL1) : LL1 n = LL n := by
  rw [h.now, decide_eq_false (show ¬ n < n by omega)]
  simp
theorem Lk.skip (h : Lk una nx mv n d j LL LL1) (hj : j = 0) (hn : n < nx) (hl : LL n = false) : Lk una nx mv (n + 1) d j LL LL1 := by
  obtain ⟨h1, h2, h3, h4, h5, h6⟩ := h
  refine ⟨by omega, by omega, h3, fun _ => ⟨(h4 hj).1, fun m a b => ?_⟩, fun h => by omega, fun m => ?_⟩
  · by_cases e : m = n
    · rw [e]; exact hl
    · exact (h4 hj).2 m a (by omega)
  · rw [h6, decide_eq_false (show ¬ 0 < j by omega)]
    simp
theorem Lk.take (h : Lk una nx mv n d j LL LL1) (hj : (j : Int) < mv) (hn : n < nx) (hl : LL n = true) : Lk una nx mv (n + 1) (if j = 0 then n else d) (j + 1) LL (fun m => if m = n then false else LL1 m) := by
  obtain ⟨h1, h2, h3, h4, h5, h6⟩ := h
  by_cases h0 : j = 0
  · subst h0
    rw [if_pos rfl]
    refine ⟨by omega, by omega, by omega, fun h => by omega, fun _ => ⟨by omega, h1, (h4 rfl).2, fun m a b => ?_⟩, fun m => ?_⟩
    · rw [show m = n by omega]; exact hl
    · rw [h6]
      by_cases e : m = n
      · rw [if_pos e, e]
        simp
        intro _
        omega
      · rw [if_neg e, Bool.eq_iff_iff]
        simp
        omega
  · obtain ⟨g1, g2, g3, g4⟩ := h5 (by omega)
    rw [if_neg h0]
    refine ⟨by omega, by omega, by omega, fun h => by omega, fun _ => ⟨by omega, g2, g3, fun m a b => ?_⟩, fun m => ?_⟩
    · by_cases e : m = n
      · rw [e]; exact hl
      · exact g4 m a (by omega)
    · rw [h6]
      by_cases e : m = n
      · rw [if_pos e, e, decide_eq_true (show d ≤ n by omega), decide_eq_true (show n < n + 1 by omega), decide_eq_true (show 0 < j + 1 by omega)]
        simp
      · rw [if_neg e, Bool.eq_iff_iff]
        simp
        omega
end
/-- Where some were lost: just these are taken. -/
theorem Lk.takeP {T : Sn} {L LL LL1 : Int → Bool} {K most mv n d : Int} {j : Nat} (h : Lk T.una T.nx mv n d j LL LL1) (hT : T.Ok L K) (hLL : ∀ m, T.una ≤ m → LL m = L m) (hm : mv = tkM most) (h0 : 0 < j) (he : (j : Int) = mv ∨ n = T.nx ∨ LL n = false) :
    TakeP T L most d j T.nx (fun m => L m && !(decide (d ≤ m) && decide (m < d + j))) := by
  obtain ⟨h1, h2, h3, h4, h5, h6⟩ := h
  obtain ⟨g1, g2, g3, g4⟩ := h5 h0
  refine .inl ⟨⟨d, ?_⟩, g2, by omega, h0, by omega, fun m hm => ?_, fun m a b => ?_, ?_, rfl, fun m => rfl⟩
  · rw [← hLL d g2]; exact g4 d (Int.le_refl _) (by omega)
  · cases e : L m with
    | false => rfl
    | true =>
      have := (hT.lost m e).1
      rw [← hLL m this, g3 m this hm] at e
      cases e
  · rw [← hLL m (by omega)]; exact g4 m a (by omega)
  · rcases he with he | he | he
    · exact .inl (by omega)
    · refine .inr ?_
      cases e : L (d + j) with
      | false => rfl
      | true => have := (hT.lost _ e).2; omega
    · refine .inr ?_
      rw [g1, ← hLL n h1]
      exact he
theorem rslast2 {G : Nat → Prop} {x : Nat} {T : Sn} {L : Int → Bool} {la : Int} (hla : T.una + T.buf.length = la) (hb : la ≤ 2147483648) (w : World) (h : RsI G w x T L) : Calls Try.prog 87 #[.pointer (some ⟨x, 0, none⟩)] w fun r w' => r = .returned (.int .i64 la) ∧ Fine w w' := by
  obtain ⟨Ab, cb, Ai, ci, all, LL, h1, h2, h3⟩ := h
  obtain ⟨n, hn⟩ : ∃ n, all.length = n := ⟨_, rfl⟩
  rw [hn] at h2
  have c0 : w.cell? ⟨x, 0, none⟩ = some (.slice Ab n cb) := by have := h1.box.cell 0; rw [hn] at this; exact this
  have e1 : IntKind.i64.wrap ((n : Int) + 1) = la := by
    rw [h2, hla]
    exact IntWalk.i64_in _ (by omega)
  clear h1 h2 h3 hn hla
  go_enter Try.func87, Try.ntmps87
  go_wp2_with fail
  go_ret
  exact ⟨rfl, Fine.refl w⟩
def len1At (w : World) (x : Nat) : Nat := match w.cell? ⟨x, 1, none⟩ with | some (.slice _ n _) => n | _ => 0
theorem len1At_eq {w : World} {x : Nat} {A : Option Addr} {n c : Nat} (h : w.cell? ⟨x, 1, none⟩ = some (.slice A n c)) : len1At w x = n := by
  unfold len1At
  rw [h]
set_option maxHeartbeats 8000000 in
set_option maxRecDepth 20000 in
theorem rstake_any {G : Nat → Prop} {x : Nat} {T : Sn} {L : Int → Bool} {K : Int} (most : Int) (hK : K ≤ 2147483648) (hT : T.Ok L K) (w : World) (h : RsI G w x T L) :
    Calls Try.prog 65 #[.pointer (some ⟨x, 0, none⟩), .int .i64 most] w (RsTk G x T L most w) := by
  obtain ⟨una, nx, ed, buf, told, done⟩ := T
  obtain ⟨x4, hx4⟩ : ∃ y, w.heap.size = y := ⟨_, rfl⟩
  have b4 := Blk.newAt (w := w) (t := 87) (cs := #[.int .i64 0, .slice none 0 0]) hx4.symm
  have f4 := (Fine.refl w).alloc (.cells #[.int .i64 0, .slice none 0 0] 87)
  have HGL := Lib.hid h.lt
  have hg4 : ¬ G x4 := fun hf => by have := h.lt _ hf; omega
  have HG4 := Lib.hid hg4; have HT := Lib.hid hT; have HX4 := Lib.hid hx4
  obtain ⟨o1, o2, o3, o4, o5, o6, o7, o8⟩ := hT
  dsimp only at o1 o2 o3 o4 o5 o6 o7 o8
  obtain ⟨nb, hnb⟩ : ∃ z, buf.length = z := ⟨_, rfl⟩
  obtain ⟨la, hla⟩ : ∃ z, una + (nb : Int) = z := ⟨_, rfl⟩
  rw [hnb] at o4 o5 o6
  rw [hla] at o4 o6
  have HNB := Lib.hid hnb; have HLA := Lib.hid hla
  have QLA : Hid (∀ w' nx', RsI G w' x ⟨una, nx', ed, buf, told, done⟩ L → Calls Try.prog 87 #[.pointer (some ⟨x, 0, none⟩)] w' fun r w'' => r = .returned (.int .i64 la) ∧ Fine w' w'') := Lib.hid (fun w' nx' h' => rslast2 (by show una + (buf.length : Int) = la; rw [hnb, hla]) (by omega) w' h')
  obtain ⟨Ab, cb, Ai, ci, all, LL, hX, hlen, hbuf, hLL, hL0⟩ := h
  dsimp only at hX hlen hbuf hLL
  obtain ⟨na, hna⟩ : ∃ z, all.length = z := ⟨_, rfl⟩
  rw [hna] at hX hlen hL0
  rw [hnb, hla] at hlen
  have HX := Lib.hid hX; have HLEN := Lib.hid hlen; have HBUF := Lib.hid hbuf; have HLL := Lib.hid hLL; have HL0 := Lib.hid hL0; have HNA := Lib.hid hna
  obtain ⟨m1, hm1⟩ : ∃ z, max most 1 = z := ⟨_, rfl⟩
  obtain ⟨mv, hmv⟩ : ∃ z, min m1 8 = z := ⟨_, rfl⟩
  have HMV : Hid (mv = tkM most) := Lib.hid (by unfold tkM; omega)
  have HM1 := Lib.hid hm1; have HMV1 := Lib.hid hmv
  have hmvb : 1 ≤ mv ∧ mv ≤ 8 := by omega
  have hnab : na ≤ 2147483648 := by omega
  have hubs : (na : Int) + 1 = la := hlen
  have HUB := Lib.hid hubs
  clear hX hlen hbuf hLL hL0 hna hm1 hmv hnb hla o5 o8 hg4 hubs
  go_enter Try.func65, Try.ntmps65
  go_upto_region 1 with fail
  generalize w.alloc (.cells #[.int .i64 0, .slice none 0 0] 87) = w1 at b4 f4 ⊢
  have F1 := Lib.hid f4; have B1 := Lib.hid b4
  have sz1 : w.heap.size ≤ w1.heap.size := f4.size
  have hx41 : x4 < w1.heap.size := b4.lt
  clear f4 b4 hx4
  go_upto_if 8 with fail
  go_cut [1] (fun s1 wx => s1 = .int .i64 m1 ∧ wx = w1)
  case first =>
    by_cases hq : most < 1
    · have hqb : decide (most < 1) = true := decide_eq_true hq
      have e : (1 : Int) = m1 := by have := HM1.out; omega
      have HE := Lib.hid e
      clear e
      go_wp2_with fail
      go_meet
      exact ⟨by rw [HE.out], rfl⟩
    · have hqb : decide (most < 1) = false := decide_eq_false hq
      have e : most = m1 := by have := HM1.out; omega
      have HE := Lib.hid e
      clear e
      go_wp2_with fail
      go_meet
      exact ⟨by rw [HE.out], rfl⟩
  case rest =>
  obtain ⟨rfl, hwc⟩ := hcut
  have hwc := hwc.symm
  subst hwc
  go_upto_if 10 with fail
  go_cut [1] (fun s1 wx => s1 = .int .i64 mv ∧ wx = w1)
  case first =>
    by_cases hq : 8 < m1
    · have hqb : decide (8 < m1) = true := decide_eq_true hq
      have e : (8 : Int) = mv := by have := HMV1.out; omega
      have HE := Lib.hid e
      clear e
      go_wp2_with fail
      go_meet
      exact ⟨by rw [HE.out], rfl⟩
    · have hqb : decide (8 < m1) = false := decide_eq_false hq
      have e : m1 = mv := by have := HMV1.out; omega
      have HE := Lib.hid e
      clear e
      go_wp2_with fail
      go_meet
      exact ⟨by rw [HE.out], rfl⟩
  case rest =>
  obtain ⟨rfl, hwc⟩ := hcut
  have hwc := hwc.symm
  subst hwc
  obtain ⟨x5, hx5⟩ : ∃ y, w1.heap.size = y := ⟨_, rfl⟩
  have b5 := Blk.newAt (w := w1) (t := 87) (cs := #[.int .i64 0, .slice none 0 0]) hx5.symm
  have f5 := (Fine.refl w1).alloc (.cells #[.int .i64 0, .slice none 0 0] 87)
  go_upto_region 6 with fail
  generalize w1.alloc (.cells #[.int .i64 0, .slice none 0 0] 87) = w2 at b5 f5 ⊢
  have F2 := Lib.hid (F1.out.trans f5); have B52 := Lib.hid b5; have B42 := Lib.hid (B1.out.fine f5); have HX5 : Hid (w.heap.size ≤ x5) := Lib.hid (by omega)
  have HX45 : Hid (x4 < x5) := Lib.hid (by omega)
  have HG5 : Hid (¬ G x5) := Lib.hid (fun hf => by have := HGL.out _ hf; omega)
  have X2 := Lib.hid (HX.out.fine F2.out)
  have c2 : w2.cell? ⟨x, 2, none⟩ = some (.int .i64 una) := X2.out.box.cell 2
  clear f5 b5 hx5 hx41 sz1 B1 F1
  go_wp2_with fail
  clear c2
  go_loopw [6] (fun s6 wr => ∃ n : Int, s6 = .int .i64 n ∧ (una ≤ n ∧ n ≤ nx) ∧ Hid (∃ j A c d LL1, Lk una nx mv n d j LL LL1 ∧ Blk wr x5 87 #[.int .i64 d, .slice A j c] ∧ Own layB 5 wr w.heap.size (.slice A j c) ((all.drop (d - 1).toNat).take j) ∧ RsX G wr x Ab cb Ai ci all (il LL1 na) una nx ed told done ∧ Kept G w wr ∧ Blk wr x4 87 #[.int .i64 0, .slice none 0 0])) (fun s6 _ => (nx - intOf s6).toNat)
  case atStart => exact ⟨una, rfl, by omega, Lib.hid ⟨0, none, 0, 0, LL, ⟨Int.le_refl _, o2, by omega, fun _ => ⟨rfl, fun m a b => by omega⟩, fun h => by omega, fun m => by simp⟩, B52.out, by rw [List.take_zero]; exact Own.nil_ _ _ _ _, X2.out, Kept.of_fine F2.out, B42.out⟩⟩
  case round =>
    obtain ⟨n, rfl, hnb, HJ⟩ := hrel
    obtain ⟨j, A, c, d, LL1, j1, j2, j3, j4, j5, j6⟩ := HJ.out
    have HLK := Lib.hid j1; have J2 := Lib.hid j2; have J3 := Lib.hid j3; have J4 := Lib.hid j4; have J5 := Lib.hid j5; have J6 := Lib.hid j6
    have hjm := j1.jm
    obtain ⟨i, hi⟩ : ∃ i : Nat, (i : Int) + 1 = n := ⟨(n - 1).toNat, by omega⟩
    have HI := Lib.hid hi
    have d0 : wr.cell? ⟨x5, 0, none⟩ = some (.int .i64 d) := j2.cell 0
    have d1 : wr.cell? ⟨x5, 1, none⟩ = some (.slice A j c) := j2.cell 1
    have c3 : wr.cell? ⟨x, 3, none⟩ = some (.int .i64 nx) := j4.box.cell 3
    clear j1 j2 j3 j4 j5 j6 HJ X2 B52 B42
    have key : ∀ Q : Prop, (nx ≤ n → Q) → (n < nx → mv ≤ (j : Int) → Q) → (n < nx → (j : Int) < mv → Q) → Q := fun Q a b e => by
      by_cases h1 : n < nx
      · by_cases h2 : (j : Int) < mv
        · exact e h1 h2
        · exact b h1 (by omega)
      · exact a (by omega)
    have KEY := Lib.hid key
    clear key
    refine KEY.out _ (fun h1 => ?_) (fun h1 h2 => ?_) (fun h1 h2 => ?_)
    · have g1 : decide (n < nx) = false := decide_eq_false (by omega)
      have HEND : Hid (0 < j → (j : Int) = mv ∨ n = nx ∨ LL n = false) := Lib.hid (fun _ => .inr (.inl (by omega)))
      clear KEY
      by_cases h0 : j = 0
      · subst h0
        obtain ⟨hd0, hnone⟩ := HLK.out.nil_ rfl
        subst hd0
        have HNO : Hid (∀ m, L m = false) := Lib.hid (fun m => by
          cases e : L m with
          | false => rfl
          | true =>
            have h8 : una ≤ m ∧ m < nx := HT.out.lost m e
            rw [← HLL.out m h8.1, hnone m h8.1 (by omega)] at e
            cases e)
        have HL1 : Hid (∀ m, LL1 m = LL m) := Lib.hid (fun m => by rw [HLK.out.now]; simp)
        obtain ⟨mm, hmm⟩ : ∃ k : Nat, (k : Int) = max 0 (min (min (la - nx) (ed - nx)) mv) := ⟨(max 0 (min (min (la - nx) (ed - nx)) mv)).toNat, by omega⟩
        have HMM := Lib.hid hmm
        have hmmb : mm ≤ 8 := by omega
        have N2 := J2; have N3 := J3; have N4 := J4; have N5 := J5; have N6 := J6
        clear hnone hmm J2 J3 J4 J5 J6 HEND
        go_wp2_with fail
        clear d0 d1
        go_loopw [] (fun wq => Hid (∃ (j : Nat) (A : Option Addr) (c : Nat), j ≤ mm ∧ Blk wq x5 87 #[.int .i64 (if j = 0 then 0 else nx), .slice A j c] ∧ Own layB 5 wq w.heap.size (.slice A j c) ((all.drop (nx - 1).toNat).take j) ∧ RsX G wq x Ab cb Ai ci all (il LL1 na) una (nx + (j : Int)) ed told done ∧ Kept G w wq ∧ Blk wq x4 87 #[.int .i64 0, .slice none 0 0])) (fun wq => mm - len1At wq x5)
        case atStart => exact Lib.hid ⟨0, A, c, Nat.zero_le _, N2.out, by have := N3.out; rw [List.take_zero] at this ⊢; exact this, by simpa using N4.out, N5.out, N6.out⟩
        case round =>
          obtain ⟨j, A, c, hjmm, j2, j3, j4, j5, j6⟩ := hrel.out
          obtain ⟨d, hd⟩ : ∃ z, (if j = 0 then 0 else nx) = z := ⟨_, rfl⟩
          obtain ⟨nj, hnj⟩ : ∃ z, nx + (j : Int) = z := ⟨_, rfl⟩
          rw [hd] at j2
          rw [hnj] at j4
          have J2 := Lib.hid j2; have J3 := Lib.hid j3; have J4 := Lib.hid j4; have J5 := Lib.hid j5; have J6 := Lib.hid j6
          have HD := Lib.hid hd; have HNJ := Lib.hid hnj
          have HLEN1 := Lib.hid (len1At_eq (j2.cell 1))
          have hnjb : 1 ≤ nj ∧ nj ≤ 2147483700 := by omega
          have HRI : Hid (∀ w', Fine wr w' → RsI G w' x ⟨una, nj, ed, buf, told, done⟩ L) := Lib.hid (fun w' f => ⟨Ab, cb, Ai, ci, all, LL1, by have := J4.out.fine f; rw [← HNA.out] at this; exact this, by have h1 := HLEN.out; have h2 := HNA.out; have h3 := HLA.out; have h4 := HNB.out; dsimp only; omega, HBUF.out, fun m hm => by rw [HL1.out]; exact HLL.out m hm, fun m hm => by rw [HL1.out]; exact HL0.out m (by rw [← HNA.out]; exact hm)⟩)
          have q1 : ∀ p : FineBy wr, p.W.cell? ⟨x5, 1, none⟩ = some (.slice A j c) := fun p => (J2.out.fine p.h).cell 1
          have q3 : ∀ p : FineBy wr, p.W.cell? ⟨x, 3, none⟩ = some (.int .i64 nj) := fun p => (J4.out.box.fine p.h).cell 3
          have q4 : ∀ p : FineBy wr, p.W.cell? ⟨x, 4, none⟩ = some (.int .i64 ed) := fun p => (J4.out.box.fine p.h).cell 4
          have QL : Hid (∀ p : FineBy wr, Calls Try.prog 87 #[.pointer (some ⟨x, 0, none⟩)] p.W fun r w'' => r = .returned (.int .i64 la) ∧ Fine p.W w'') := Lib.hid (fun p => QLA.out p.W nj (HRI.out p.W p.h))
          clear j2 j3 j4 j5 j6 hrel hd N2 N3 N4 N5 N6
          have key : ∀ Q : Prop, (mv ≤ (j : Int) → Q) → ((j : Int) < mv → la ≤ nj → Q) → ((j : Int) < mv → nj < la → ed ≤ nj → Q) → ((j : Int) < mv → nj < la → nj < ed → Q) → Q := fun Q a b e f => by
            by_cases h1 : (j : Int) < mv
            · by_cases h2 : nj < la
              · by_cases h3 : nj < ed
                · exact f h1 h2 h3
                · exact e h1 h2 (by omega)
              · exact b h1 (by omega)
            · exact a (by omega)
          have KEY := Lib.hid key
          clear key hnj
          refine KEY.out _ (fun h1 => ?_) (fun h1 h2 => ?_) (fun h1 h2 h3 => ?_) (fun h1 h2 h3 => ?_)
          · have g0 : ¬ (j : Int) < mv := by omega
            have g1 : decide ((j : Int) < mv) = false := decide_eq_false g0
            clear KEY
            have HJE : Hid (j = mm) := Lib.hid (by have := HMM.out; have := HNJ.out; omega)
            go_upto_region 18 with fail
            refine wp_region_quiet_fine (by kernel_rfl) (by kernel_rfl) ?_
            repeat (go_big_quiet_step (exact Calls.fine_of (QL.out _)))
            refine wpQuiet_nil ?_
            intro wf hwf'
            have hwf := FineBy.of hwf'
            have O2 := Lib.hid (J2.out.fine hwf); have O3 := Lib.hid (J3.out.fine hwf); have O4 := Lib.hid (J4.out.fine hwf); have O5 := Lib.hid (J5.out.trans (Kept.of_fine hwf)); have O6 := Lib.hid (J6.out.fine hwf)
            clear hwf' hwf q1 q3 q4 QL J2 J3 J4 J5 J6 HRI
            have J2 := O2; have J3 := O3; have J4 := O4; have J5 := O5; have J6 := O6
            clear O2 O3 O4 O5 O6
            obtain ⟨w2, hw2⟩ : ∃ z, z = wf := ⟨_, rfl⟩
            have B5 := J2; have B4 := J6; have OW := J3; have KW := J5; have XW := J4
            obtain ⟨nx9, hnx9⟩ : ∃ z, z = nj := ⟨_, rfl⟩
            obtain ⟨Ab9, hab9⟩ : ∃ z, z = Ab := ⟨_, rfl⟩
            rw [← hnx9, ← hab9] at XW
            obtain ⟨L9, hL9⟩ : ∃ z : Int → Bool, z = (fun _ => false) := ⟨_, rfl⟩
            have HBY : Hid ((buf.drop (d - una).toNat).take j = (all.drop (nx - 1).toNat).take j) := Lib.hid (by
              by_cases h0 : j = 0
              · rw [h0, List.take_zero, List.take_zero]
              · have := HD.out
                rw [if_neg h0] at this
                rw [← this]
                exact drop_buf HBUF.out o1 o2)
            have HTP : Hid (TakeP ⟨una, nx, ed, buf, told, done⟩ L most d j nx9 L9) := Lib.hid (by
              rw [hnx9, hL9]
              have h1 := HMM.out; have h2 := HJE.out; have h3 := HLA.out; have h4 := HNB.out; have h5 := HMV.out
              refine .inr ⟨HNO.out, fun _ => rfl, ?_, HNJ.out.symm, HD.out.symm⟩
              dsimp only
              rw [← h5, h4, h3, h2]
              exact h1)
            have HLL9 : Hid (∀ m, una ≤ m → LL1 m = L9 m) := Lib.hid (fun m hm => by rw [hL9, HL1.out, HLL.out m hm, HNO.out])
            have HL09 : Hid (∀ m, (all.length : Int) < m → LL1 m = false) := Lib.hid (fun m hm => by rw [HL1.out, HL0.out m (by rw [← HNA.out]; exact hm)])
            clear hnx9 hab9 hL9 J2 J3 J4 J5 J6
            subst hw2
            have c50 : w2.cell? ⟨x5, 0, none⟩ = some (.int .i64 d) := B5.out.cell 0
            have c51 : w2.cell? ⟨x5, 1, none⟩ = some (.slice A j c) := B5.out.cell 1
            have c40 : w2.cell? ⟨x4, 0, none⟩ = some (.int .i64 0) := B4.out.cell 0
            have c41 : w2.cell? ⟨x4, 1, none⟩ = some (.slice none 0 0) := B4.out.cell 1
            have z40 := B4.out.frozen 0
            have z41 := B4.out.frozen 1
            have HFIN : Hid (Blk ((w2.setCell ⟨x4, 0, none⟩ (.int .i64 d)).setCell ⟨x4, 1, none⟩ (.slice A j c)) x4 87 #[.int .i64 d, .slice A j c] ∧ RsTk G x ⟨una, nx, ed, buf, told, done⟩ L most w (.returned (.agg #[.int .i64 d, .slice A j c])) ((w2.setCell ⟨x4, 0, none⟩ (.int .i64 d)).setCell ⟨x4, 1, none⟩ (.slice A j c))) := Lib.hid (by
              have R4 : Blk ((w2.setCell ⟨x4, 0, none⟩ (.int .i64 d)).setCell ⟨x4, 1, none⟩ (.slice A j c)) x4 87 #[.int .i64 d, .slice A j c] := (B4.out.set_ 0 (.int .i64 d)).set_ 1 (.slice A j c)
              have kk : Kept (· = x4) w2 ((w2.setCell ⟨x4, 0, none⟩ (.int .i64 d)).setCell ⟨x4, 1, none⟩ (.slice A j c)) := ((Kept.refl (· = x4) w2).setIn (p := ⟨x4, 0, none⟩) rfl _).setIn (p := ⟨x4, 1, none⟩) rfl _
              have hR := (OW.out.kept kk (fun y hy e => OW.out.ne_blk hy B4.out (by decide) e))
              refine ⟨R4, d, j, A, c, nx9, L9, rfl, ?_, ?_, KW.out.transG kk (fun _ _ h => h) (fun q hq e => by have := HX4.out; have e : q = x4 := e; omega), HTP.out, fun b o e => (hR.from_ b o e).1⟩
              · rw [HBY.out]
                exact hR.rs.1
              · exact (XW.out.kept kk (fun y hy e => HG4.out (e ▸ hy))).toI HNA.out HLEN.out (by rw [HNB.out, HLA.out]) HBUF.out HLL9.out HL09.out)
            go_wp2_with fail
            exact bodyPost_ret (results_cell_row rfl _ _ x4 87 _ (0, 0) _ rfl HFIN.out.1 Try.underlying87 rfl size87) rfl HFIN.out.2
          · have g1 : decide ((j : Int) < mv) = true := decide_eq_true h1
            have g0 : ¬ nj < la := by omega
            have g2 : decide (nj < la) = false := decide_eq_false g0
            clear KEY
            have HJE : Hid (j = mm) := Lib.hid (by have := HMM.out; have := HNJ.out; omega)
            go_upto_region 18 with fail
            refine wp_region_quiet_fine (by kernel_rfl) (by kernel_rfl) ?_
            repeat (go_big_quiet_step (exact Calls.fine_of (QL.out _)))
            refine wpQuiet_nil ?_
            intro wf hwf'
            have hwf := FineBy.of hwf'
            have O2 := Lib.hid (J2.out.fine hwf); have O3 := Lib.hid (J3.out.fine hwf); have O4 := Lib.hid (J4.out.fine hwf); have O5 := Lib.hid (J5.out.trans (Kept.of_fine hwf)); have O6 := Lib.hid (J6.out.fine hwf)
            clear hwf' hwf q1 q3 q4 QL J2 J3 J4 J5 J6 HRI
            have J2 := O2; have J3 := O3; have J4 := O4; have J5 := O5; have J6 := O6
            clear O2 O3 O4 O5 O6
            obtain ⟨w2, hw2⟩ : ∃ z, z = wf := ⟨_, rfl⟩
            have B5 := J2; have B4 := J6; have OW := J3; have KW := J5; have XW := J4
            obtain ⟨nx9, hnx9⟩ : ∃ z, z = nj := ⟨_, rfl⟩
            obtain ⟨Ab9, hab9⟩ : ∃ z, z = Ab := ⟨_, rfl⟩
            rw [← hnx9, ← hab9] at XW
            obtain ⟨L9, hL9⟩ : ∃ z : Int → Bool, z = (fun _ => false) := ⟨_, rfl⟩
            have HBY : Hid ((buf.drop (d - una).toNat).take j = (all.drop (nx - 1).toNat).take j) := Lib.hid (by
              by_cases h0 : j = 0
              · rw [h0, List.take_zero, List.take_zero]
              · have := HD.out
                rw [if_neg h0] at this
                rw [← this]
                exact drop_buf HBUF.out o1 o2)
            have HTP : Hid (TakeP ⟨una, nx, ed, buf, told, done⟩ L most d j nx9 L9) := Lib.hid (by
              rw [hnx9, hL9]
              have h1 := HMM.out; have h2 := HJE.out; have h3 := HLA.out; have h4 := HNB.out; have h5 := HMV.out
              refine .inr ⟨HNO.out, fun _ => rfl, ?_, HNJ.out.symm, HD.out.symm⟩
              dsimp only
              rw [← h5, h4, h3, h2]
              exact h1)
            have HLL9 : Hid (∀ m, una ≤ m → LL1 m = L9 m) := Lib.hid (fun m hm => by rw [hL9, HL1.out, HLL.out m hm, HNO.out])
            have HL09 : Hid (∀ m, (all.length : Int) < m → LL1 m = false) := Lib.hid (fun m hm => by rw [HL1.out, HL0.out m (by rw [← HNA.out]; exact hm)])
            clear hnx9 hab9 hL9 J2 J3 J4 J5 J6
            subst hw2
            have c50 : w2.cell? ⟨x5, 0, none⟩ = some (.int .i64 d) := B5.out.cell 0
            have c51 : w2.cell? ⟨x5, 1, none⟩ = some (.slice A j c) := B5.out.cell 1
            have c40 : w2.cell? ⟨x4, 0, none⟩ = some (.int .i64 0) := B4.out.cell 0
            have c41 : w2.cell? ⟨x4, 1, none⟩ = some (.slice none 0 0) := B4.out.cell 1
            have z40 := B4.out.frozen 0
            have z41 := B4.out.frozen 1
            have HFIN : Hid (Blk ((w2.setCell ⟨x4, 0, none⟩ (.int .i64 d)).setCell ⟨x4, 1, none⟩ (.slice A j c)) x4 87 #[.int .i64 d, .slice A j c] ∧ RsTk G x ⟨una, nx, ed, buf, told, done⟩ L most w (.returned (.agg #[.int .i64 d, .slice A j c])) ((w2.setCell ⟨x4, 0, none⟩ (.int .i64 d)).setCell ⟨x4, 1, none⟩ (.slice A j c))) := Lib.hid (by
              have R4 : Blk ((w2.setCell ⟨x4, 0, none⟩ (.int .i64 d)).setCell ⟨x4, 1, none⟩ (.slice A j c)) x4 87 #[.int .i64 d, .slice A j c] := (B4.out.set_ 0 (.int .i64 d)).set_ 1 (.slice A j c)
              have kk : Kept (· = x4) w2 ((w2.setCell ⟨x4, 0, none⟩ (.int .i64 d)).setCell ⟨x4, 1, none⟩ (.slice A j c)) := ((Kept.refl (· = x4) w2).setIn (p := ⟨x4, 0, none⟩) rfl _).setIn (p := ⟨x4, 1, none⟩) rfl _
              have hR := (OW.out.kept kk (fun y hy e => OW.out.ne_blk hy B4.out (by decide) e))
              refine ⟨R4, d, j, A, c, nx9, L9, rfl, ?_, ?_, KW.out.transG kk (fun _ _ h => h) (fun q hq e => by have := HX4.out; have e : q = x4 := e; omega), HTP.out, fun b o e => (hR.from_ b o e).1⟩
              · rw [HBY.out]
                exact hR.rs.1
              · exact (XW.out.kept kk (fun y hy e => HG4.out (e ▸ hy))).toI HNA.out HLEN.out (by rw [HNB.out, HLA.out]) HBUF.out HLL9.out HL09.out)
            go_wp2_with fail
            exact bodyPost_ret (results_cell_row rfl _ _ x4 87 _ (0, 0) _ rfl HFIN.out.1 Try.underlying87 rfl size87) rfl HFIN.out.2
          · have g1 : decide ((j : Int) < mv) = true := decide_eq_true h1
            have g2 : decide (nj < la) = true := decide_eq_true h2
            have g0 : ¬ nj < ed := by omega
            have g3 : decide (nj < ed) = false := decide_eq_false g0
            clear KEY
            have HJE : Hid (j = mm) := Lib.hid (by have := HMM.out; have := HNJ.out; omega)
            go_upto_region 18 with fail
            refine wp_region_quiet_fine (by kernel_rfl) (by kernel_rfl) ?_
            repeat (go_big_quiet_step (exact Calls.fine_of (QL.out _)))
            refine wpQuiet_nil ?_
            intro wf hwf'
            have hwf := FineBy.of hwf'
            have O2 := Lib.hid (J2.out.fine hwf); have O3 := Lib.hid (J3.out.fine hwf); have O4 := Lib.hid (J4.out.fine hwf); have O5 := Lib.hid (J5.out.trans (Kept.of_fine hwf)); have O6 := Lib.hid (J6.out.fine hwf)
            clear hwf' hwf q1 q3 q4 QL J2 J3 J4 J5 J6 HRI
            have J2 := O2; have J3 := O3; have J4 := O4; have J5 := O5; have J6 := O6
            clear O2 O3 O4 O5 O6
            obtain ⟨w2, hw2⟩ : ∃ z, z = wf := ⟨_, rfl⟩
            have B5 := J2; have B4 := J6; have OW := J3; have KW := J5; have XW := J4
            obtain ⟨nx9, hnx9⟩ : ∃ z, z = nj := ⟨_, rfl⟩
            obtain ⟨Ab9, hab9⟩ : ∃ z, z = Ab := ⟨_, rfl⟩
            rw [← hnx9, ← hab9] at XW
            obtain ⟨L9, hL9⟩ : ∃ z : Int → Bool, z = (fun _ => false) := ⟨_, rfl⟩
            have HBY : Hid ((buf.drop (d - una).toNat).take j = (all.drop (nx - 1).toNat).take j) := Lib.hid (by
              by_cases h0 : j = 0
              · rw [h0, List.take_zero, List.take_zero]
              · have := HD.out
                rw [if_neg h0] at this
                rw [← this]
                exact drop_buf HBUF.out o1 o2)
            have HTP : Hid (TakeP ⟨una, nx, ed, buf, told, done⟩ L most d j nx9 L9) := Lib.hid (by
              rw [hnx9, hL9]
              have h1 := HMM.out; have h2 := HJE.out; have h3 := HLA.out; have h4 := HNB.out; have h5 := HMV.out
              refine .inr ⟨HNO.out, fun _ => rfl, ?_, HNJ.out.symm, HD.out.symm⟩
              dsimp only
              rw [← h5, h4, h3, h2]
              exact h1)
            have HLL9 : Hid (∀ m, una ≤ m → LL1 m = L9 m) := Lib.hid (fun m hm => by rw [hL9, HL1.out, HLL.out m hm, HNO.out])
            have HL09 : Hid (∀ m, (all.length : Int) < m → LL1 m = false) := Lib.hid (fun m hm => by rw [HL1.out, HL0.out m (by rw [← HNA.out]; exact hm)])
            clear hnx9 hab9 hL9 J2 J3 J4 J5 J6
            subst hw2
            have c50 : w2.cell? ⟨x5, 0, none⟩ = some (.int .i64 d) := B5.out.cell 0
            have c51 : w2.cell? ⟨x5, 1, none⟩ = some (.slice A j c) := B5.out.cell 1
            have c40 : w2.cell? ⟨x4, 0, none⟩ = some (.int .i64 0) := B4.out.cell 0
            have c41 : w2.cell? ⟨x4, 1, none⟩ = some (.slice none 0 0) := B4.out.cell 1
            have z40 := B4.out.frozen 0
            have z41 := B4.out.frozen 1
            have HFIN : Hid (Blk ((w2.setCell ⟨x4, 0, none⟩ (.int .i64 d)).setCell ⟨x4, 1, none⟩ (.slice A j c)) x4 87 #[.int .i64 d, .slice A j c] ∧ RsTk G x ⟨una, nx, ed, buf, told, done⟩ L most w (.returned (.agg #[.int .i64 d, .slice A j c])) ((w2.setCell ⟨x4, 0, none⟩ (.int .i64 d)).setCell ⟨x4, 1, none⟩ (.slice A j c))) := Lib.hid (by
              have R4 : Blk ((w2.setCell ⟨x4, 0, none⟩ (.int .i64 d)).setCell ⟨x4, 1, none⟩ (.slice A j c)) x4 87 #[.int .i64 d, .slice A j c] := (B4.out.set_ 0 (.int .i64 d)).set_ 1 (.slice A j c)
              have kk : Kept (· = x4) w2 ((w2.setCell ⟨x4, 0, none⟩ (.int .i64 d)).setCell ⟨x4, 1, none⟩ (.slice A j c)) := ((Kept.refl (· = x4) w2).setIn (p := ⟨x4, 0, none⟩) rfl _).setIn (p := ⟨x4, 1, none⟩) rfl _
              have hR := (OW.out.kept kk (fun y hy e => OW.out.ne_blk hy B4.out (by decide) e))
              refine ⟨R4, d, j, A, c, nx9, L9, rfl, ?_, ?_, KW.out.transG kk (fun _ _ h => h) (fun q hq e => by have := HX4.out; have e : q = x4 := e; omega), HTP.out, fun b o e => (hR.from_ b o e).1⟩
              · rw [HBY.out]
                exact hR.rs.1
              · exact (XW.out.kept kk (fun y hy e => HG4.out (e ▸ hy))).toI HNA.out HLEN.out (by rw [HNB.out, HLA.out]) HBUF.out HLL9.out HL09.out)
            go_wp2_with fail
            exact bodyPost_ret (results_cell_row rfl _ _ x4 87 _ (0, 0) _ rfl HFIN.out.1 Try.underlying87 rfl size87) rfl HFIN.out.2
          · have g1 : decide ((j : Int) < mv) = true := decide_eq_true h1
            have g2 : decide (nj < la) = true := decide_eq_true h2
            have g3 : decide (nj < ed) = true := decide_eq_true h3
            clear KEY
            go_upto_region 18 with fail
            refine wp_region_quiet_fine (by kernel_rfl) (by kernel_rfl) ?_
            repeat (go_big_quiet_step (exact Calls.fine_of (QL.out _)))
            refine wpQuiet_nil ?_
            intro wf hwf'
            have hwf := FineBy.of hwf'
            have O2 := Lib.hid (J2.out.fine hwf); have O3 := Lib.hid (J3.out.fine hwf); have O4 := Lib.hid (J4.out.fine hwf); have O5 := Lib.hid (J5.out.trans (Kept.of_fine hwf)); have O6 := Lib.hid (J6.out.fine hwf)
            clear hwf' hwf q1 q3 q4 QL J2 J3 J4 J5 J6 HRI
            have J2 := O2; have J3 := O3; have J4 := O4; have J5 := O5; have J6 := O6
            clear O2 O3 O4 O5 O6
            have hw5 : w.heap.size ≤ wf.heap.size := J5.out.size
            obtain ⟨i, hi⟩ : ∃ i : Nat, (i : Int) + 1 = nj := ⟨(nj - 1).toNat, by omega⟩
            have HI := Lib.hid hi
            have hina : i < na := by have := HUB.out; omega
            have ei : IntKind.i64.wrap (nj - 1) = (i : Int) := by rw [show nj - 1 = (i : Int) by omega]; exact IntWalk.i64_in _ (by omega)
            obtain ⟨gb, hgb, _, _⟩ := J4.out.ob.head (by rw [HNA.out]; omega)
            subst hgb
            obtain ⟨y, hy⟩ : ∃ y, all.getD i 0 = y := ⟨_, rfl⟩
            have HYY := Lib.hid hy
            have hby : ∀ w', RsX G w' x (some ⟨gb, 0, none⟩) cb Ai ci all (il LL1 na) una nj ed told done → w'.cell? ⟨gb, i, none⟩ = some (.int .u8 y) := fun w' h => by
              obtain ⟨b', o', e', _, hc⟩ := h.ob.rs.1.atI (i := i) (by rw [HNA.out]; exact hina)
              injection e' with e'
              injection e' with e1 e2
              subst e1 e2
              rw [hy, Nat.zero_add] at hc
              exact hc
            have HBY' := Lib.hid hby
            obtain ⟨lb, hlb⟩ : ∃ z, (all.drop (nx - 1).toNat).take j = z := ⟨_, rfl⟩
            rw [hlb] at J3
            have HLB : Hid (lb.length = j) := Lib.hid (J3.out.rs.2.symm)
            have HEL : Hid ((lb ++ [y]).length = j + 1) := Lib.hid (by rw [List.length_append, HLB.out]; rfl)
            have FITS : Hid (lb ++ [y] = (all.drop (nx - 1).toNat).take (j + 1)) := Lib.hid (by
              have h1 := HNJ.out
              have h2 : (nx - 1).toNat + j = i := by omega
              rw [take_snoc (by rw [h2, HNA.out]; exact hina), h2, HYY.out, hlb])
            have hj8 : j ≤ 8 := by omega
            have hjn : j < mm := by have := HMM.out; have := HNJ.out; omega
            have c3 : wf.cell? ⟨x, 3, none⟩ = some (.int .i64 nj) := J4.out.box.cell 3
            have d1 : wf.cell? ⟨x5, 1, none⟩ = some (.slice A j c) := J2.out.cell 1
            have d0 : wf.cell? ⟨x5, 0, none⟩ = some (.int .i64 d) := J2.out.cell 0
            have z0 := J2.out.frozen 0
            clear hy hby hlb hi
            by_cases h0 : j = 0
            · have q0 : ((j : Int) == 0) = true := by simp; omega
              have HNX : Hid (nj = nx) := Lib.hid (by have := HNJ.out; omega)
              have kx : Kept (· = x5) wf (wf.setCell ⟨x5, 0, none⟩ (.int .i64 nj)) := (Kept.refl (· = x5) wf).setIn (p := ⟨x5, 0, none⟩) rfl _
              have M2 : Hid (Blk (wf.setCell ⟨x5, 0, none⟩ (.int .i64 nj)) x5 87 #[.int .i64 nx, .slice A j c]) := Lib.hid (by have := J2.out.set_ 0 (.int .i64 nj); rw [← HNX.out]; exact this)
              have M3 := Lib.hid (J3.out.kept kx (fun q hq e => J3.out.ne_blk hq J2.out (by decide) e))
              have M4 := Lib.hid (J4.out.kept kx (fun q hq e => HG5.out (by have e : q = x5 := e; exact e ▸ hq)))
              have M5 : Hid (Kept G w (wf.setCell ⟨x5, 0, none⟩ (.int .i64 nj))) := Lib.hid (J5.out.setCell (p := ⟨x5, 0, none⟩) (fun hh => by have hh : x5 < w.heap.size := hh; have := HX5.out; omega) _)
              have M6 := Lib.hid (J6.out.kept kx (fun e => by have e : x4 = x5 := e; have := HX45.out; omega))
              clear kx
              go_upto_region 21 with fail
              clear z0 d0 d1 c3 J2 J3 J4 J5 J6 h0 q0 hw5
              generalize wf.setCell ⟨x5, 0, none⟩ (.int .i64 nj) = w6 at M2 M3 M4 M5 M6 ⊢
              have J2 := M2; have J3 := M3; have J4 := M4; have J5 := M5; have J6 := M6
              obtain ⟨wr, hwr9⟩ : ∃ z, z = w6 := ⟨_, rfl⟩
              subst hwr9
              clear M2 M3 M4 M5 M6
              have J2d := Lib.hid (J2.out.drew); have J3d := Lib.hid (J3.out.fine (Fine.refl wr).drew); have J4d := Lib.hid (J4.out.fine (Fine.refl wr).drew); have J5d := Lib.hid J5.out.drew; have J6d := Lib.hid J6.out.drew
              have d1 : wr.cell? ⟨x5, 1, none⟩ = some (.slice A j c) := J2.out.cell 1
              have c0 : wr.cell? ⟨x, 0, none⟩ = some (.slice (some ⟨gb, 0, none⟩) na cb) := by have := J4.out.box.cell 0; rw [HNA.out] at this; exact this
              have c3 : wr.cell? ⟨x, 3, none⟩ = some (.int .i64 nj) := J4.out.box.cell 3
              have d4 : wr.cell? ⟨gb, i, none⟩ = some (.int .u8 y) := HBY'.out _ J4.out
              have e2 : ∀ o, (wr.alloc o).cell? ⟨x5, 1, none⟩ = some (.slice A j c) := fun o => (J2.out.fine ((Fine.refl wr).alloc o)).cell 1
              have z2 : ∀ o, (wr.alloc o).frozen? ⟨x5, 1, none⟩ = false := fun o => (J2.out.fine ((Fine.refl wr).alloc o)).frozen 1
              have hwr : w.heap.size ≤ wr.heap.size := J5.out.size
              go_cut [] (fun wx => Hid (∃ A' c', Blk wx x5 87 #[.int .i64 (nx), .slice A' (j + 1) c'] ∧ Own layB 5 wx w.heap.size (.slice A' (j + 1) c') (lb ++ [y]) ∧ RsX G wx x (some ⟨gb, 0, none⟩) cb (Ai) ci all (il LL1 na) una (nj) ed told done ∧ Kept G w wx ∧ Blk wx x4 87 #[.int .i64 0, .slice none 0 0]))
              case first =>
                go_region_law (first | (refine step_appE rfl sliceB (.tmp 110) (.tmp 122) rfl w.heap.size (.slice A j c) lb rfl (J3d.out.fine ((Fine.refl _).alloc (.cells #[.int .u8 y] 5))) (some ⟨wr.heap.size, 0, none⟩) 1 1 [y] rfl rfl (RS.ofBlk (Blk.newAt rfl) rfl rfl (by unfold maxLen; omega)) (by rw [HLB.out]; simp; omega) (by rw [HLB.out]; simp; unfold maxLen; omega) (Nat.le_trans hwr ((Fine.refl wr).drew.alloc (.cells #[.int .u8 y] 5)).size) ?_; intro x2 wB oB kB0 gB0 bB; obtain ⟨A3, c3, hx2, _, _⟩ := oB.form; rw [HEL.out] at hx2; subst hx2; have KB : Kept (fun q => (Value.slice A j c).ownBlock = some q) (wr.drew.alloc (.cells #[.int .u8 y] 5)) wB := Kept.grown (Kept.refl _ _) gB0 (fun k hk _ => hk); have JA := J3d.out.fine ((Fine.refl wr.drew).alloc (.cells #[.int .u8 y] 5)); have BA := J2d.out.fine ((Fine.refl wr.drew).alloc (.cells #[.int .u8 y] 5)); have BB := BA.kept KB (fun e => JA.ne_blk e BA (by decide) rfl); have yB0 := BB.cell 1; have yB1 := BB.frozen 1))
                all_goals
                  have fa := (Fine.refl wr.drew).alloc (.cells #[.int .u8 y] 5)
                  have kx : Kept (· = x5) wB (wB.setCell ⟨x5, 1, none⟩ (.slice A3 (j + 1) c3)) := (Kept.refl (· = x5) wB).setIn (p := ⟨x5, 1, none⟩) rfl _
                  have R1 : Blk (wB.setCell ⟨x5, 1, none⟩ (.slice A3 (j + 1) c3)) x5 87 #[.int .i64 (nx), .slice A3 (j + 1) c3] := BB.set_ 1 _
                  have R2 : Own layB 5 (wB.setCell ⟨x5, 1, none⟩ (.slice A3 (j + 1) c3)) w.heap.size (.slice A3 (j + 1) c3) (lb ++ [y]) := oB.kept kx (fun q hq e => oB.ne_blk hq BB (by decide) e)
                  have R3 : RsX G (wB.setCell ⟨x5, 1, none⟩ (.slice A3 (j + 1) c3)) x (some ⟨gb, 0, none⟩) cb (Ai) ci all (il LL1 na) una (nj) ed told done := ((J4d.out.fine fa).kept KB (fun q hq e => by have := HGL.out q hq; have := (JA.lt q e).1; omega)).kept kx (fun q hq e => HG5.out (e ▸ hq))
                  have R4 : Kept G w (wB.setCell ⟨x5, 1, none⟩ (.slice A3 (j + 1) c3)) := ((J5d.out.trans (Kept.of_fine fa)).transG KB (fun _ _ h => h) (fun q hq e => by have := (JA.lt q e).1; omega)).setCell (p := ⟨x5, 1, none⟩) (fun hh => by have hh : x5 < w.heap.size := hh; have := HX5.out; omega) _
                  have R5 : Blk (wB.setCell ⟨x5, 1, none⟩ (.slice A3 (j + 1) c3)) x4 87 #[.int .i64 0, .slice none 0 0] := ((J6d.out.fine fa).kept KB (fun e => JA.ne_blk e (J6d.out.fine fa) (by decide) rfl)).kept kx (fun e => by have e : x4 = x5 := e; have := HX45.out; omega)
                  have RR := Lib.hid (And.intro R1 (And.intro R2 (And.intro R3 (And.intro R4 R5))))
                  clear R1 R2 R3 R4 R5 kx fa yB0 yB1 BB BA JA KB oB gB0 bB kB0
                  go_wp2_with fail
                  go_meet
                  exact Lib.hid ⟨A3, c3, RR.out⟩
              case rest =>
              obtain ⟨A', c', k1, k2, k3, k4, k5⟩ := hcut.out
              obtain ⟨w5, hw5⟩ : ∃ w5, w5 = wc := ⟨_, rfl⟩
              subst hw5
              have K1 := Lib.hid k1; have K2 := Lib.hid k2; have K3 := Lib.hid k3; have K4 := Lib.hid k4; have K5 := Lib.hid k5
              clear k1 k2 k3 k4 k5 hcut J2d J3d J4d J5d J6d J2 J3 J4 J5 J6 d1 d4 e2 z2 c0 c3
              rw [FITS.out] at K2
              have c3 : w5.cell? ⟨x, 3, none⟩ = some (.int .i64 nj) := K3.out.box.cell 3
              have z3 := K3.out.box.frozen 3
              have en1 : IntKind.i64.wrap (nj + 1) = nj + 1 := IntWalk.i64_in _ (by omega)
              have kx : Kept (· = x) w5 (w5.setCell ⟨x, 3, none⟩ (.int .i64 (nj + 1))) := (Kept.refl (· = x) w5).setIn (p := ⟨x, 3, none⟩) rfl _
              have XI := K3.out.setJ 3 (.int .i64 (nj + 1)) (una' := una) (nx' := nj + 1) (ed' := ed) (told' := told) (done' := done) rfl
              have R1 := K1.out.kept kx (fun e => HG5.out (by have e : x5 = x := e; rw [e]; exact K3.out.gx))
              have R2 := K2.out.kept kx (fun y hy e => by have := (K2.out.lt y hy).1; have := HGL.out x K3.out.gx; have e : y = x := e; omega)
              have R4 := K4.out.setIn (p := ⟨x, 3, none⟩) K3.out.gx (.int .i64 (nj + 1))
              have R5 := K5.out.kept kx (fun e => HG4.out (by have e : x4 = x := e; rw [e]; exact K3.out.gx))
              have RR := Lib.hid (And.intro XI (And.intro R1 (And.intro R2 (And.intro R4 R5))))
              have HNJ1 : Hid (nx + ((j + 1 : Nat) : Int) = nj + 1) := Lib.hid (by have := HNJ.out; omega)
              clear XI R1 R2 R4 R5 kx
              go_wp2_with fail
              refine ⟨Lib.hid ⟨j + 1, A', c', hjn, by rw [if_neg (by omega)]; exact RR.out.2.1, RR.out.2.2.1, by rw [HNJ1.out]; exact RR.out.1, RR.out.2.2.2.1, RR.out.2.2.2.2⟩, ?_⟩
              rw [len1At_eq (RR.out.2.1.cell 1), HLEN1.out]
              omega
            · have q0 : ((j : Int) == 0) = false := by simp; omega
              have HDX : Hid (d = nx) := Lib.hid (by have := HD.out; rw [if_neg h0] at this; exact this.symm)
              go_upto_region 21 with fail
              clear z0 d0 d1 c3 h0 q0 hw5
              rw [HDX.out] at J2
              obtain ⟨wr, hwr9⟩ : ∃ z, z = wf := ⟨_, rfl⟩
              subst hwr9
              have J2d := Lib.hid (J2.out.drew); have J3d := Lib.hid (J3.out.fine (Fine.refl wr).drew); have J4d := Lib.hid (J4.out.fine (Fine.refl wr).drew); have J5d := Lib.hid J5.out.drew; have J6d := Lib.hid J6.out.drew
              have d1 : wr.cell? ⟨x5, 1, none⟩ = some (.slice A j c) := J2.out.cell 1
              have c0 : wr.cell? ⟨x, 0, none⟩ = some (.slice (some ⟨gb, 0, none⟩) na cb) := by have := J4.out.box.cell 0; rw [HNA.out] at this; exact this
              have c3 : wr.cell? ⟨x, 3, none⟩ = some (.int .i64 nj) := J4.out.box.cell 3
              have d4 : wr.cell? ⟨gb, i, none⟩ = some (.int .u8 y) := HBY'.out _ J4.out
              have e2 : ∀ o, (wr.alloc o).cell? ⟨x5, 1, none⟩ = some (.slice A j c) := fun o => (J2.out.fine ((Fine.refl wr).alloc o)).cell 1
              have z2 : ∀ o, (wr.alloc o).frozen? ⟨x5, 1, none⟩ = false := fun o => (J2.out.fine ((Fine.refl wr).alloc o)).frozen 1
              have hwr : w.heap.size ≤ wr.heap.size := J5.out.size
              go_cut [] (fun wx => Hid (∃ A' c', Blk wx x5 87 #[.int .i64 (nx), .slice A' (j + 1) c'] ∧ Own layB 5 wx w.heap.size (.slice A' (j + 1) c') (lb ++ [y]) ∧ RsX G wx x (some ⟨gb, 0, none⟩) cb (Ai) ci all (il LL1 na) una (nj) ed told done ∧ Kept G w wx ∧ Blk wx x4 87 #[.int .i64 0, .slice none 0 0]))
              case first =>
                go_region_law (first | (refine step_appE rfl sliceB (.tmp 110) (.tmp 122) rfl w.heap.size (.slice A j c) lb rfl (J3d.out.fine ((Fine.refl _).alloc (.cells #[.int .u8 y] 5))) (some ⟨wr.heap.size, 0, none⟩) 1 1 [y] rfl rfl (RS.ofBlk (Blk.newAt rfl) rfl rfl (by unfold maxLen; omega)) (by rw [HLB.out]; simp; omega) (by rw [HLB.out]; simp; unfold maxLen; omega) (Nat.le_trans hwr ((Fine.refl wr).drew.alloc (.cells #[.int .u8 y] 5)).size) ?_; intro x2 wB oB kB0 gB0 bB; obtain ⟨A3, c3, hx2, _, _⟩ := oB.form; rw [HEL.out] at hx2; subst hx2; have KB : Kept (fun q => (Value.slice A j c).ownBlock = some q) (wr.drew.alloc (.cells #[.int .u8 y] 5)) wB := Kept.grown (Kept.refl _ _) gB0 (fun k hk _ => hk); have JA := J3d.out.fine ((Fine.refl wr.drew).alloc (.cells #[.int .u8 y] 5)); have BA := J2d.out.fine ((Fine.refl wr.drew).alloc (.cells #[.int .u8 y] 5)); have BB := BA.kept KB (fun e => JA.ne_blk e BA (by decide) rfl); have yB0 := BB.cell 1; have yB1 := BB.frozen 1))
                all_goals
                  have fa := (Fine.refl wr.drew).alloc (.cells #[.int .u8 y] 5)
                  have kx : Kept (· = x5) wB (wB.setCell ⟨x5, 1, none⟩ (.slice A3 (j + 1) c3)) := (Kept.refl (· = x5) wB).setIn (p := ⟨x5, 1, none⟩) rfl _
                  have R1 : Blk (wB.setCell ⟨x5, 1, none⟩ (.slice A3 (j + 1) c3)) x5 87 #[.int .i64 (nx), .slice A3 (j + 1) c3] := BB.set_ 1 _
                  have R2 : Own layB 5 (wB.setCell ⟨x5, 1, none⟩ (.slice A3 (j + 1) c3)) w.heap.size (.slice A3 (j + 1) c3) (lb ++ [y]) := oB.kept kx (fun q hq e => oB.ne_blk hq BB (by decide) e)
                  have R3 : RsX G (wB.setCell ⟨x5, 1, none⟩ (.slice A3 (j + 1) c3)) x (some ⟨gb, 0, none⟩) cb (Ai) ci all (il LL1 na) una (nj) ed told done := ((J4d.out.fine fa).kept KB (fun q hq e => by have := HGL.out q hq; have := (JA.lt q e).1; omega)).kept kx (fun q hq e => HG5.out (e ▸ hq))
                  have R4 : Kept G w (wB.setCell ⟨x5, 1, none⟩ (.slice A3 (j + 1) c3)) := ((J5d.out.trans (Kept.of_fine fa)).transG KB (fun _ _ h => h) (fun q hq e => by have := (JA.lt q e).1; omega)).setCell (p := ⟨x5, 1, none⟩) (fun hh => by have hh : x5 < w.heap.size := hh; have := HX5.out; omega) _
                  have R5 : Blk (wB.setCell ⟨x5, 1, none⟩ (.slice A3 (j + 1) c3)) x4 87 #[.int .i64 0, .slice none 0 0] := ((J6d.out.fine fa).kept KB (fun e => JA.ne_blk e (J6d.out.fine fa) (by decide) rfl)).kept kx (fun e => by have e : x4 = x5 := e; have := HX45.out; omega)
                  have RR := Lib.hid (And.intro R1 (And.intro R2 (And.intro R3 (And.intro R4 R5))))
                  clear R1 R2 R3 R4 R5 kx fa yB0 yB1 BB BA JA KB oB gB0 bB kB0
                  go_wp2_with fail
                  go_meet
                  exact Lib.hid ⟨A3, c3, RR.out⟩
              case rest =>
              obtain ⟨A', c', k1, k2, k3, k4, k5⟩ := hcut.out
              obtain ⟨w5, hw5⟩ : ∃ w5, w5 = wc := ⟨_, rfl⟩
              subst hw5
              have K1 := Lib.hid k1; have K2 := Lib.hid k2; have K3 := Lib.hid k3; have K4 := Lib.hid k4; have K5 := Lib.hid k5
              clear k1 k2 k3 k4 k5 hcut J2d J3d J4d J5d J6d J2 J3 J4 J5 J6 d1 d4 e2 z2 c0 c3
              rw [FITS.out] at K2
              have c3 : w5.cell? ⟨x, 3, none⟩ = some (.int .i64 nj) := K3.out.box.cell 3
              have z3 := K3.out.box.frozen 3
              have en1 : IntKind.i64.wrap (nj + 1) = nj + 1 := IntWalk.i64_in _ (by omega)
              have kx : Kept (· = x) w5 (w5.setCell ⟨x, 3, none⟩ (.int .i64 (nj + 1))) := (Kept.refl (· = x) w5).setIn (p := ⟨x, 3, none⟩) rfl _
              have XI := K3.out.setJ 3 (.int .i64 (nj + 1)) (una' := una) (nx' := nj + 1) (ed' := ed) (told' := told) (done' := done) rfl
              have R1 := K1.out.kept kx (fun e => HG5.out (by have e : x5 = x := e; rw [e]; exact K3.out.gx))
              have R2 := K2.out.kept kx (fun y hy e => by have := (K2.out.lt y hy).1; have := HGL.out x K3.out.gx; have e : y = x := e; omega)
              have R4 := K4.out.setIn (p := ⟨x, 3, none⟩) K3.out.gx (.int .i64 (nj + 1))
              have R5 := K5.out.kept kx (fun e => HG4.out (by have e : x4 = x := e; rw [e]; exact K3.out.gx))
              have RR := Lib.hid (And.intro XI (And.intro R1 (And.intro R2 (And.intro R4 R5))))
              have HNJ1 : Hid (nx + ((j + 1 : Nat) : Int) = nj + 1) := Lib.hid (by have := HNJ.out; omega)
              clear XI R1 R2 R4 R5 kx
              go_wp2_with fail
              refine ⟨Lib.hid ⟨j + 1, A', c', hjn, by rw [if_neg (by omega)]; exact RR.out.2.1, RR.out.2.2.1, by rw [HNJ1.out]; exact RR.out.1, RR.out.2.2.2.1, RR.out.2.2.2.2⟩, ?_⟩
              rw [len1At_eq (RR.out.2.1.cell 1), HLEN1.out]
              omega
      · skip
        have OFF : Hid True := Lib.hid trivial
        obtain ⟨w2, hw2⟩ : ∃ z, z = wr := ⟨_, rfl⟩
        have B5 := J2; have B4 := J6; have OW := J3; have KW := J5; have XW := J4
        obtain ⟨nx9, hnx9⟩ : ∃ z, z = nx := ⟨_, rfl⟩
        obtain ⟨Ab9, hab9⟩ : ∃ z, z = Ab := ⟨_, rfl⟩
        rw [← hnx9, ← hab9] at XW
        obtain ⟨L9, hL9⟩ : ∃ z, z = (fun m => L m && !(decide (d ≤ m) && decide (m < d + (j : Int)))) := ⟨_, rfl⟩
        have hcur := HLK.out.run (by omega)
        have HBY : Hid ((buf.drop (d - una).toNat).take j = (all.drop (d - 1).toNat).take j) := Lib.hid (drop_buf HBUF.out o1 hcur.2.1)
        have HTP : Hid (TakeP ⟨una, nx, ed, buf, told, done⟩ L most d j nx9 L9) := Lib.hid (by rw [hnx9, hL9]; exact Lk.takeP (T := ⟨una, nx, ed, buf, told, done⟩) HLK.out HT.out HLL.out HMV.out (by omega) (HEND.out (by omega)))
        have HLL9 : Hid (∀ m, una ≤ m → LL1 m = L9 m) := Lib.hid (fun m hm => by rw [hL9, HLK.out.now, HLL.out m hm, decide_eq_true (show 0 < j by omega), Bool.true_and, hcur.1])
        have HL09 : Hid (∀ m, (all.length : Int) < m → LL1 m = false) := Lib.hid (fun m hm => by rw [HLK.out.now, HL0.out m (by rw [← HNA.out]; exact hm)]; rfl)
        have hj0 : (j : Int) > 0 := by omega
        have hj0' : ((j : Int) == 0) = false := by simp; omega
        have hj0'' : decide (0 < (j : Int)) = true := decide_eq_true hj0
        clear hcur hnx9 hab9 hL9 J2 J3 J4 J5 J6 HEND OFF
        subst hw2
        have c50 : w2.cell? ⟨x5, 0, none⟩ = some (.int .i64 d) := B5.out.cell 0
        have c51 : w2.cell? ⟨x5, 1, none⟩ = some (.slice A j c) := B5.out.cell 1
        have c40 : w2.cell? ⟨x4, 0, none⟩ = some (.int .i64 0) := B4.out.cell 0
        have c41 : w2.cell? ⟨x4, 1, none⟩ = some (.slice none 0 0) := B4.out.cell 1
        have z40 := B4.out.frozen 0
        have z41 := B4.out.frozen 1
        have HFIN : Hid (Blk ((w2.setCell ⟨x4, 0, none⟩ (.int .i64 d)).setCell ⟨x4, 1, none⟩ (.slice A j c)) x4 87 #[.int .i64 d, .slice A j c] ∧ RsTk G x ⟨una, nx, ed, buf, told, done⟩ L most w (.returned (.agg #[.int .i64 d, .slice A j c])) ((w2.setCell ⟨x4, 0, none⟩ (.int .i64 d)).setCell ⟨x4, 1, none⟩ (.slice A j c))) := Lib.hid (by
          have R4 : Blk ((w2.setCell ⟨x4, 0, none⟩ (.int .i64 d)).setCell ⟨x4, 1, none⟩ (.slice A j c)) x4 87 #[.int .i64 d, .slice A j c] := (B4.out.set_ 0 (.int .i64 d)).set_ 1 (.slice A j c)
          have kk : Kept (· = x4) w2 ((w2.setCell ⟨x4, 0, none⟩ (.int .i64 d)).setCell ⟨x4, 1, none⟩ (.slice A j c)) := ((Kept.refl (· = x4) w2).setIn (p := ⟨x4, 0, none⟩) rfl _).setIn (p := ⟨x4, 1, none⟩) rfl _
          have hR := (OW.out.kept kk (fun y hy e => OW.out.ne_blk hy B4.out (by decide) e))
          refine ⟨R4, d, j, A, c, nx9, L9, rfl, ?_, ?_, KW.out.transG kk (fun _ _ h => h) (fun q hq e => by have := HX4.out; have e : q = x4 := e; omega), HTP.out, fun b o e => (hR.from_ b o e).1⟩
          · rw [HBY.out]
            exact hR.rs.1
          · exact (XW.out.kept kk (fun y hy e => HG4.out (e ▸ hy))).toI HNA.out HLEN.out (by rw [HNB.out, HLA.out]) HBUF.out HLL9.out HL09.out)
        clear d0 d1
        go_wp2_with fail
        exact bodyPost_ret (results_cell_row rfl _ _ x4 87 _ (0, 0) _ rfl HFIN.out.1 Try.underlying87 rfl size87) rfl HFIN.out.2
    · have g1 : decide (n < nx) = true := decide_eq_true h1
      have g2 : decide ((j : Int) < mv) = false := decide_eq_false (by omega)
      have HEND : Hid (0 < j → (j : Int) = mv ∨ n = nx ∨ LL n = false) := Lib.hid (fun _ => .inl (by omega))
      have h0 : ¬ j = 0 := by omega
      clear KEY
      have OFF : Hid True := Lib.hid trivial
      obtain ⟨w2, hw2⟩ : ∃ z, z = wr := ⟨_, rfl⟩
      have B5 := J2; have B4 := J6; have OW := J3; have KW := J5; have XW := J4
      obtain ⟨nx9, hnx9⟩ : ∃ z, z = nx := ⟨_, rfl⟩
      obtain ⟨Ab9, hab9⟩ : ∃ z, z = Ab := ⟨_, rfl⟩
      rw [← hnx9, ← hab9] at XW
      obtain ⟨L9, hL9⟩ : ∃ z, z = (fun m => L m && !(decide (d ≤ m) && decide (m < d + (j : Int)))) := ⟨_, rfl⟩
      have hcur := HLK.out.run (by omega)
      have HBY : Hid ((buf.drop (d - una).toNat).take j = (all.drop (d - 1).toNat).take j) := Lib.hid (drop_buf HBUF.out o1 hcur.2.1)
      have HTP : Hid (TakeP ⟨una, nx, ed, buf, told, done⟩ L most d j nx9 L9) := Lib.hid (by rw [hnx9, hL9]; exact Lk.takeP (T := ⟨una, nx, ed, buf, told, done⟩) HLK.out HT.out HLL.out HMV.out (by omega) (HEND.out (by omega)))
      have HLL9 : Hid (∀ m, una ≤ m → LL1 m = L9 m) := Lib.hid (fun m hm => by rw [hL9, HLK.out.now, HLL.out m hm, decide_eq_true (show 0 < j by omega), Bool.true_and, hcur.1])
      have HL09 : Hid (∀ m, (all.length : Int) < m → LL1 m = false) := Lib.hid (fun m hm => by rw [HLK.out.now, HL0.out m (by rw [← HNA.out]; exact hm)]; rfl)
      have hj0 : (j : Int) > 0 := by omega
      have hj0' : ((j : Int) == 0) = false := by simp; omega
      have hj0'' : decide (0 < (j : Int)) = true := decide_eq_true hj0
      clear hcur hnx9 hab9 hL9 J2 J3 J4 J5 J6 HEND OFF
      subst hw2
      have c50 : w2.cell? ⟨x5, 0, none⟩ = some (.int .i64 d) := B5.out.cell 0
      have c51 : w2.cell? ⟨x5, 1, none⟩ = some (.slice A j c) := B5.out.cell 1
      have c40 : w2.cell? ⟨x4, 0, none⟩ = some (.int .i64 0) := B4.out.cell 0
      have c41 : w2.cell? ⟨x4, 1, none⟩ = some (.slice none 0 0) := B4.out.cell 1
      have z40 := B4.out.frozen 0
      have z41 := B4.out.frozen 1
      have HFIN : Hid (Blk ((w2.setCell ⟨x4, 0, none⟩ (.int .i64 d)).setCell ⟨x4, 1, none⟩ (.slice A j c)) x4 87 #[.int .i64 d, .slice A j c] ∧ RsTk G x ⟨una, nx, ed, buf, told, done⟩ L most w (.returned (.agg #[.int .i64 d, .slice A j c])) ((w2.setCell ⟨x4, 0, none⟩ (.int .i64 d)).setCell ⟨x4, 1, none⟩ (.slice A j c))) := Lib.hid (by
        have R4 : Blk ((w2.setCell ⟨x4, 0, none⟩ (.int .i64 d)).setCell ⟨x4, 1, none⟩ (.slice A j c)) x4 87 #[.int .i64 d, .slice A j c] := (B4.out.set_ 0 (.int .i64 d)).set_ 1 (.slice A j c)
        have kk : Kept (· = x4) w2 ((w2.setCell ⟨x4, 0, none⟩ (.int .i64 d)).setCell ⟨x4, 1, none⟩ (.slice A j c)) := ((Kept.refl (· = x4) w2).setIn (p := ⟨x4, 0, none⟩) rfl _).setIn (p := ⟨x4, 1, none⟩) rfl _
        have hR := (OW.out.kept kk (fun y hy e => OW.out.ne_blk hy B4.out (by decide) e))
        refine ⟨R4, d, j, A, c, nx9, L9, rfl, ?_, ?_, KW.out.transG kk (fun _ _ h => h) (fun q hq e => by have := HX4.out; have e : q = x4 := e; omega), HTP.out, fun b o e => (hR.from_ b o e).1⟩
        · rw [HBY.out]
          exact hR.rs.1
        · exact (XW.out.kept kk (fun y hy e => HG4.out (e ▸ hy))).toI HNA.out HLEN.out (by rw [HNB.out, HLA.out]) HBUF.out HLL9.out HL09.out)
      clear d0 d1
      go_wp2_with fail
      exact bodyPost_ret (results_cell_row rfl _ _ x4 87 _ (0, 0) _ rfl HFIN.out.1 Try.underlying87 rfl size87) rfl HFIN.out.2
    · have g1 : decide (n < nx) = true := decide_eq_true h1
      have g2 : decide ((j : Int) < mv) = true := decide_eq_true h2
      clear KEY
      have hina : i < na := by have := HUB.out; omega
      obtain ⟨gi, hgi, _, _⟩ := J4.out.oi.head (by rw [il_len]; omega)
      subst hgi
      have c1 : wr.cell? ⟨x, 1, none⟩ = some (.slice (some ⟨gi, 0, none⟩) na ci) := by have := J4.out.box.cell 1; rw [il_len] at this; exact this
      have c9 : wr.cell? ⟨gi, i, none⟩ = some (.bool (LL n)) := by
        obtain ⟨_, _, hgi2, _, hc⟩ := J4.out.oi.rs.1.at_ (il_at LL1 hina)
        injection hgi2 with hgi2
        injection hgi2 with g1 g2
        subst g1 g2
        have := hc 0 _ rfl
        simp only [Nat.mul_one, Nat.add_zero, Nat.zero_add] at this
        rw [hi, HLK.out.here] at this
        exact this
      have ei : IntKind.i64.wrap (n - 1) = (i : Int) := by rw [show n - 1 = (i : Int) by omega]; exact IntWalk.i64_in _ (by omega)
      have en1 : IntKind.i64.wrap (n + 1) = n + 1 := IntWalk.i64_in _ (by omega)
      obtain ⟨q, hq⟩ : ∃ q, LL n = q := ⟨_, rfl⟩
      rw [hq] at c9
      have HQ := Lib.hid hq
      clear hq hi
      cases q with
      | false =>
        by_cases h0 : j = 0
        · subst h0
          have LKN := Lib.hid (HLK.out.skip rfl h1 HQ.out)
          go_wp2_with fail
          exact ⟨⟨n + 1, by simp, by omega, Lib.hid ⟨0, A, c, d, LL1, LKN.out, J2.out, J3.out, J4.out, J5.out, J6.out⟩⟩, by simp only [intOf]; omega⟩
        · have HEND : Hid (0 < j → (j : Int) = mv ∨ n = nx ∨ LL n = false) := Lib.hid (fun _ => .inr (.inr HQ.out))
          have OFF : Hid True := Lib.hid trivial
          obtain ⟨w2, hw2⟩ : ∃ z, z = wr := ⟨_, rfl⟩
          have B5 := J2; have B4 := J6; have OW := J3; have KW := J5; have XW := J4
          obtain ⟨nx9, hnx9⟩ : ∃ z, z = nx := ⟨_, rfl⟩
          obtain ⟨Ab9, hab9⟩ : ∃ z, z = Ab := ⟨_, rfl⟩
          rw [← hnx9, ← hab9] at XW
          obtain ⟨L9, hL9⟩ : ∃ z, z = (fun m => L m && !(decide (d ≤ m) && decide (m < d + (j : Int)))) := ⟨_, rfl⟩
          have hcur := HLK.out.run (by omega)
          have HBY : Hid ((buf.drop (d - una).toNat).take j = (all.drop (d - 1).toNat).take j) := Lib.hid (drop_buf HBUF.out o1 hcur.2.1)
          have HTP : Hid (TakeP ⟨una, nx, ed, buf, told, done⟩ L most d j nx9 L9) := Lib.hid (by rw [hnx9, hL9]; exact Lk.takeP (T := ⟨una, nx, ed, buf, told, done⟩) HLK.out HT.out HLL.out HMV.out (by omega) (HEND.out (by omega)))
          have HLL9 : Hid (∀ m, una ≤ m → LL1 m = L9 m) := Lib.hid (fun m hm => by rw [hL9, HLK.out.now, HLL.out m hm, decide_eq_true (show 0 < j by omega), Bool.true_and, hcur.1])
          have HL09 : Hid (∀ m, (all.length : Int) < m → LL1 m = false) := Lib.hid (fun m hm => by rw [HLK.out.now, HL0.out m (by rw [← HNA.out]; exact hm)]; rfl)
          have hj0 : (j : Int) > 0 := by omega
          have hj0' : ((j : Int) == 0) = false := by simp; omega
          have hj0'' : decide (0 < (j : Int)) = true := decide_eq_true hj0
          clear hcur hnx9 hab9 hL9 J2 J3 J4 J5 J6 HEND OFF
          subst hw2
          have c50 : w2.cell? ⟨x5, 0, none⟩ = some (.int .i64 d) := B5.out.cell 0
          have c51 : w2.cell? ⟨x5, 1, none⟩ = some (.slice A j c) := B5.out.cell 1
          have c40 : w2.cell? ⟨x4, 0, none⟩ = some (.int .i64 0) := B4.out.cell 0
          have c41 : w2.cell? ⟨x4, 1, none⟩ = some (.slice none 0 0) := B4.out.cell 1
          have z40 := B4.out.frozen 0
          have z41 := B4.out.frozen 1
          have HFIN : Hid (Blk ((w2.setCell ⟨x4, 0, none⟩ (.int .i64 d)).setCell ⟨x4, 1, none⟩ (.slice A j c)) x4 87 #[.int .i64 d, .slice A j c] ∧ RsTk G x ⟨una, nx, ed, buf, told, done⟩ L most w (.returned (.agg #[.int .i64 d, .slice A j c])) ((w2.setCell ⟨x4, 0, none⟩ (.int .i64 d)).setCell ⟨x4, 1, none⟩ (.slice A j c))) := Lib.hid (by
            have R4 : Blk ((w2.setCell ⟨x4, 0, none⟩ (.int .i64 d)).setCell ⟨x4, 1, none⟩ (.slice A j c)) x4 87 #[.int .i64 d, .slice A j c] := (B4.out.set_ 0 (.int .i64 d)).set_ 1 (.slice A j c)
            have kk : Kept (· = x4) w2 ((w2.setCell ⟨x4, 0, none⟩ (.int .i64 d)).setCell ⟨x4, 1, none⟩ (.slice A j c)) := ((Kept.refl (· = x4) w2).setIn (p := ⟨x4, 0, none⟩) rfl _).setIn (p := ⟨x4, 1, none⟩) rfl _
            have hR := (OW.out.kept kk (fun y hy e => OW.out.ne_blk hy B4.out (by decide) e))
            refine ⟨R4, d, j, A, c, nx9, L9, rfl, ?_, ?_, KW.out.transG kk (fun _ _ h => h) (fun q hq e => by have := HX4.out; have e : q = x4 := e; omega), HTP.out, fun b o e => (hR.from_ b o e).1⟩
            · rw [HBY.out]
              exact hR.rs.1
            · exact (XW.out.kept kk (fun y hy e => HG4.out (e ▸ hy))).toI HNA.out HLEN.out (by rw [HNB.out, HLA.out]) HBUF.out HLL9.out HL09.out)
          clear d0 d1
          go_wp2_with fail
          exact bodyPost_ret (results_cell_row rfl _ _ x4 87 _ (0, 0) _ rfl HFIN.out.1 Try.underlying87 rfl size87) rfl HFIN.out.2
      | true =>
        have LKN := Lib.hid (HLK.out.take h2 h1 HQ.out)
        obtain ⟨gb, hgb, _, _⟩ := J4.out.ob.head (by rw [HNA.out]; omega)
        subst hgb
        obtain ⟨y, hy⟩ : ∃ y, all.getD i 0 = y := ⟨_, rfl⟩
        have HYY := Lib.hid hy
        have hby : ∀ w', RsX G w' x (some ⟨gb, 0, none⟩) cb (some ⟨gi, 0, none⟩) ci all (il LL1 na) una nx ed told done → w'.cell? ⟨gb, i, none⟩ = some (.int .u8 y) := fun w' h => by
          obtain ⟨b', o', e', _, hc⟩ := h.ob.rs.1.atI (i := i) (by rw [HNA.out]; exact hina)
          injection e' with e'
          injection e' with e1 e2
          subst e1 e2
          rw [hy, Nat.zero_add] at hc
          exact hc
        have HBY' := Lib.hid hby
        obtain ⟨lb, hlb⟩ : ∃ z, (all.drop (d - 1).toNat).take j = z := ⟨_, rfl⟩
        rw [hlb] at J3
        have HLB : Hid (lb.length = j) := Lib.hid (J3.out.rs.2.symm)
        have HLBE := Lib.hid hlb.symm
        have HEL : Hid ((lb ++ [y]).length = j + 1) := Lib.hid (by rw [List.length_append, HLB.out]; rfl)
        have hj8 : j ≤ 8 := by omega
        clear hy hby hlb d1
        by_cases h0 : j = 0
        · have q0 : ((j : Int) == 0) = true := by simp; omega
          have HD9 : Hid (∃ z, z = n) := Lib.hid ⟨_, rfl⟩
          have LKO := LKN
          obtain ⟨d9, hd9⟩ := HD9.out
          have LK9 : Hid (Lk una nx mv (n + 1) d9 (j + 1) LL (fun m => if m = n then false else LL1 m)) := Lib.hid (by have := LKN.out; rw [if_pos h0] at this; rw [hd9]; exact this)
          have HDI : Hid ((d9 - 1).toNat + j = i) := Lib.hid (by have := HI.out; omega)
          have FITS : Hid (lb ++ [y] = (all.drop (d9 - 1).toNat).take (j + 1)) := Lib.hid (by
            rw [take_snoc (by rw [HDI.out, HNA.out]; exact hina), HDI.out, HYY.out]
            congr 1
            have h1 : lb = [] := List.eq_nil_of_length_eq_zero (by rw [HLB.out]; exact h0)
            rw [h1, h0, List.take_zero])
          have z0 := J2.out.frozen 0
          have kx : Kept (· = x5) wr (wr.setCell ⟨x5, 0, none⟩ (.int .i64 n)) := (Kept.refl (· = x5) wr).setIn (p := ⟨x5, 0, none⟩) rfl _
          have M2 : Hid (Blk (wr.setCell ⟨x5, 0, none⟩ (.int .i64 n)) x5 87 #[.int .i64 d9, .slice A j c]) := Lib.hid (by rw [hd9]; exact J2.out.set_ 0 (.int .i64 n))
          have M3 := Lib.hid (J3.out.kept kx (fun q hq e => J3.out.ne_blk hq J2.out (by decide) e))
          have M4 := Lib.hid (J4.out.kept kx (fun q hq e => HG5.out (by have e : q = x5 := e; exact e ▸ hq)))
          have M5 : Hid (Kept G w (wr.setCell ⟨x5, 0, none⟩ (.int .i64 n))) := Lib.hid (J5.out.setCell (p := ⟨x5, 0, none⟩) (fun hh => by have hh : x5 < w.heap.size := hh; have := HX5.out; omega) _)
          have M6 := Lib.hid (J6.out.kept kx (fun e => by have e : x4 = x5 := e; have := HX45.out; omega))
          have d1 : wr.cell? ⟨x5, 1, none⟩ = some (.slice A j c) := J2.out.cell 1
          clear kx hd9 HD9
          go_upto_region 12 with fail
          generalize wr.setCell ⟨x5, 0, none⟩ (.int .i64 n) = w6 at M2 M3 M4 M5 M6 ⊢
          clear z0 d0 d1 c1 c9 c3 J2 J3 J4 J5 J6 h0 q0 LKN LKO
          obtain ⟨wr, hwr9⟩ : ∃ z, z = w6 := ⟨_, rfl⟩
          obtain ⟨d, hd8⟩ : ∃ z, z = d9 := ⟨_, rfl⟩
          subst hwr9 hd8
          have J2 := M2; have J3 := M3; have J4 := M4; have J5 := M5; have J6 := M6
          clear M2 M3 M4 M5 M6
          have J2d := Lib.hid (J2.out.drew); have J3d := Lib.hid (J3.out.fine (Fine.refl wr).drew); have J4d := Lib.hid (J4.out.fine (Fine.refl wr).drew); have J5d := Lib.hid J5.out.drew; have J6d := Lib.hid J6.out.drew
          have d0 : wr.cell? ⟨x5, 0, none⟩ = some (.int .i64 d) := J2.out.cell 0
          have d1 : wr.cell? ⟨x5, 1, none⟩ = some (.slice A j c) := J2.out.cell 1
          have c0 : wr.cell? ⟨x, 0, none⟩ = some (.slice (some ⟨gb, 0, none⟩) na cb) := by have := J4.out.box.cell 0; rw [HNA.out] at this; exact this
          have d4 : wr.cell? ⟨gb, i, none⟩ = some (.int .u8 y) := HBY'.out _ J4.out
          have e2 : ∀ o, (wr.alloc o).cell? ⟨x5, 1, none⟩ = some (.slice A j c) := fun o => (J2.out.fine ((Fine.refl wr).alloc o)).cell 1
          have z2 : ∀ o, (wr.alloc o).frozen? ⟨x5, 1, none⟩ = false := fun o => (J2.out.fine ((Fine.refl wr).alloc o)).frozen 1
          have hwr : w.heap.size ≤ wr.heap.size := J5.out.size
          go_cut [] (fun wx => Hid (∃ A' c', Blk wx x5 87 #[.int .i64 (d), .slice A' (j + 1) c'] ∧ Own layB 5 wx w.heap.size (.slice A' (j + 1) c') (lb ++ [y]) ∧ RsX G wx x (some ⟨gb, 0, none⟩) cb (some ⟨gi, 0, none⟩) ci all (il LL1 na) una (nx) ed told done ∧ Kept G w wx ∧ Blk wx x4 87 #[.int .i64 0, .slice none 0 0]))
          case first =>
            go_region_law (first | (refine step_appE rfl sliceB (.tmp 46) (.tmp 55) rfl w.heap.size (.slice A j c) lb rfl (J3d.out.fine ((Fine.refl _).alloc (.cells #[.int .u8 y] 5))) (some ⟨wr.heap.size, 0, none⟩) 1 1 [y] rfl rfl (RS.ofBlk (Blk.newAt rfl) rfl rfl (by unfold maxLen; omega)) (by rw [HLB.out]; simp; omega) (by rw [HLB.out]; simp; unfold maxLen; omega) (Nat.le_trans hwr ((Fine.refl wr).drew.alloc (.cells #[.int .u8 y] 5)).size) ?_; intro x2 wB oB kB0 gB0 bB; obtain ⟨A3, c3, hx2, _, _⟩ := oB.form; rw [HEL.out] at hx2; subst hx2; have KB : Kept (fun q => (Value.slice A j c).ownBlock = some q) (wr.drew.alloc (.cells #[.int .u8 y] 5)) wB := Kept.grown (Kept.refl _ _) gB0 (fun k hk _ => hk); have JA := J3d.out.fine ((Fine.refl wr.drew).alloc (.cells #[.int .u8 y] 5)); have BA := J2d.out.fine ((Fine.refl wr.drew).alloc (.cells #[.int .u8 y] 5)); have BB := BA.kept KB (fun e => JA.ne_blk e BA (by decide) rfl); have yB0 := BB.cell 1; have yB1 := BB.frozen 1))
            all_goals
              have fa := (Fine.refl wr.drew).alloc (.cells #[.int .u8 y] 5)
              have kx : Kept (· = x5) wB (wB.setCell ⟨x5, 1, none⟩ (.slice A3 (j + 1) c3)) := (Kept.refl (· = x5) wB).setIn (p := ⟨x5, 1, none⟩) rfl _
              have R1 : Blk (wB.setCell ⟨x5, 1, none⟩ (.slice A3 (j + 1) c3)) x5 87 #[.int .i64 (d), .slice A3 (j + 1) c3] := BB.set_ 1 _
              have R2 : Own layB 5 (wB.setCell ⟨x5, 1, none⟩ (.slice A3 (j + 1) c3)) w.heap.size (.slice A3 (j + 1) c3) (lb ++ [y]) := oB.kept kx (fun q hq e => oB.ne_blk hq BB (by decide) e)
              have R3 : RsX G (wB.setCell ⟨x5, 1, none⟩ (.slice A3 (j + 1) c3)) x (some ⟨gb, 0, none⟩) cb (some ⟨gi, 0, none⟩) ci all (il LL1 na) una (nx) ed told done := ((J4d.out.fine fa).kept KB (fun q hq e => by have := HGL.out q hq; have := (JA.lt q e).1; omega)).kept kx (fun q hq e => HG5.out (e ▸ hq))
              have R4 : Kept G w (wB.setCell ⟨x5, 1, none⟩ (.slice A3 (j + 1) c3)) := ((J5d.out.trans (Kept.of_fine fa)).transG KB (fun _ _ h => h) (fun q hq e => by have := (JA.lt q e).1; omega)).setCell (p := ⟨x5, 1, none⟩) (fun hh => by have hh : x5 < w.heap.size := hh; have := HX5.out; omega) _
              have R5 : Blk (wB.setCell ⟨x5, 1, none⟩ (.slice A3 (j + 1) c3)) x4 87 #[.int .i64 0, .slice none 0 0] := ((J6d.out.fine fa).kept KB (fun e => JA.ne_blk e (J6d.out.fine fa) (by decide) rfl)).kept kx (fun e => by have e : x4 = x5 := e; have := HX45.out; omega)
              have RR := Lib.hid (And.intro R1 (And.intro R2 (And.intro R3 (And.intro R4 R5))))
              clear R1 R2 R3 R4 R5 kx fa yB0 yB1 BB BA JA KB oB gB0 bB kB0
              go_wp2_with fail
              go_meet
              exact Lib.hid ⟨A3, c3, RR.out⟩
          case rest =>
          obtain ⟨A', c', k1, k2, k3, k4, k5⟩ := hcut.out
          obtain ⟨w5, hw5⟩ : ∃ w5, w5 = wc := ⟨_, rfl⟩
          subst hw5
          have K1 := Lib.hid k1; have K2 := Lib.hid k2; have K3 := Lib.hid k3; have K4 := Lib.hid k4; have K5 := Lib.hid k5
          clear k1 k2 k3 k4 k5 hcut J2d J3d J4d J5d J6d J2 J3 J4 J5 J6 d0 d1 d4 e2 z2 c0
          rw [FITS.out] at K2
          have c1 : w5.cell? ⟨x, 1, none⟩ = some (.slice (some ⟨gi, 0, none⟩) na ci) := by have := K3.out.box.cell 1; rw [il_len] at this; exact this
          have c13 : w5.cell? ⟨gi, i, none⟩ = some (.bool (LL1 n)) := by
            obtain ⟨_, _, hgi2, _, hc⟩ := K3.out.oi.rs.1.at_ (il_at LL1 hina)
            injection hgi2 with hgi2
            injection hgi2 with g1 g2
            subst g1 g2
            have := hc 0 _ rfl
            simp only [Nat.mul_one, Nat.add_zero, Nat.zero_add] at this
            rw [← HI.out]
            exact this
          have z13 := K3.out.oi.frozen i
          have ei1 : IntKind.i64.wrap (n - 1) = (i : Int) := by rw [show n - 1 = (i : Int) by have := HI.out; omega]; exact IntWalk.i64_in _ (by omega)
          have en1 : IntKind.i64.wrap (n + 1) = n + 1 := IntWalk.i64_in _ (by omega)
          have kx : Kept (· = gi) w5 (w5.setCell ⟨gi, i, none⟩ (.bool false)) := (Kept.refl (· = gi) w5).setIn (p := ⟨gi, i, none⟩) rfl _
          have XI := K3.out.putI (j := i) (il_at LL1 hina) false
          rw [il_put hina, HI.out] at XI
          have GGI : G gi := K3.out.gi gi rfl
          have R1 := K1.out.kept kx (fun e => HG5.out (by have e : x5 = gi := e; rw [e]; exact GGI))
          have R2 := K2.out.kept kx (fun y hy e => by have := (K2.out.lt y hy).1; have := HGL.out gi GGI; have e : y = gi := e; omega)
          have R4 := K4.out.setIn (p := ⟨gi, i, none⟩) GGI (.bool false)
          have R5 := K5.out.kept kx (fun e => HG4.out (by have e : x4 = gi := e; rw [e]; exact GGI))
          have RR := Lib.hid (And.intro XI (And.intro R1 (And.intro R2 (And.intro R4 R5))))
          clear XI R1 R2 R4 R5 kx
          go_wp2_with fail
          exact ⟨⟨n + 1, by simp, by omega, Lib.hid ⟨j + 1, A', c', _, _, LK9.out, RR.out.2.1, RR.out.2.2.1, RR.out.1, RR.out.2.2.2.1, RR.out.2.2.2.2⟩⟩, by simp only [intOf]; omega⟩
        · have q0 : ((j : Int) == 0) = false := by simp; omega
          have LK9 : Hid (Lk una nx mv (n + 1) d (j + 1) LL (fun m => if m = n then false else LL1 m)) := Lib.hid (by have := LKN.out; rw [if_neg h0] at this; exact this)
          have HDI : Hid ((d - 1).toNat + j = i) := Lib.hid (by have := HI.out; have := HLK.out.run (by omega); omega)
          have FITS : Hid (lb ++ [y] = (all.drop (d - 1).toNat).take (j + 1)) := Lib.hid (by
            rw [take_snoc (by rw [HDI.out, HNA.out]; exact hina), HDI.out, HYY.out, HLBE.out])
          have d1 : wr.cell? ⟨x5, 1, none⟩ = some (.slice A j c) := J2.out.cell 1
          go_upto_region 12 with fail
          clear d0 d1 c1 c9 c3 h0 q0 LKN
          have J2d := Lib.hid (J2.out.drew); have J3d := Lib.hid (J3.out.fine (Fine.refl wr).drew); have J4d := Lib.hid (J4.out.fine (Fine.refl wr).drew); have J5d := Lib.hid J5.out.drew; have J6d := Lib.hid J6.out.drew
          have d0 : wr.cell? ⟨x5, 0, none⟩ = some (.int .i64 d) := J2.out.cell 0
          have d1 : wr.cell? ⟨x5, 1, none⟩ = some (.slice A j c) := J2.out.cell 1
          have c0 : wr.cell? ⟨x, 0, none⟩ = some (.slice (some ⟨gb, 0, none⟩) na cb) := by have := J4.out.box.cell 0; rw [HNA.out] at this; exact this
          have d4 : wr.cell? ⟨gb, i, none⟩ = some (.int .u8 y) := HBY'.out _ J4.out
          have e2 : ∀ o, (wr.alloc o).cell? ⟨x5, 1, none⟩ = some (.slice A j c) := fun o => (J2.out.fine ((Fine.refl wr).alloc o)).cell 1
          have z2 : ∀ o, (wr.alloc o).frozen? ⟨x5, 1, none⟩ = false := fun o => (J2.out.fine ((Fine.refl wr).alloc o)).frozen 1
          have hwr : w.heap.size ≤ wr.heap.size := J5.out.size
          go_cut [] (fun wx => Hid (∃ A' c', Blk wx x5 87 #[.int .i64 (d), .slice A' (j + 1) c'] ∧ Own layB 5 wx w.heap.size (.slice A' (j + 1) c') (lb ++ [y]) ∧ RsX G wx x (some ⟨gb, 0, none⟩) cb (some ⟨gi, 0, none⟩) ci all (il LL1 na) una (nx) ed told done ∧ Kept G w wx ∧ Blk wx x4 87 #[.int .i64 0, .slice none 0 0]))
          case first =>
            go_region_law (first | (refine step_appE rfl sliceB (.tmp 46) (.tmp 55) rfl w.heap.size (.slice A j c) lb rfl (J3d.out.fine ((Fine.refl _).alloc (.cells #[.int .u8 y] 5))) (some ⟨wr.heap.size, 0, none⟩) 1 1 [y] rfl rfl (RS.ofBlk (Blk.newAt rfl) rfl rfl (by unfold maxLen; omega)) (by rw [HLB.out]; simp; omega) (by rw [HLB.out]; simp; unfold maxLen; omega) (Nat.le_trans hwr ((Fine.refl wr).drew.alloc (.cells #[.int .u8 y] 5)).size) ?_; intro x2 wB oB kB0 gB0 bB; obtain ⟨A3, c3, hx2, _, _⟩ := oB.form; rw [HEL.out] at hx2; subst hx2; have KB : Kept (fun q => (Value.slice A j c).ownBlock = some q) (wr.drew.alloc (.cells #[.int .u8 y] 5)) wB := Kept.grown (Kept.refl _ _) gB0 (fun k hk _ => hk); have JA := J3d.out.fine ((Fine.refl wr.drew).alloc (.cells #[.int .u8 y] 5)); have BA := J2d.out.fine ((Fine.refl wr.drew).alloc (.cells #[.int .u8 y] 5)); have BB := BA.kept KB (fun e => JA.ne_blk e BA (by decide) rfl); have yB0 := BB.cell 1; have yB1 := BB.frozen 1))
            all_goals
              have fa := (Fine.refl wr.drew).alloc (.cells #[.int .u8 y] 5)
              have kx : Kept (· = x5) wB (wB.setCell ⟨x5, 1, none⟩ (.slice A3 (j + 1) c3)) := (Kept.refl (· = x5) wB).setIn (p := ⟨x5, 1, none⟩) rfl _
              have R1 : Blk (wB.setCell ⟨x5, 1, none⟩ (.slice A3 (j + 1) c3)) x5 87 #[.int .i64 (d), .slice A3 (j + 1) c3] := BB.set_ 1 _
              have R2 : Own layB 5 (wB.setCell ⟨x5, 1, none⟩ (.slice A3 (j + 1) c3)) w.heap.size (.slice A3 (j + 1) c3) (lb ++ [y]) := oB.kept kx (fun q hq e => oB.ne_blk hq BB (by decide) e)
              have R3 : RsX G (wB.setCell ⟨x5, 1, none⟩ (.slice A3 (j + 1) c3)) x (some ⟨gb, 0, none⟩) cb (some ⟨gi, 0, none⟩) ci all (il LL1 na) una (nx) ed told done := ((J4d.out.fine fa).kept KB (fun q hq e => by have := HGL.out q hq; have := (JA.lt q e).1; omega)).kept kx (fun q hq e => HG5.out (e ▸ hq))
              have R4 : Kept G w (wB.setCell ⟨x5, 1, none⟩ (.slice A3 (j + 1) c3)) := ((J5d.out.trans (Kept.of_fine fa)).transG KB (fun _ _ h => h) (fun q hq e => by have := (JA.lt q e).1; omega)).setCell (p := ⟨x5, 1, none⟩) (fun hh => by have hh : x5 < w.heap.size := hh; have := HX5.out; omega) _
              have R5 : Blk (wB.setCell ⟨x5, 1, none⟩ (.slice A3 (j + 1) c3)) x4 87 #[.int .i64 0, .slice none 0 0] := ((J6d.out.fine fa).kept KB (fun e => JA.ne_blk e (J6d.out.fine fa) (by decide) rfl)).kept kx (fun e => by have e : x4 = x5 := e; have := HX45.out; omega)
              have RR := Lib.hid (And.intro R1 (And.intro R2 (And.intro R3 (And.intro R4 R5))))
              clear R1 R2 R3 R4 R5 kx fa yB0 yB1 BB BA JA KB oB gB0 bB kB0
              go_wp2_with fail
              go_meet
              exact Lib.hid ⟨A3, c3, RR.out⟩
          case rest =>
          obtain ⟨A', c', k1, k2, k3, k4, k5⟩ := hcut.out
          obtain ⟨w5, hw5⟩ : ∃ w5, w5 = wc := ⟨_, rfl⟩
          subst hw5
          have K1 := Lib.hid k1; have K2 := Lib.hid k2; have K3 := Lib.hid k3; have K4 := Lib.hid k4; have K5 := Lib.hid k5
          clear k1 k2 k3 k4 k5 hcut J2d J3d J4d J5d J6d J2 J3 J4 J5 J6 d0 d1 d4 e2 z2 c0
          rw [FITS.out] at K2
          have c1 : w5.cell? ⟨x, 1, none⟩ = some (.slice (some ⟨gi, 0, none⟩) na ci) := by have := K3.out.box.cell 1; rw [il_len] at this; exact this
          have c13 : w5.cell? ⟨gi, i, none⟩ = some (.bool (LL1 n)) := by
            obtain ⟨_, _, hgi2, _, hc⟩ := K3.out.oi.rs.1.at_ (il_at LL1 hina)
            injection hgi2 with hgi2
            injection hgi2 with g1 g2
            subst g1 g2
            have := hc 0 _ rfl
            simp only [Nat.mul_one, Nat.add_zero, Nat.zero_add] at this
            rw [← HI.out]
            exact this
          have z13 := K3.out.oi.frozen i
          have ei1 : IntKind.i64.wrap (n - 1) = (i : Int) := by rw [show n - 1 = (i : Int) by have := HI.out; omega]; exact IntWalk.i64_in _ (by omega)
          have en1 : IntKind.i64.wrap (n + 1) = n + 1 := IntWalk.i64_in _ (by omega)
          have kx : Kept (· = gi) w5 (w5.setCell ⟨gi, i, none⟩ (.bool false)) := (Kept.refl (· = gi) w5).setIn (p := ⟨gi, i, none⟩) rfl _
          have XI := K3.out.putI (j := i) (il_at LL1 hina) false
          rw [il_put hina, HI.out] at XI
          have GGI : G gi := K3.out.gi gi rfl
          have R1 := K1.out.kept kx (fun e => HG5.out (by have e : x5 = gi := e; rw [e]; exact GGI))
          have R2 := K2.out.kept kx (fun y hy e => by have := (K2.out.lt y hy).1; have := HGL.out gi GGI; have e : y = gi := e; omega)
          have R4 := K4.out.setIn (p := ⟨gi, i, none⟩) GGI (.bool false)
          have R5 := K5.out.kept kx (fun e => HG4.out (by have e : x4 = gi := e; rw [e]; exact GGI))
          have RR := Lib.hid (And.intro XI (And.intro R1 (And.intro R2 (And.intro R4 R5))))
          clear XI R1 R2 R4 R5 kx
          go_wp2_with fail
          exact ⟨⟨n + 1, by simp, by omega, Lib.hid ⟨j + 1, A', c', _, _, LK9.out, RR.out.2.1, RR.out.2.2.1, RR.out.1, RR.out.2.2.2.1, RR.out.2.2.2.2⟩⟩, by simp only [intOf]; omega⟩
end Go.Proofs.Ytnigfdldfmiaiaa
