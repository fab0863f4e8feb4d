/- Nets: Send. -/
import Derived.Test.YthnennleblgjeaaDoorXNet2
namespace Go.Proofs.YthnennleblgjeaaDoor
set_option linter.unusedVariables false
set_option linter.unusedSimpArgs false
open Go.ChangeShapes Go.WideShapes Go.ChangeAt Go.RowKit
set_option linter.unusedVariables false
set_option linter.unusedSimpArgs false
theorem ntake_any (base g : Nat) (ps : List Pk) (p : Pk) (i : Nat) (hp : ps[i]? = some p) (hl : ps.length ≤ 1000) (hx : p.xs.length ≤ 100000) (pl : Nat) (sd : Int) (hpl : p.xs.length = pl) (hsd : p.side = sd) (w : World) (h : NetR w base g ps) :
    Calls Tryd.prog 28 #[.pointer (some ⟨g, 0, none⟩), .int .i64 i] w fun r w' => ∃ A' c', r = .returned (.tuple #[.agg #[.int .i64 sd, .slice A' pl c'], .int .i64 0]) ∧ OwnB w' w.heap.size (.slice A' pl c') p.xs ∧ NetR w' base g (ps.take i ++ ps.drop (i + 1)) ∧ Kept (· = g) w w' := by
  have hi := (List.getElem?_eq_some_iff.1 hp).1
  by_cases hlast : i + 1 = ps.length
  · refine (take_last base g ps p i hp hlast hl hx pl sd hpl hsd w h).mono ?_
    rintro r w' ⟨A', c', e, o, n, k⟩
    refine ⟨A', c', e, o, ?_, k⟩
    rw [hlast, List.drop_length, List.append_nil]
    exact n
  · exact take_mid base g ps p i hp (by omega) hl hx pl sd hpl hsd w h
/-- What a packet is: to which side it goes, its bytes. -/
def pv (ps : List Pk) : List (Int × List Int) := ps.map (fun p => (p.side, p.xs))
def sgB (s : Sg) : List Int := putOf (segB s.N s.l s.xs)
def sgR (s : Sg) : Bool := segRightB s.N s.l s.xs
def send1 (l : List (Int × List Int)) (sd : Int) (s : Sg) : List (Int × List Int) := if sgR s && !(l.length == 64) then l ++ [(sd, sgB s)] else l
def sendL (l : List (Int × List Int)) (sd : Int) (ss : List Sg) : List (Int × List Int) := ss.foldl (fun l s => send1 l sd s) l
theorem sendL_snoc (l : List (Int × List Int)) (sd : Int) (ss : List Sg) (s : Sg) : sendL l sd (ss ++ [s]) = send1 (sendL l sd ss) sd s := by simp [sendL]
structure SLp (w0 wr : World) (g b o c : Nat) (ps ps' : List Pk) (sd : Int) (segs : List Sg) (i k : Nat) : Prop where
  net : NetO wr w0.heap.size g ps'
  fine : Fine w0 wr
  blk : ∃ cs, Blk wr b 26 cs
  rs : RS layS wr (some ⟨b, o, none⟩) c segs
  len : ps'.length = ps.length + k
  le : ps'.length ≤ 64
  eq : pv ps' = sendL (pv ps) sd (segs.take i)
theorem SLp.step {w0 wr w' : World} {g b o c : Nat} {ps ps' : List Pk} {sd : Int} {segs : List Sg} {i k : Nat} (h : SLp w0 wr g b o c ps ps' sd segs i k) (f : Fine wr w') : SLp w0 w' g b o c ps ps' sd segs i k := by
  obtain ⟨h1, h2, ⟨cs, h3⟩, h4, h5, h6, h7⟩ := h
  exact ⟨h1.fine f, h2.trans f, ⟨cs, h3.fine f⟩, h4.fine f, h5, h6, h7⟩
theorem apartB {w : World} {base base2 : Nat} {u v : Value} {xs : List Int} {ps : List Pk} (h : OwnB w base u xs) (ho : Own layK 48 w base2 v ps) : ∀ k, u.ownBlock = some k → ¬ v.ownBlock = some k := by
  intro k hu hv
  rcases h.2.2 with ⟨rfl, _⟩ | ⟨q, cap, cur, rfl, _, hgg, _⟩
  · cases hu
  · injection hu with hu
    have hu : q = k := hu
    subst hu
    have h2 : Blk w q 5 cur := hgg
    exact own_ne ho h2 (by decide) q hv rfl
theorem SLp.push {w0 w9 w11 : World} {g b o c : Nat} {ps ps' : List Pk} {sd : Int} {segs : List Sg} {i k q : Nat} {v : Value} {A' : Option Addr} {c' : Nat} {p : Pk} {ob : Obj} {s : Sg} (h : SLp w0 w9 g b o c ps ps' sd segs i k)
    (hv : Blk w9 g 81 #[v]) (ho : Own layK 48 w9 w0.heap.size v ps') (hp : OwnB w9 w0.heap.size (.slice p.A p.xs.length p.c) p.xs) (hgr : (w9.alloc ob).grownBy w11 v.ownBlock) (hq : q = ps'.length) (hon : Own layK 48 w11 w0.heap.size (.slice A' (q + 1) c') (ps' ++ [p]))
    (hs : segs[i]? = some s) (h1 : sgR s = true) (h2 : ps'.length ≠ 64) (h3 : p.side = sd) (h4 : p.xs = sgB s) : SLp w0 (w11.setCell ⟨g, 0, none⟩ (.slice A' (q + 1) c')) g b o c ps (ps' ++ [p]) sd segs (i + 1) (k + 1) := by
  have hvs := ho.lt
  have fa : Fine w9 (w9.alloc ob) := (Fine.refl w9).alloc ob
  have kG : Kept (fun x => v.ownBlock = some x) w9 w11 := (Kept.of_fine fa).trans ((Kept.refl _ _).grown hgr (fun x hx _ => hx))
  have hgne : ¬ v.ownBlock = some g := fun e => own_ne ho hv (by decide) g e rfl
  have bg : Blk w11 g 81 #[v] := hv.kept kG hgne
  have kg : Kept (fun x => x = g) w11 (w11.setCell ⟨g, 0, none⟩ (.slice A' (q + 1) c')) := (Kept.refl (fun x => x = g) w11).setIn (p := ⟨g, 0, none⟩) rfl _
  have hge : w0.heap.size ≤ g := by obtain ⟨_, hh, _⟩ := h.net; exact hh
  obtain ⟨cs, hb⟩ := h.blk
  have hbne : ¬ v.ownBlock = some b := fun e => own_ne ho hb (by decide) b e rfl
  have hb2 : Blk w11 b 26 cs := hb.kept kG hbne
  have hbg : ¬ b = g := hb2.ne_ bg (by decide)
  have hlen : ps'.length + 1 = (ps' ++ [p]).length := by simp
  refine ⟨⟨.slice A' (q + 1) c', hge, bg.set_ 0 _, hon.kept kg (own_ne hon bg (by decide)), fun x hx => ?_⟩, ?_, ⟨cs, hb2.kept kg hbg⟩, ?_, ?_, ?_, ?_⟩
  · have hx1 : OwnB w9 w0.heap.size (.slice x.A x.xs.length x.c) x.xs := by
      rcases List.mem_append.mp hx with hx | hx
      · obtain ⟨_, _, _, _, hps⟩ := h.net
        exact hps x hx
      · obtain rfl : x = p := by simpa using hx
        exact hp
    have hx2 := hx1.keptS kG (apartB hx1 ho)
    exact hx2.keptS kg (hx2.ne81 bg (by decide))
  · exact (h.fine.kept kG (fun x hx e => by have := (hvs x e).1; omega)).kept kg (fun x hx e => by omega)
  · exact ((h.rs.kept kG (fun b2 o2 e => by injection e with e; injection e with e1 _; subst e1; exact hbne)).kept kg (fun b2 o2 e => by injection e with e; injection e with e1 _; subst e1; exact hbg))
  · have := h.len; simp; omega
  · have := h.le; simp; omega
  · have e0 : segs.take (i + 1) = segs.take i ++ [s] := by rw [List.take_add_one, hs]; rfl
    have e1 : (pv ps').length = ps'.length := by simp [pv]
    have e2 : ((pv ps').length == 64) = false := by rw [e1]; simpa using h2
    rw [e0, sendL_snoc, ← h.eq]
    unfold send1
    rw [h1, e2]
    simp [pv, h3, h4]
theorem SLp.skip {w0 w9 : World} {g b o c : Nat} {ps ps' : List Pk} {sd : Int} {segs : List Sg} {i k : Nat} {s : Sg} (h : SLp w0 w9 g b o c ps ps' sd segs i k) (hs : segs[i]? = some s) (h1 : sgR s = false ∨ ps'.length = 64) : SLp w0 w9 g b o c ps ps' sd segs (i + 1) k := by
  obtain ⟨g1, g2, g3, g4, g5, g6, g7⟩ := h
  refine ⟨g1, g2, g3, g4, g5, g6, ?_⟩
  have e0 : segs.take (i + 1) = segs.take i ++ [s] := by rw [List.take_add_one, hs]; rfl
  have e1 : (pv ps').length = ps'.length := by simp [pv]
  rw [e0, sendL_snoc, ← g7]
  unfold send1
  rcases h1 with h1 | h1
  · simp [h1]
  · simp [e1, h1]
set_option maxHeartbeats 8000000 in
set_option maxRecDepth 100000 in
theorem send_any (w0 : World) (hT : TabW w0) (g b o c : Nat) (ps : List Pk) (sd : Int) (hsd : 0 ≤ sd ∧ sd ≤ 1) (n : Nat) (segs : List Sg) (hn : n = segs.length) (hnl : n ≤ 1000) (hl : ps.length ≤ 64) (hS : ∀ s ∈ segs, s.At w0) (w : World) (hf : Fine w0 w) (hN : NetO w w0.heap.size g ps) (hB : ∃ cs, Blk w b 26 cs) (hR : RS layS w (some ⟨b, o, none⟩) c segs) :
    Calls Tryd.prog 26 #[.pointer (some ⟨g, 0, none⟩), .int .i64 sd, .slice (some ⟨b, o, none⟩) n c] w fun r w' => ∃ ps' k, r = .returned (.int .i64 ((k : Nat) : Int)) ∧ NetO w' w0.heap.size g ps' ∧ Fine w0 w' ∧ ps'.length = ps.length + k ∧ ps'.length ≤ 64 ∧ pv ps' = sendL (pv ps) sd segs := by
  have HNL := Lib.hid hn; clear hn
  have HT := Lib.hid hT; clear hT
  have HS := Lib.hid hS; clear hS
  have HI : Hid (SLp w0 w g b o c ps ps sd segs 0 0) := Lib.hid ⟨hN, hf, hB, hR, rfl, hl, rfl⟩
  clear hN hf hB hR
  have hs1 : ¬ sd < 0 := by omega
  have hs2 : ¬ sd > 1 := by omega
  go_enter Tryd.func26, Tryd.ntmps26
  go_wp2_with fail
  go_loopw [7, 24] (fun s7 s24 wr => ∃ i k : Nat, i ≤ n ∧ s24 = .int .i64 i ∧ s7 = .int .i64 ((k : Nat) : Int) ∧ k ≤ 64 ∧ ∃ ps', Hid (SLp w0 wr g b o c ps ps' sd segs i k)) (fun _ s24 _ => n - (intOf s24).toNat)
  case atStart => exact ⟨0, 0, Nat.zero_le _, rfl, rfl, by omega, ps, HI⟩
  case round =>
    obtain ⟨i, k, hi, rfl, rfl, hk, ps', HR⟩ := hrel
    by_cases hlt : i < n
    · obtain ⟨s, hs0⟩ : ∃ s, segs[i]? = some s := ⟨_, List.getElem?_eq_getElem (by have := HNL.out; omega)⟩
      have HAT := Lib.hid (HS.out s (List.mem_of_getElem? hs0))
      have HS0 := Lib.hid hs0
      obtain ⟨b', o', e, hb, hc⟩ := HR.out.rs.at_ hs0
      obtain rfl : b = b' := by injection e with e; injection e
      obtain rfl : o = o' := by injection e with e; injection e
      obtain ⟨ol, hol⟩ : ∃ x, s.l.length = x := ⟨_, rfl⟩
      obtain ⟨dl, hdl⟩ : ∃ x, s.xs.length = x := ⟨_, rfl⟩
      have c0 := hc 0 (.int .i64 (s.N 0)) rfl
      have c1 := hc 1 (.int .i64 (s.N 1)) rfl
      have c2 := hc 2 (.int .i64 (s.N 2)) rfl
      have c3 := hc 3 (.int .i64 (s.N 3)) rfl
      have c4 := hc 4 (.int .u32 (s.N 4)) rfl
      have c5 := hc 5 (.int .u32 (s.N 5)) rfl
      have c6 := hc 6 (.bool (decide (s.N 6 = 1))) rfl
      have c7 := hc 7 (.bool (decide (s.N 7 = 1))) rfl
      have c8 := hc 8 (.bool (decide (s.N 8 = 1))) rfl
      have c9 := hc 9 (.bool (decide (s.N 9 = 1))) rfl
      have c10 := hc 10 (.int .i64 (s.N 10)) rfl
      have c11 := hc 11 (.slice s.A s.l.length s.c) rfl
      have c12 := hc 12 (.slice s.B s.xs.length s.d) rfl
      simp only [← Nat.add_assoc, Nat.add_zero] at c0 c1 c2 c3 c4 c5 c6 c7 c8 c9 c10 c11 c12
      rw [hol] at c11
      rw [hdl] at c12
      have HOL := Lib.hid hol; have HDL := Lib.hid hdl
      clear hc hs0 e hb hol hdl
      go_upto_region 7 with (fail)
      clear c0 c1 c2 c3 c4 c5 c6 c7 c8 c9 c10 c11 c12
      have b8 : Blk (wr.alloc (.cells #[.int .i64 (s.N 0), .int .i64 (s.N 1), .int .i64 (s.N 2), .int .i64 (s.N 3), .int .u32 (s.N 4), .int .u32 (s.N 5), .bool (decide (s.N 6 = 1)), .bool (decide (s.N 7 = 1)), .bool (decide (s.N 8 = 1)), .bool (decide (s.N 9 = 1)), .int .i64 (s.N 10), .slice s.A ol s.c, .slice s.B dl s.d] 26)) wr.heap.size 26 #[.int .i64 (s.N 0), .int .i64 (s.N 1), .int .i64 (s.N 2), .int .i64 (s.N 3), .int .u32 (s.N 4), .int .u32 (s.N 5), .bool (decide (s.N 6 = 1)), .bool (decide (s.N 7 = 1)), .bool (decide (s.N 8 = 1)), .bool (decide (s.N 9 = 1)), .int .i64 (s.N 10), .slice s.A ol s.c, .slice s.B dl s.d] := Blk.new wr 26 _
      have f8 : Fine wr (wr.alloc (.cells #[.int .i64 (s.N 0), .int .i64 (s.N 1), .int .i64 (s.N 2), .int .i64 (s.N 3), .int .u32 (s.N 4), .int .u32 (s.N 5), .bool (decide (s.N 6 = 1)), .bool (decide (s.N 7 = 1)), .bool (decide (s.N 8 = 1)), .bool (decide (s.N 9 = 1)), .int .i64 (s.N 10), .slice s.A ol s.c, .slice s.B dl s.d] 26)) := (Fine.refl wr).alloc _
      generalize (wr.alloc (.cells #[.int .i64 (s.N 0), .int .i64 (s.N 1), .int .i64 (s.N 2), .int .i64 (s.N 3), .int .u32 (s.N 4), .int .u32 (s.N 5), .bool (decide (s.N 6 = 1)), .bool (decide (s.N 7 = 1)), .bool (decide (s.N 8 = 1)), .bool (decide (s.N 9 = 1)), .int .i64 (s.N 10), .slice s.A ol s.c, .slice s.B dl s.d] 26)) = w8 at b8 f8 ⊢
      generalize wr.heap.size = x8 at b8 ⊢
      have HR := Lib.hid (HR.out.step f8)
      have a0 : w8.cell? ⟨x8, 0, none⟩ = some (.int .i64 (s.N 0)) := b8.cell 0
      have a1 : w8.cell? ⟨x8, 1, none⟩ = some (.int .i64 (s.N 1)) := b8.cell 1
      have a2 : w8.cell? ⟨x8, 2, none⟩ = some (.int .i64 (s.N 2)) := b8.cell 2
      have a3 : w8.cell? ⟨x8, 3, none⟩ = some (.int .i64 (s.N 3)) := b8.cell 3
      have a4 : w8.cell? ⟨x8, 4, none⟩ = some (.int .u32 (s.N 4)) := b8.cell 4
      have a5 : w8.cell? ⟨x8, 5, none⟩ = some (.int .u32 (s.N 5)) := b8.cell 5
      have a6 : w8.cell? ⟨x8, 6, none⟩ = some (.bool (decide (s.N 6 = 1))) := b8.cell 6
      have a7 : w8.cell? ⟨x8, 7, none⟩ = some (.bool (decide (s.N 7 = 1))) := b8.cell 7
      have a8 : w8.cell? ⟨x8, 8, none⟩ = some (.bool (decide (s.N 8 = 1))) := b8.cell 8
      have a9 : w8.cell? ⟨x8, 9, none⟩ = some (.bool (decide (s.N 9 = 1))) := b8.cell 9
      have a10 : w8.cell? ⟨x8, 10, none⟩ = some (.int .i64 (s.N 10)) := b8.cell 10
      have a11 : w8.cell? ⟨x8, 11, none⟩ = some (.slice s.A ol s.c) := b8.cell 11
      have a12 : w8.cell? ⟨x8, 12, none⟩ = some (.slice s.B dl s.d) := b8.cell 12
      have hw8 : w0.heap.size ≤ w8.heap.size := HR.out.fine.size
      have HW8 := Lib.hid hw8
      clear f8 hw8 b8
      go_wp2_with fail
      refine (segPut_all s.N s.A s.B ol s.c dl s.d s.l s.xs HOL.out.symm HDL.out.symm HAT.out.num HAT.out.ok w8 (HT.out.fine HR.out.fine) (HAT.out.opts.fine HR.out.fine) (HAT.out.data.fine HR.out.fine)).mono ?_
      clear a0 a1 a2 a3 a4 a5 a6 a7 a8 a9 a10 a11 a12
      rintro x w9 ⟨f9, hput⟩
      have HR := Lib.hid (HR.out.step f9)
      rcases hput with ⟨hr, v9, rfl, o9⟩ | ⟨hr, rfl⟩
      · obtain ⟨vn, hge, hbn, hon, _⟩ := HR.out.net
        obtain ⟨An, cn, rfl, _, _⟩ := hon.form
        obtain ⟨q, hq⟩ : ∃ q, ps'.length = q := ⟨_, rfl⟩
        rw [hq] at hbn hon
        have HQ := Lib.hid hq; have HBN := Lib.hid hbn; have HON := Lib.hid hon; have HRR := Lib.hid hr
        have g0 : w9.cell? ⟨g, 0, none⟩ = some (.slice An q cn) := hbn.cell 0
        obtain ⟨A9, c9, rfl, _, _⟩ := o9.form
        have HO9 := Lib.hid (o9.lower (base' := w0.heap.size) HW8.out)
        obtain ⟨pl, hpl⟩ : ∃ x, (putOf (segB s.N s.l s.xs)).length = x := ⟨_, rfl⟩
        have HPL := Lib.hid hpl
        rw [hpl]
        have hq64 : q ≤ 64 := by have := HR.out.le; omega
        clear hbn hon hr o9 hpl hq hge
        by_cases h64 : q = 64
        · have e64 : ((q : Int) == 64) = true := by simp [h64]
          clear h64
          go_wp2_with fail
          have e65 : ps'.length = 64 := by have := HQ.out; simp at e64; omega
          exact ⟨⟨i + 1, k, hlt, by simp, rfl, hk, ps', Lib.hid (HR.out.skip HS0.out (.inr e65))⟩, by simp only [intOf]; omega⟩
        · have e64 : ((q : Int) == 64) = false := by simp; omega
          have hkk : (k : Int) ≤ 64 := by omega
          go_upto_region 9 with (fail)
          obtain ⟨bs, hbs⟩ : ∃ x, putOf (segB s.N s.l s.xs) = x := ⟨_, rfl⟩
          rw [hbs] at HO9 HPL
          have HBS : Hid (bs = sgB s) := Lib.hid hbs.symm
          clear hbs
          have f10 : Fine w9 (w9.alloc (.cells #[.int .i64 sd, .slice A9 pl c9] 48)) := (Fine.refl w9).alloc _
          have HROW : Hid (RS layK (w9.alloc (.cells #[.int .i64 sd, .slice A9 pl c9] 48)) (some ⟨w9.heap.size, 0, none⟩) 1 [⟨sd, A9, c9, bs⟩]) := Lib.hid (RS.ofBlk (Blk.new w9 48 _) (by rw [layK.flat_one]; simp [layK, HPL.out]) rfl (by unfold maxLen; omega))
          have HO10 := Lib.hid (HON.out.alloc (.cells #[.int .i64 sd, .slice A9 pl c9] 48))
          have HLQ : Hid (ps'.length + [(⟨sd, A9, c9, bs⟩ : Pk)].length = q + 1) := Lib.hid (by have := HQ.out; simp; omega)
          have HGE : Hid (w0.heap.size ≤ (w9.alloc (.cells #[.int .i64 sd, .slice A9 pl c9] 48)).heap.size) := Lib.hid (by have := HR.out.fine.size; have := f10.size; omega)
          have HB10 := Lib.hid (HBN.out.alloc (.cells #[.int .i64 sd, .slice A9 pl c9] 48))
          clear f10
          go_wp2_with (at_builtin; refine wpList_appE rfl sliceK (.tmp 47) (.tmp 51) rfl w0.heap.size _ ps' rfl HO10.out (some ⟨w9.heap.size, 0, none⟩) 1 1 [⟨sd, A9, c9, bs⟩] rfl rfl HROW.out (by have := HLQ.out; omega) (by unfold maxLen; have := HLQ.out; omega) HGE.out ?_; intro A' c' w11 ho kk hgr; rw [HLQ.out] at ho ⊢; clear kk; have hgc := HB10.out.grown hgr.out.1 (fun e => own_ne HO10.out HB10.out (by decide) g e.symm rfl); have gc0 : w11.cell? ⟨g, 0, none⟩ = some (.slice An q cn) := hgc.cell 0; have gz0 : w11.frozen? ⟨g, 0, none⟩ = false := hgc.frozen 0; clear hgc)
          have HN : Hid (SLp w0 (w11.setCell ⟨g, 0, none⟩ (.slice A' (q + 1) c')) g b o c ps (ps' ++ [⟨sd, A9, c9, bs⟩]) sd segs (i + 1) (k + 1)) := Lib.hid (HR.out.push HBN.out HON.out HO9.out hgr.out.1 HQ.out.symm ho.out HS0.out HRR.out (by have := HQ.out; omega) rfl HBS.out)
          have hk2 : k + 1 ≤ 64 := by have h1 := HN.out.le; have h2 := HN.out.len; omega
          exact ⟨⟨i + 1, k + 1, hlt, by simp, by simp, hk2, _, HN⟩, by simp only [intOf]; omega⟩
      · have HRR := Lib.hid hr; clear hr
        go_wp2_with fail
        exact ⟨⟨i + 1, k, hlt, by simp, rfl, hk, ps', Lib.hid (HR.out.skip HS0.out (.inl HRR.out))⟩, by simp only [intOf]; omega⟩
    · have hie : i = n := by omega
      subst hie
      go_wp2_with fail
      go_ret
      have h := HR.out
      exact ⟨ps', k, rfl, h.net, h.fine, h.len, h.le, by have e := h.eq; rw [HNL.out, List.take_length] at e; exact e⟩
end Go.Proofs.YthnennleblgjeaaDoor
