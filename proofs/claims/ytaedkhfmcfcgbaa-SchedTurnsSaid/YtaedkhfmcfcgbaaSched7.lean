/- The law SchedTurns walked. -/
import Derived.Test.YtaedkhfmcfcgbaaSched6
import Derived.Maps.OwnOps
import Derived.Maps.OwnSet
namespace Go.Proofs.Ytaedkhfmcfcgbaa
open Go.ChangeShapes Go.WideShapes Go.ChangeAt Go.RowKit Go.Maps
set_option linter.unusedVariables false

/-! A map of numbers to truths that the call makes, all of them true: a set. -/
def SetI (w : World) (b : Nat) (S : List Int) : Prop :=
  ∃ D : DataW Unit, w.ownsMap Try.prog 3 (plainElem Try.prog 4) b S.length D ∧ Maps.size D = S.length ∧ ∀ x : Int, Maps.has D (.int .i64 x) = decide (x ∈ S) ∧ D.atKey (.int .i64 x) (.lit (.bool false)) = .lit (.bool (decide (x ∈ S)))
theorem kI : Keyed Try.prog 3 := int_keyed Try.underlying3
theorem zeroB (w : World) : (zeroValue 4).run Try.prog w = .ok (.bool false) w := by kernel_rfl
theorem SetI.new (w : World) : SetI (w.alloc (.map #[] 0)) w.heap.size [] := ⟨.map [], World.ownsMap_made _ _ _ _, rfl, fun x => ⟨rfl, rfl⟩⟩
theorem SetI.fine {w w' : World} {b : Nat} {S : List Int} (h : SetI w b S) (hf : Fine w w') : SetI w' b S := by
  obtain ⟨D, h1, h2⟩ := h
  exact ⟨D, h1.kept (row := none) ⟨hf.os, hf.tape, hf.output, hf.size, fun k hk _ => hf.block k hk⟩ (by simp), h2⟩
theorem SetI.look {w : World} {b : Nat} {S : List Int} (h : SetI w b S) {x : Int} (hx : (Lit.int .i64 x).wf = true) :
    (Instr.lookup 30 (.map (some b)) (.int .i64 x) false).run Try.prog w = .ok (.bool (decide (x ∈ S))) w := by
  obtain ⟨D, h1, _, h3⟩ := h
  obtain ⟨v, ps, hrun, hv⟩ := h1.lookup kI Try.underlying30 (zeroB w) (plainElem_bool Try.underlying4 false) (keyOf_int_mk Try.underlying3 hx)
  rw [(h3 x).2] at hv
  unfold plainElem at hv
  rw [Try.underlying4] at hv
  cases v <;> simp at hv
  rw [hrun, hv.1]
theorem SetI.put {w : World} {b : Nat} {S : List Int} (h : SetI w b S) (hs : S.length < maxLen) {x : Int} (hx : (Lit.int .i64 x).wf = true) (hn : x ∉ S) :
    ∃ w', (Instr.mapUpdate 30 (.map (some b)) (.int .i64 x) (.bool true)).run Try.prog w = .ok () w' ∧ SetI w' b (S ++ [x]) ∧ Kept (· = b) w w' := by
  obtain ⟨D, h1, h2, h3⟩ := h
  obtain ⟨w', hrun, r1, r2⟩ := h1.update kI Try.underlying30 hs (keyOf_int_mk Try.underlying3 hx) (plainElem_bool Try.underlying4 true)
  refine ⟨w', hrun, ⟨_, by rw [List.length_append]; exact r1, ?_, fun y => ?_⟩, ⟨r2.os, r2.tape, r2.output, r2.size, fun k hk hne => r2.block k hk (fun e => hne (by injection e))⟩⟩
  · rw [size_put (h1.tidy kI), if_neg (by rw [(h3 x).1]; simp [hn]), h2]; simp
  · have hD := h1.isMap
    have hk : WideAt.IsKeyLit (.int .i64 x) := trivial
    by_cases e : y = x
    · subst e
      rw [has_put_same hD hk, atKey_put_same hD hk]
      simp
    · have hne : Lit.int .i64 y ≠ Lit.int .i64 x := fun e' => e (by injection e')
      rw [has_put_other hne, atKey_put_other hne, (h3 y).1, (h3 y).2]
      simp [e]
theorem SetI.len {w : World} {b : Nat} {S : List Int} (h : SetI w b S) (ty : TypeId) : (Builtin.len_ #[30] ty #[.map (some b)]).run Try.prog w = .ok (.int .i64 S.length) w := by
  obtain ⟨D, h1, h2, _⟩ := h
  rw [h1.len Try.underlying30 ty, h2]

/-! The picking goes round. -/
def ix (n s k : Nat) : Nat := if s + k < n then s + k else s + k - n
theorem ix_lt {n s k : Nat} (hs : s < n) (hk : k < n) : ix n s k < n := by unfold ix; split <;> omega
theorem ix_inj {n s i k : Nat} (hs : s < n) (hi : i < n) (hk : k < n) (h : ix n s i = ix n s k) : i = k := by unfold ix at h; split at h <;> split at h <;> omega
theorem ix_zero {n s : Nat} (hs : s < n) : ix n s 0 = s := by unfold ix; rw [if_pos (by omega)]; rfl
theorem ix_succ {n s k : Nat} (hs : s < n) (hk : k + 1 < n) : ix n s (k + 1) = if ix n s k + 1 < n then ix n s k + 1 else 0 := by unfold ix; split <;> split <;> split <;> omega
theorem turn_next {a : List Int} (h : a.Pairwise (· < ·)) {i : Nat} (hi : i < a.length) : turnOf (a.getD i 0) a = a.getD (if i + 1 < a.length then i + 1 else 0) 0 := by
  have mono : ∀ j k, j ≤ k → k < a.length → a.getD j 0 ≤ a.getD k 0 := fun j k hjk hk => by
    rcases Nat.lt_or_ge j k with h1 | h1
    · have := sorted_lt h h1 hk; omega
    · obtain rfl : j = k := by omega
      exact Int.le_refl _
  split
  · rename_i h1
    exact turn_hit h1 (sorted_lt h (by omega) h1) (fun j hj => mono j i (by omega) hi)
  · exact turn_miss (fun j hj => mono j i (by omega) hi)
theorem sorted_inj {a : List Int} (h : a.Pairwise (· < ·)) {i j : Nat} (hi : i < a.length) (hj : j < a.length) (e : a.getD i 0 = a.getD j 0) : i = j := by
  rcases Nat.lt_trichotomy i j with h1 | h1 | h1
  · have := sorted_lt h h1 hj; omega
  · exact h1
  · have := sorted_lt h h1 hi; omega
/-- What was picked in the first k rounds, from s on. -/
def went (a : List Int) (s k : Nat) : List Int := (List.range k).map fun i => a.getD (ix a.length s i) 0
theorem went_zero (a : List Int) (s : Nat) : went a s 0 = [] := rfl
theorem went_succ (a : List Int) (s k : Nat) : went a s (k + 1) = went a s k ++ [a.getD (ix a.length s k) 0] := by unfold went; rw [List.range_succ, List.map_append]; rfl
theorem went_length (a : List Int) (s k : Nat) : (went a s k).length = k := by simp [went]
theorem went_fresh {a : List Int} (h : a.Pairwise (· < ·)) {s k : Nat} (hs : s < a.length) (hk : k < a.length) : a.getD (ix a.length s k) 0 ∉ went a s k := by
  intro hm
  obtain ⟨i, hi, e⟩ := List.mem_map.1 hm
  have hi := List.mem_range.1 hi
  have := ix_inj hs (by omega) hk (sorted_inj h (ix_lt hs (by omega)) (ix_lt hs hk) e)
  omega

set_option maxHeartbeats 1000000 in
theorem lawSchedTurns (w : World) (A : Option Addr) (len c : Nat) (ps : List Pth) (hp : ps.length = len ∧ RS layP w A c ps ∧ ∀ q ∈ ps, q.wf) (last : Int) (wl : (Lit.int .i64 last).wf = true) :
    Calls Try.prog 4 #[.slice A len c, .int .i64 last] w fun e w' => e = .returned (.bool true) ∧ Below w.heap.size w w' := by
  show Calls _ _ _ _ fun e w' => e = .returned (.bool true) ∧ Fine w w'
  obtain ⟨rfl, h, _⟩ := hp
  have hmm := @run_makeMap Try.prog
  clear wl
  by_cases hm : ps.length ≤ 50
  · have hin := ables_in ps ps.length (Nat.le_refl _)
    have hall := ables_le ps ps.length
    have hsort := ables_sorted ps ps.length
    have hpn : ables ps ps.length = [] → ∀ l, picked ps 1 l = [] := fun e l => picked_none (.inl e)
    have hpq : ables ps ps.length ≠ [] → ∀ l, picked ps 1 l = [turnOf l (ables ps ps.length)] := fun e l => picked_turn e
    generalize hxs : ables ps ps.length = xs at hin hall hpn hpq hsort
    have HXS := Lib.hid hxs; clear hxs
    have HS := Lib.hid hsort; clear hsort
    by_cases hx0 : xs = []
    · have HP := Lib.hid (hpn hx0); clear hpn
      clear hpq
      subst hx0
      go_enter Try.func4, Try.ntmps4
      go_wp2_with fail
      refine (wakes_any _).mono ?_; rintro e w1 ⟨rfl, f1⟩
      go_wp2_with fail
      refine (refAble_any A c ps hm _ (h.fine (by repeat (first | exact Fine.refl _ | assumption | refine Fine.alloc ?_ _ | refine Fine.drew ?_ | refine Fine.drewN ?_ _ | refine Fine.trans ?_ (by assumption) | (refine Fine.kept ?_ (by assumption) (by intro x hx; first | omega | (simp; omega))) | (refine Fine.setCell ?_ (by first | assumption | (simp; omega)) _))))).mono ?_; rintro e w2 ⟨A2, c2, rfl, h2, f2⟩
      rw [HXS.out] at h2 ⊢
      have H2 := Lib.hid h2; clear h2
      go_wp2_with fail
      go_loopw [1, 18] (fun l i wr => l = .int .i64 last ∧ i = .int .i64 0 ∧ SetI wr w2.heap.size [] ∧ Fine w2 wr) (fun _ _ _ => 0)
      case atStart => exact ⟨rfl, rfl, SetI.new _, (by repeat (first | exact Fine.refl _ | assumption | refine Fine.alloc ?_ _ | refine Fine.drew ?_ | refine Fine.drewN ?_ _ | refine Fine.trans ?_ (by assumption) | (refine Fine.kept ?_ (by assumption) (by intro x hx; first | omega | (simp; omega))) | (refine Fine.setCell ?_ (by first | assumption | (simp; omega)) _)))⟩
      case round =>
        obtain ⟨rfl, rfl, hset, hf2⟩ := hrel
        have hlen := hset.len
        clear hset
        go_wp2_with fail
        refine (pick_any 1 last A c ps hm _ (h.fine (by repeat (first | exact Fine.refl _ | assumption | refine Fine.alloc ?_ _ | refine Fine.drew ?_ | refine Fine.drewN ?_ _ | refine Fine.trans ?_ (by assumption) | (refine Fine.kept ?_ (by assumption) (by intro x hx; first | omega | (simp; omega))) | (refine Fine.setCell ?_ (by first | assumption | (simp; omega)) _))))).mono ?_; rintro e w5 ⟨A5, c5, rfl, h5, f5⟩
        rw [HP.out] at h5 ⊢
        have H5 := Lib.hid h5; clear h5 hlen
        go_wp2_with fail
        go_ret
        exact ⟨rfl, (by repeat (first | exact Fine.refl _ | assumption | refine Fine.alloc ?_ _ | refine Fine.drew ?_ | refine Fine.drewN ?_ _ | refine Fine.trans ?_ (by assumption) | (refine Fine.kept ?_ (by assumption) (by intro x hx; first | omega | (simp; omega))) | (refine Fine.setCell ?_ (by first | assumption | (simp; omega)) _)))⟩
    · have HP := Lib.hid (hpq hx0); clear hpq hpn
      have hpos : 0 < xs.length := List.length_pos_iff.2 hx0
      clear hx0
      obtain ⟨s, hs, hse⟩ := List.getElem_of_mem (turn_mem (last := last) hpos)
      have hst0 : turnOf last xs = xs.getD (ix xs.length s 0) 0 := by rw [ix_zero hs]; simp [List.getD, hs, hse]
      clear hse
      have HT0 := Lib.hid hst0; clear hst0
      have hgt : decide ((0 : Int) < xs.length) = true := by simp; omega
      go_enter Try.func4, Try.ntmps4
      go_wp2_with fail
      refine (wakes_any _).mono ?_; rintro e w1 ⟨rfl, f1⟩
      go_wp2_with fail
      refine (refAble_any A c ps hm _ (h.fine (by repeat (first | exact Fine.refl _ | assumption | refine Fine.alloc ?_ _ | refine Fine.drew ?_ | refine Fine.drewN ?_ _ | refine Fine.trans ?_ (by assumption) | (refine Fine.kept ?_ (by assumption) (by intro x hx; first | omega | (simp; omega))) | (refine Fine.setCell ?_ (by first | assumption | (simp; omega)) _))))).mono ?_; rintro e w2 ⟨A2, c2, rfl, h2, f2⟩
      rw [HXS.out] at h2 ⊢
      have hx1 := h2.rs.1.max
      have hx2 := h2.rs.1.le
      unfold maxLen at hx1
      have H2 := Lib.hid h2; clear h2
      go_wp2_with fail
      go_loopw [1, 18] (fun l i wr => ∃ k : Nat, k ≤ xs.length ∧ i = .int .i64 k ∧ (∃ l' : Int, l = .int .i64 l' ∧ (k < xs.length → turnOf l' xs = xs.getD (ix xs.length s k) 0)) ∧ SetI wr w2.heap.size (went xs s k) ∧ Fine w2 wr) (fun _ i _ => xs.length - (intOf i).toNat)
      case atStart => exact ⟨0, Nat.zero_le _, rfl, ⟨last, rfl, fun _ => HT0.out⟩, SetI.new _, (by repeat (first | exact Fine.refl _ | assumption | refine Fine.alloc ?_ _ | refine Fine.drew ?_ | refine Fine.drewN ?_ _ | refine Fine.trans ?_ (by assumption) | (refine Fine.kept ?_ (by assumption) (by intro x hx; first | omega | (simp; omega))) | (refine Fine.setCell ?_ (by first | assumption | (simp; omega)) _)))⟩
      case round =>
        obtain ⟨k, hk, rfl, ⟨l', rfl, hl0⟩, hset, hf2⟩ := hrel
        have HL := Lib.hid hl0; clear hl0
        have hsz := hf2.size
        by_cases hlt : k < xs.length
        · have HSET := Lib.hid hset; clear hset
          go_wp2_with fail
          refine (pick_any 1 l' A c ps hm _ (h.fine (by repeat (first | exact Fine.refl _ | assumption | refine Fine.alloc ?_ _ | refine Fine.drew ?_ | refine Fine.drewN ?_ _ | refine Fine.trans ?_ (by assumption) | (refine Fine.kept ?_ (by assumption) (by intro x hx; first | omega | (simp; omega))) | (refine Fine.setCell ?_ (by first | assumption | (simp; omega)) _))))).mono ?_; rintro e w5 ⟨A5, c5, rfl, h5, f5⟩
          rw [HP.out, HL.out hlt] at h5 ⊢
          obtain ⟨x, hx, hxlt⟩ := hin.at_ (ix_lt hs hlt)
          have hnew := went_fresh HS.out hs hlt
          have hstep := went_succ xs s k
          have hnext : k + 1 < xs.length → turnOf (x : Int) xs = xs.getD (ix xs.length s (k + 1)) 0 := fun h1 => by
            rw [← hx, turn_next HS.out (ix_lt hs hlt), ix_succ hs h1]
          rw [hx] at h5 hnew hstep ⊢
          have hwf : (Lit.int .i64 (x : Int)).wf = true := WalkArith.wf_i64 (by omega)
          have hlook := (HSET.out.fine f5).look hwf
          rw [decide_eq_false hnew] at hlook
          obtain ⟨w6, hput, hset6, k6⟩ := (HSET.out.fine f5).put (by rw [went_length]; unfold maxLen; omega) hwf hnew
          rw [← hstep] at hset6
          obtain ⟨b5, o5, rfl, hb5, e5⟩ := h5.atI (i := 0) (by simp)
          have e5' : w5.cell? ⟨b5, o5, none⟩ = some (.int .i64 x) := e5
          have hnb : b5 ≠ w2.heap.size := by
            rintro rfl
            obtain ⟨D, ⟨es, cl, hbb, _⟩, _⟩ := HSET.out.fine f5
            simp [World.cell?, hbb] at e5'
          have e6 : w6.cell? ⟨b5, o5, none⟩ = some (.int .i64 x) := (k6.cell hb5 (by simpa using hnb)).trans e5'
          have H6 := Lib.hid hset6; clear hset6
          have HNX := Lib.hid hnext; clear hnext hstep hnew e5 hwf
          have H5 := Lib.hid h5; clear h5
          have HNB := Lib.hid hnb; clear hnb
          have f6 : Fine w w6 := Fine.kept (a := w) (by repeat (first | exact Fine.refl _ | assumption | refine Fine.alloc ?_ _ | refine Fine.drew ?_ | refine Fine.drewN ?_ _ | refine Fine.trans ?_ (by assumption) | (refine Fine.kept ?_ (by assumption) (by intro x hx; first | omega | (simp; omega))) | (refine Fine.setCell ?_ (by first | assumption | (simp; omega)) _))) k6 (by intro x hx; have := f1.size; have := f2.size; omega)
          have f6' : Fine w2 w6 := Fine.kept (a := w2) (by repeat (first | exact Fine.refl _ | assumption | refine Fine.alloc ?_ _ | refine Fine.drew ?_ | refine Fine.drewN ?_ _ | refine Fine.trans ?_ (by assumption) | (refine Fine.kept ?_ (by assumption) (by intro x hx; first | omega | (simp; omega))) | (refine Fine.setCell ?_ (by first | assumption | (simp; omega)) _))) k6 (by intro x hx; omega)
          go_wp2_with fail
          go_roundw
          case rel => exact ⟨k + 1, by omega, by go_num, ⟨x, rfl, HNX.out⟩, H6.out, f6'⟩
          case measure => simp [intOf]; omega
        · have he := Lib.hid (show k = xs.length by omega)
          have hlen := hset.len
          rw [went_length, he.out] at hlen
          clear hset
          go_wp2_with fail
          go_ret
          exact ⟨by simp, (by repeat (first | exact Fine.refl _ | assumption | refine Fine.alloc ?_ _ | refine Fine.drew ?_ | refine Fine.drewN ?_ _ | refine Fine.trans ?_ (by assumption) | (refine Fine.kept ?_ (by assumption) (by intro x hx; first | omega | (simp; omega))) | (refine Fine.setCell ?_ (by first | assumption | (simp; omega)) _)))⟩
  · go_enter Try.func4, Try.ntmps4
    go_wp2_with fail
    refine (wakes_any _).mono ?_; rintro e w1 ⟨rfl, f1⟩
    go_wp2_with fail
    go_ret
    exact ⟨rfl, (by repeat (first | exact Fine.refl _ | assumption | refine Fine.alloc ?_ _ | refine Fine.drew ?_ | refine Fine.drewN ?_ _ | refine Fine.trans ?_ (by assumption) | (refine Fine.kept ?_ (by assumption) (by intro x hx; first | omega | (simp; omega))) | (refine Fine.setCell ?_ (by first | assumption | (simp; omega)) _)))⟩
end Go.Proofs.Ytaedkhfmcfcgbaa
