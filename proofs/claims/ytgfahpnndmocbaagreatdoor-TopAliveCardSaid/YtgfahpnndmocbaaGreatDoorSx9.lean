/-
  The executor's operations are the model's: addresses, slices, places of strings and tuples.
-/
import Derived.Test.YtgfahpnndmocbaaGreatDoorSx8
namespace Go.Proofs.YtgfahpnndmocbaaGreatDoor.Sx
noncomputable section
open Go Go.RowKit
set_option linter.unusedVariables false
set_option linter.unusedSimpArgs false

section
variable {P : Program} {E : En} {β : Bm} {w : World}

theorem fieldAddrA_gives {s : TypeId} {x r : SV} {v : Value} {f : Nat} (hx : VR E β x v) (h : fieldAddrA P s x f = some r) : Gives P E β w (Instr.fieldAt s v f) r := by
  unfold fieldAddrA at h
  split at h
  · rename_i fs hu
    split at h
    · rename_i fd hf
      rw [lget_eq] at hf
      have hf' : fs[f]? = some fd := by simpa using hf
      split at h
      · rename_i n hn
        cases h0 : Nat.beq n 0
        · rw [h0] at h
          simp only [cond_false] at h
          have hne : ¬ n = 0 := Nat.ne_of_beq_eq_false h0
          cases hx <;> simp only [Option.some.injEq] at h <;> try (cases h; done)
          · rename_i id off b o e hb
            subst h
            refine ⟨_, by simp [Instr.fieldAt, run_und hu, hf', Instr.sureAddr, fieldPlace, szO_run hn, hne]; rfl, ?_⟩
            rw [addr_add, Nat.add_assoc]
            exact .ptr _ _ _ _ _ hb
          · rename_i g off
            subst h
            refine ⟨_, by simp [Instr.fieldAt, run_und hu, hf', Instr.sureAddr, fieldPlace, szO_run hn, hne]; rfl, ?_⟩
            rw [addr_add]
            exact .gptr _ _
        · rw [h0] at h; cases h
      · cases h
    · cases h
  · cases h

theorem indexAddrA_gives {t : TypeId} {x i r : SV} {v u : Value} (hx : VR E β x v) (hi : VR E β i u) (h : indexAddrA P t x i = some r) : Gives P E β w (Instr.indexAt t v u) r := by
  unfold indexAddrA at h
  split at h
  · cases h
  · rename_i n hn
    obtain ⟨k, rfl⟩ := natOf_ok hi hn
    split at h
    · rename_i len e hu
      split at h
      · rename_i sz hsz
        cases hb : Nat.blt n len
        · rw [hb] at h; cases h
        · rw [hb] at h
          rw [blt_eq] at hb
          have hlt : n < len := by simpa using hb
          simp only [cond_true] at h
          have hc : (0 : Int) ≤ (n : Int) ∧ (n : Int) < (len : Nat) := by omega
          cases hx <;> simp only [Option.some.injEq] at h <;> try (cases h; done)
          · rename_i id off b o e' hb'
            subst h
            refine ⟨_, by simp [Instr.indexAt, asIntOf, run_und hu, Instr.sureAddr, hc, hlt, szO_run hsz]; rfl, ?_⟩
            rw [addr_add, Nat.add_assoc]
            exact .ptr _ _ _ _ _ hb'
          · rename_i g off
            subst h
            refine ⟨_, by simp [Instr.indexAt, asIntOf, run_und hu, Instr.sureAddr, hc, hlt, szO_run hsz]; rfl, ?_⟩
            rw [addr_add]
            exact .gptr _ _
      · cases h
    · rename_i e hu
      split at h
      · rename_i sz hsz
        split at h
        · rename_i id off len cap
          cases hb : Nat.blt n len
          · rw [hb] at h; cases h
          · rw [hb] at h
            rw [blt_eq] at hb
            have hlt : n < len := by simpa using hb
            simp only [cond_true, Option.some.injEq] at h
            subst h
            cases hx
            rename_i b o e' hb'
            refine ⟨_, by simp [Instr.indexAt, asIntOf, run_und hu, Instr.sureAddr, hlt, szO_run hsz]; rfl, ?_⟩
            rw [addr_add, Nat.add_assoc]
            exact .ptr _ _ _ _ _ hb'
        · rename_i id off len sz'
          cases hb : Nat.blt n len
          · rw [hb] at h; cases h
          · rw [hb] at h
            rw [blt_eq] at hb
            have hlt : n < len := by simpa using hb
            simp only [cond_true, Option.some.injEq] at h
            subst h
            cases hx
            rename_i b o e' c hb' hn' hc'
            refine ⟨_, by simp [Instr.indexAt, asIntOf, run_und hu, Instr.sureAddr, hlt, szO_run hsz]; rfl, ?_⟩
            rw [addr_add, Nat.add_assoc]
            exact .ptr _ _ _ _ _ hb'
        · cases h
      · cases h
    · cases h

theorem strAt_ok {s : ByteArray} {n : Nat} {r : SV} (h : strAt s n = some r) : ∃ b : UInt8, s[n]? = some b ∧ r = .int .u8 (b.toNat : Nat) := by
  unfold strAt at h
  split at h
  · rename_i b hb
    rw [lget_eq] at hb
    simp only [Option.some.injEq] at h
    refine ⟨b, ?_, h.symm⟩
    have hlt : n < s.data.toList.length := (List.getElem?_eq_some_iff.1 hb).1
    have hlt' : n < s.size := by
      have : s.data.toList.length = s.size := by cases s; rfl
      omega
    rw [ByteArray.getElem?_lt' s n hlt']
    have hv := (List.getElem?_eq_some_iff.1 hb).2
    congr 1
  · cases h

theorem indexA_gives {t : TypeId} {x i r : SV} {v u : Value} (hx : VR E β x v) (hi : VR E β i u) (h : indexA P t x i = some r) : Gives P E β w (Instr.index t v u) r := by
  unfold indexA at h
  split at h
  · cases h
  · rename_i n hn
    obtain ⟨k, rfl⟩ := natOf_ok hi hn
    split at h
    · rename_i len e hu
      split at h
      · rename_i l sz hsz
        cases hb : Nat.blt n len
        · rw [hb] at h; cases h
        · rw [hb] at h
          rw [blt_eq] at hb
          have hlt : n < len := by simpa using hb
          simp only [cond_true] at h
          cases hx
          rename_i cs hl hl1
          obtain ⟨q, hq, hr⟩ := part_run (P := P) (w := w) hl hl1 h
          refine ⟨q, ?_, hr⟩
          simp only [Instr.index, asIntOf, Sem.run_bind, Sem.run_pure, run_und hu, Result.andThen_ok]
          rw [if_pos (by omega)]
          simp only [Sem.run_bind, szO_run hsz, Result.andThen_ok, Int.toNat_natCast]
          exact hq
      · cases h
    · rename_i hu
      split at h
      · rename_i s
        cases hx
        obtain ⟨b, hb, rfl⟩ := strAt_ok h
        refine ⟨.int .u8 (b.toNat : Nat), ?_, .int _ _⟩
        simp only [Instr.index, asIntOf, Sem.run_bind, Sem.run_pure, run_und hu, Result.andThen_ok]
        have e : (if (0 : Int) ≤ (n : Int) then s[((n : Int)).toNat]? else none) = some b := by simp [hb]
        rw [e]
        rfl
      · cases h
    · cases h

theorem fieldA_gives {t : TypeId} {x r : SV} {v : Value} {f : Nat} (hx : VR E β x v) (h : fieldA P t x f = some r) : Gives P E β w (Instr.field t v f) r := by
  unfold fieldA at h
  split at h
  · rename_i fs hu
    split at h
    · rename_i fd l hf
      rw [lget_eq] at hf
      have hf' : fs[f]? = some fd := by simpa using hf
      cases hx
      rename_i cs hl hl1
      obtain ⟨q, hq, hr⟩ := part_run (P := P) (w := w) hl hl1 h
      exact ⟨q, by simp [Instr.field, run_und hu, hf', asAgg, hq], hr⟩
    · cases h
  · cases h

theorem extract_gives {l : List SV} {r : SV} {v : Value} {i : Nat} (hx : VR E β (.tup l) v) (h : lget l i = some r) : Gives P E β w (Instr.extract v i) r := by
  cases hx
  rename_i cs hl
  rw [lget_eq] at h
  obtain ⟨q, hq, hr⟩ := hl.get h
  have : cs[i]? = some q := by simpa using hq
  exact ⟨q, by simp [Instr.extract, this], hr⟩

/-- operands that may lack -/
def OR (E : En) (β : Bm) : Option SV → Option Value → Prop
  | none, none => True
  | some a, some b => VR E β a b
  | _, _ => False

/-- a bound of a slice -/
theorem bound_ok {x : Option SV} {v : Option Value} {d n : Nat} (hx : OR E β x v) (h : boundS x d = some n) :
    (x = none ∧ v = none ∧ n = d) ∨ (∃ k, v = some (.int k (n : Nat))) := by
  cases x with
  | none =>
    cases v with
    | none => simp only [boundS, Option.some.injEq] at h; exact .inl ⟨rfl, rfl, h.symm⟩
    | some u => exact hx.elim
  | some a =>
    cases v with
    | none => exact hx.elim
    | some u =>
      simp only [boundS] at h
      obtain ⟨k, rfl⟩ := natOf_ok hx h
      exact .inr ⟨k, rfl⟩

theorem bounds_run {lo hi mx : Option SV} {vlo vhi vmx : Option Value} {len cap l m n : Nat} {isSlice : Bool} (h1 : OR E β lo vlo) (h2 : OR E β hi vhi) (h3 : OR E β mx vmx)
    (e1 : boundS lo 0 = some l) (e2 : boundS hi len = some n) (e3 : boundS mx cap = some m) (hl : l ≤ n) (hn : n ≤ m) (hm : m ≤ cap) (hmx : mx = none ∨ hi.isSome = true) :
    (Instr.sliceBounds isSlice len cap vlo vhi vmx).run P w = .ok (l, n, m) w := by
  rcases bound_ok h1 e1 with ⟨_, rfl, rfl⟩ | ⟨k1, rfl⟩ <;> rcases bound_ok h2 e2 with ⟨a2, rfl, rfl⟩ | ⟨k2, rfl⟩ <;> rcases bound_ok h3 e3 with ⟨a3, rfl, rfl⟩ | ⟨k3, rfl⟩ <;>
    first
    | (simp [Instr.sliceBounds, Instr.sliceBound, asIntOf, hl, hn, hm]; done)
    | (rcases hmx with h | h
       · subst h; exact h3.elim
       · rw [a2] at h; cases h)

theorem bnds_ok {lo hi mx : Option SV} {vlo vhi vmx : Option Value} {len cap l m n : Nat} {isSlice : Bool} (h1 : OR E β lo vlo) (h2 : OR E β hi vhi) (h3 : OR E β mx vmx)
    (h : bnds lo hi mx len cap = some (l, n, m)) : (Instr.sliceBounds isSlice len cap vlo vhi vmx).run P w = .ok (l, n, m) w ∧ l ≤ n ∧ n ≤ m ∧ m ≤ cap := by
  unfold bnds at h
  split at h
  · rename_i l' n' m' e1 e2 e3
    cases hb : (Nat.ble l' n' && Nat.ble n' m' && Nat.ble m' cap && (mx.isNone || hi.isSome))
    · rw [hb] at h; cases h
    · rw [hb] at h
      simp only [Bool.and_eq_true] at hb
      obtain ⟨⟨⟨b1, b2⟩, b3⟩, b4⟩ := hb
      simp only [cond_true, Option.some.injEq, Prod.mk.injEq] at h
      obtain ⟨rfl, rfl, rfl⟩ := h
      have c1 := Nat.le_of_ble_eq_true b1
      have c2 := Nat.le_of_ble_eq_true b2
      have c3 := Nat.le_of_ble_eq_true b3
      refine ⟨bounds_run h1 h2 h3 e1 e2 e3 c1 c2 c3 ?_, c1, c2, c3⟩
      cases mx with
      | none => exact .inl rfl
      | some _ => exact .inr (by simpa using b4)
  · cases h

theorem cutO_addr (b o off l m sz : Nat) : (if m = l then (⟨b, o + off, none⟩ : Addr) else (⟨b, o + off, none⟩ : Addr).add (l * sz)) = ⟨b, o + cutO off l m sz, none⟩ := by
  unfold cutO
  rw [nbeq]
  by_cases h : m = l
  · simp [h]
  · simp only [h, if_false, decide_false, cond_false]
    rw [addr_add, Nat.add_assoc]
    rfl

theorem sliceR_gives {t e : TypeId} {sz : Nat} {x r : SV} {v : Value} {lo hi mx : Option SV} {vlo vhi vmx : Option Value} (hu : P.underlying t = some (.slice e)) (hsz : szO P e = some sz) (hx : VR E β x v)
    (h1 : OR E β lo vlo) (h2 : OR E β hi vhi) (h3 : OR E β mx vmx) (h : sliceR sz x lo hi mx = some r) : Gives P E β w (Instr.slice t v vlo vhi vmx) r := by
  unfold sliceR at h
  split at h
  · -- nil
    cases hx
    split at h
    · rename_i q hq
      obtain ⟨l, n, m⟩ := q
      simp only [Option.some.injEq] at h; subst h
      obtain ⟨r1, r2, r3, r4⟩ := bnds_ok (P := P) (w := w) (isSlice := true) h1 h2 h3 hq
      refine ⟨.slice none 0 0, ?_, .nils⟩
      simp only [Instr.slice, Sem.run_bind, run_und hu, Result.andThen_ok, r1, szO_run hsz]
      have : m = 0 := by omega
      subst this
      have : n = 0 := by omega
      subst this
      have : l = 0 := by omega
      subst this
      simp
    · cases h
  · rename_i id off len cap
    cases hx
    rename_i b o e' hb
    split at h
    · rename_i l n m hq
      simp only [Option.some.injEq] at h; subst h
      obtain ⟨r1, r2, r3, r4⟩ := bnds_ok (P := P) (w := w) (isSlice := true) h1 h2 h3 hq
      refine ⟨.slice (some ⟨b, o + cutO off l m sz, none⟩) (n - l) (m - l), ?_, .sli _ _ _ _ _ _ _ hb⟩
      simp only [Instr.slice, Sem.run_bind, run_und hu, Result.andThen_ok, r1, szO_run hsz, Sem.run_pure]
      rw [← cutO_addr]
      split <;> rfl
    · cases h
  · rename_i id off len sz'
    cases hs : Nat.beq sz sz'
    · rw [hs] at h; cases h
    · rw [hs] at h
      have := Nat.eq_of_beq_eq_true hs
      subst this
      simp only [cond_true] at h
      cases hx
      rename_i b o e' c hb hn hc
      split at h
      · rename_i l n m hq
        split at h
        · -- all three bounds
          rename_i q
          simp only [Option.some.injEq] at h; subst h
          have hq' : bnds lo hi (some q) len c = some (l, n, m) := by
            unfold bnds at hq ⊢
            split at hq
            · rename_i l' n' m' e1 e2 e3
              cases hbb : (Nat.ble l' n' && Nat.ble n' m' && Nat.ble m' len && ((some q).isNone || hi.isSome))
              · rw [hbb] at hq; cases hq
              · rw [hbb] at hq
                simp only [cond_true, Option.some.injEq, Prod.mk.injEq] at hq
                obtain ⟨rfl, rfl, rfl⟩ := hq
                simp only [Bool.and_eq_true] at hbb
                have e3' : boundS (some q) c = some m' := e3
                rw [e1, e2, e3']
                have : Nat.ble m' c = true := Nat.ble_eq_true_of_le (Nat.le_trans (Nat.le_of_ble_eq_true hbb.1.2) hn)
                simp only [hbb.1.1.1, hbb.1.1.2, this, hbb.2, Bool.and_self, cond_true]
            · cases hq
          obtain ⟨r1, r2, r3, r4⟩ := bnds_ok (P := P) (w := w) (isSlice := true) h1 h2 h3 hq'
          refine ⟨.slice (some ⟨b, o + cutO off l m sz, none⟩) (n - l) (m - l), ?_, .sli _ _ _ _ _ _ _ hb⟩
          simp only [Instr.slice, Sem.run_bind, run_und hu, Result.andThen_ok, r1, szO_run hsz, Sem.run_pure]
          rw [← cutO_addr]
          split <;> rfl
        · -- two
          have hv : vmx = none := by cases vmx <;> first | rfl | exact h3.elim
          subst hv
          have hq' : bnds lo hi none len c = some (l, n, c) ∧ l ≤ n ∧ n ≤ len := by
            unfold bnds at hq ⊢
            split at hq
            · rename_i l' n' m' e1 e2 e3
              cases hbb : (Nat.ble l' n' && Nat.ble n' m' && Nat.ble m' len && ((none : Option SV).isNone || hi.isSome))
              · rw [hbb] at hq; cases hq
              · rw [hbb] at hq
                simp only [cond_true, Option.some.injEq, Prod.mk.injEq] at hq
                obtain ⟨rfl, rfl, rfl⟩ := hq
                simp only [Bool.and_eq_true] at hbb
                have g1 := Nat.le_of_ble_eq_true hbb.1.1.1
                have g2 := Nat.le_of_ble_eq_true hbb.1.1.2
                have g3 := Nat.le_of_ble_eq_true hbb.1.2
                rw [e1, e2]
                have k1 : Nat.ble n' c = true := Nat.ble_eq_true_of_le (by omega)
                have k2 : Nat.ble c c = true := Nat.ble_eq_true_of_le (Nat.le_refl _)
                refine ⟨?_, g1, by omega⟩
                show (match some l', some n', boundS none c with | some l, some n, some m => _ | _, _, _ => none) = _
                simp only [boundS, hbb.1.1.1, k1, k2, Option.isNone_none, Bool.true_or, Bool.and_self, cond_true]
            · cases hq
          obtain ⟨hq', g1, g2⟩ := hq'
          obtain ⟨r1, r2, r3, r4⟩ := bnds_ok (P := P) (w := w) (isSlice := true) h1 h2 h3 hq'
          have hrun : (Instr.slice t (.slice (some ⟨b, o + off, none⟩) len c) vlo vhi none).run P w = .ok (.slice (some ⟨b, o + cutO off l c sz, none⟩) (n - l) (c - l)) w := by
            simp only [Instr.slice, Sem.run_bind, run_und hu, Result.andThen_ok, r1, szO_run hsz, Sem.run_pure]
            rw [← cutO_addr]
            split <;> rfl
          refine ⟨_, hrun, ?_⟩
          cases hl0 : Nat.beq l 0
          · rw [hl0] at h
            simp only [cond_false] at h
            have hl0' : l ≠ 0 := Nat.ne_of_beq_eq_false hl0
            cases hll : Nat.beq l len
            · rw [hll] at h
              simp only [cond_false, Option.some.injEq] at h; subst h
              have hll' : l ≠ len := Nat.ne_of_beq_eq_false hll
              have : cutO off l c sz = off + l * sz := by
                unfold cutO; rw [nbeq, decide_eq_false (by omega)]; rfl
              rw [this]
              refine .slu _ _ _ _ _ _ _ _ hb (by show n - l ≤ c - l; omega) ?_
              have : l * sz + (c - l) * sz = c * sz := by rw [← Nat.add_mul]; congr 1; omega
              show o + (off + l * sz) + (c - l) * sz ≤ e'
              omega
            · rw [hll] at h
              have hll' : l = len := Nat.eq_of_beq_eq_true hll
              simp only [cond_true, Option.some.injEq] at h; subst h
              have : n - l = 0 := by omega
              rw [this]
              exact .sle _ _
          · rw [hl0] at h
            have hl0' : l = 0 := Nat.eq_of_beq_eq_true hl0
            simp only [cond_true, Option.some.injEq] at h; subst h
            subst hl0'
            have : cutO off 0 c sz = off := by
              unfold cutO; cases Nat.beq c 0 <;> simp
            rw [this]
            exact .slu _ _ _ _ _ _ _ _ hb (by simp; omega) (by simpa using hc)
      · cases h
  · cases h

theorem sliceA_gives {t : TypeId} {x r : SV} {v : Value} {lo hi mx : Option SV} {vlo vhi vmx : Option Value} (hx : VR E β x v)
    (h1 : OR E β lo vlo) (h2 : OR E β hi vhi) (h3 : OR E β mx vmx) (h : sliceA P t x lo hi mx = some r) : Gives P E β w (Instr.sliceAt t v vlo vhi vmx) r := by
  unfold sliceA at h
  split at h
  · rename_i k e hu
    split at h
    · rename_i sz hsz
      split at h
      · rename_i id off
        cases hx
        rename_i b o e' hb
        split at h
        · rename_i l n m hq
          simp only [Option.some.injEq] at h; subst h
          obtain ⟨r1, r2, r3, r4⟩ := bnds_ok (P := P) (w := w) (isSlice := false) h1 h2 h3 hq
          refine ⟨.slice (some ⟨b, o + cutO off l m sz, none⟩) (n - l) (m - l), ?_, .sli _ _ _ _ _ _ _ hb⟩
          simp only [Instr.sliceAt, Sem.run_bind, run_und hu, Result.andThen_ok, Instr.sureAddr, r1, szO_run hsz, Sem.run_pure]
          rw [← cutO_addr]
        · cases h
      · cases h
    · cases h
  · rename_i hu
    split at h
    · rename_i s
      cases hx
      split at h
      · have hv : vmx = none := by cases vmx <;> first | rfl | exact h3.elim
        subst hv
        split at h
        · rename_i l n m hq
          simp only [Option.some.injEq] at h; subst h
          obtain ⟨r1, r2, r3, r4⟩ := bnds_ok (P := P) (w := w) (isSlice := false) (vmx := none) h1 h2 h3 hq
          refine ⟨.string (s.extract l n), ?_, .str _⟩
          simp [Instr.sliceAt, Instr.slice, run_und hu, r1]
        · cases h
      · cases h
    · cases h
  · rename_i e hu
    split at h
    · rename_i sz hsz
      obtain ⟨q, hq, hr⟩ := sliceR_gives (P := P) (w := w) hu hsz hx h1 h2 h3 h
      refine ⟨q, ?_, hr⟩
      simp only [Instr.sliceAt, Sem.run_bind, run_und hu, Result.andThen_ok]
      exact hq
    · cases h
  · cases h
end
end
end Go.Proofs.YtgfahpnndmocbaaGreatDoor.Sx
