/-
  The executor's operators are the model's: equality, conversions.
-/
import Derived.Test.YtgfahpnndmocbaaGreatDoorSx5b
import Derived.Laws.Strings
import Derived.Laws.Concat
namespace Go.Proofs.YtgfahpnndmocbaaGreatDoor.Sx
noncomputable section
open Go Go.RowKit
set_option linter.unusedVariables false
set_option linter.unusedSimpArgs false

section
variable {P : Program} {E : En} {β : Bm} {w : World}

theorem run_und {t : TypeId} {d : TypeDesc} (h : P.underlying t = some d) (w : World) : (underlying t).run P w = .ok d w := run_underlying h w

theorem eqC_run {x y : SV} {v u : Value} {b : Bool} (hx : VR E β x v) (hy : VR E β y u) (h : eqC x y = some b) :
    ∃ k z z', v = .int k z ∧ u = .int k z' ∧ b = (z == z') := by
  cases hx <;> cases hy <;> simp only [eqC] at h <;> try (cases h; done)
  · rename_i k z k' z'
    cases hk : keq k k'
    · rw [hk] at h; cases h
    · rw [hk] at h
      have := keq_eq hk
      subst this
      simp only [cond_true, Option.some.injEq] at h
      subst h
      exact ⟨_, _, _, rfl, rfl, ieq_eq _ _⟩
  · rename_i k t hb k' t' hb'
    cases hk : (keq k k' && Tm.beq t t')
    · rw [hk] at h; cases h
    · rw [hk] at h
      simp only [Bool.and_eq_true] at hk
      have := keq_eq hk.1
      subst this
      have := Tm.beq_eq _ _ hk.2
      subst this
      simp only [cond_true, Option.some.injEq] at h
      subst h
      exact ⟨_, _, _, rfl, rfl, by simp⟩
theorem eqD_run {x y : SV} {v u : Value} {b : Bool} (hx : VR E β x v) (hy : VR E β y u) (h : eqD x y = some b) :
    ∃ c d, v = .bool c ∧ u = .bool d ∧ b = (c == d) := by
  cases hx <;> cases hy <;> simp only [eqD] at h <;> try (cases h; done)
  rename_i c d
  simp only [Option.some.injEq] at h
  subst h
  exact ⟨_, _, rfl, rfl, rfl⟩

theorem aggO_run {t : TypeId} {b : Bool} (h : aggO P t = some b) (w : World) : (isAgg t).run P w = .ok b w := by
  unfold aggO at h
  split at h
  · rename_i fs hu
    simp only [Option.some.injEq] at h; subst h
    simp [isAgg, run_und hu]
  · rename_i n e hu
    simp only [Option.some.injEq] at h; subst h
    simp [isAgg, run_und hu]
  · rename_i d hn1 hn2 hu
    simp only [Option.some.injEq] at h; subst h
    simp only [isAgg, Sem.run_bind, run_und hu, Result.andThen_ok]
    rfl
  · cases h
theorem szO_run {t : TypeId} {n : Nat} (h : szO P t = some n) (w : World) : (sizeOf t).run P w = .ok n w := by
  unfold szO at h
  split at h
  · rename_i i hi
    simp only [Option.some.injEq] at h; subst h
    simp [sizeOf, typeInfo, hi]
  · cases h

theorem part_run {t : TypeId} {l : List SV} {cs : Array Value} {off : Nat} {r : SV} (hl : VRs E β l cs.toList) (h1 : allOne l = true) (h : part P t l off = some r) :
    ∃ v, (Go.part t cs off).run P w = .ok v w ∧ VR E β r v := by
  unfold part at h
  split at h
  · rename_i ha
    split at h
    · rename_i n hn
      split at h
      · rename_i q hq
        simp only [Option.some.injEq] at h; subst h
        obtain ⟨e1, e2, e3⟩ := lseg_some hq
        refine ⟨.agg (cs.extract off (off + n)), by simp [Go.part, aggO_run ha, szO_run hn], ?_⟩
        refine .agg _ _ ?_ ?_
        · rw [e2, Array.toList_extract]
          have := (hl.drop off).take n
          simpa [List.extract_eq_take_drop] using this
        · rw [e2]; exact allOne_take (allOne_drop h1 _) _
      · cases h
    · cases h
  · rename_i ha
    rw [lget_eq] at h
    obtain ⟨v, hv, hr⟩ := hl.get h
    refine ⟨v, ?_, hr⟩
    have : cs[off]? = some v := by simpa using hv
    simp [Go.part, aggO_run ha, this]
  · cases h

theorem eqFs_run (eqS : TypeId → SV → SV → Option Bool) (eqM : TypeId → Value → Value → Sem Bool)
    (he : ∀ t x y v u b, VR E β x v → VR E β y u → eqS t x y = some b → (eqM t v u).run P w = .ok b w)
    {l m : List SV} {xs ys : Array Value} (hl : VRs E β l xs.toList) (hl1 : allOne l = true) (hm : VRs E β m ys.toList) (hm1 : allOne m = true) :
    ∀ (fs : List Field) (b : Bool), eqFs P eqS l m fs = some b →
      ((forIn fs ((none, ()) : Option Bool × Unit) fun f r => do
          if f.name ≠ "_" then
            if !(← eqM f.type (← Go.part f.type xs f.offset) (← Go.part f.type ys f.offset)) then pure (ForInStep.done (some false, ()))
            else pure (ForInStep.yield (none, ()))
          else pure (ForInStep.yield (none, ()))) : Sem _).run P w = .ok (if b then (none, ()) else (some false, ())) w := by
  intro fs
  induction fs with
  | nil => intro b h; simp only [eqFs, Option.some.injEq] at h; subst h; rfl
  | cons f fs ih =>
    intro b h
    simp only [eqFs] at h
    cases hn : (f.name == "_")
    · rw [hn] at h
      simp only [cond_false] at h
      have hne : f.name ≠ "_" := by simpa using hn
      split at h
      · rename_i a c ha hc
        obtain ⟨va, ra, hva⟩ := part_run (P := P) (w := w) hl hl1 ha
        obtain ⟨vc, rc, hvc⟩ := part_run (P := P) (w := w) hm hm1 hc
        rw [List.forIn_cons]
        cases heq : eqS f.type a c with
        | none => rw [heq] at h; cases h
        | some e =>
          have hr := he _ _ _ _ _ _ hva hvc heq
          rw [heq] at h
          cases e
          · simp only [Option.some.injEq] at h
            subst h
            simp [hne, ra, rc, hr]
          · simp only at h
            simp only [hne, ne_eq, not_false_eq_true, if_true, Sem.run_bind, ra, rc, hr, Result.andThen_ok, Bool.not_true, Bool.false_eq_true, if_false, Sem.run_pure]
            exact ih b h
      · cases h
    · rw [hn] at h; cases h

theorem eqT_run : ∀ (d : Nat) (t : TypeId) (x y : SV) (v u : Value) (b : Bool), eqT P d t x y = some b → VR E β x v → VR E β y u → ∀ d', d ≤ d' → (Op.equalIn d' t v u).run P w = .ok b w := by
  intro d
  induction d with
  | zero => intro t x y v u b h; cases h
  | succ d ih =>
    intro t x y v u b h hx hy d' hd'
    obtain ⟨e, rfl⟩ : ∃ e, d' = e + 1 := ⟨d' - 1, by omega⟩
    simp only [eqT] at h
    split at h
    · rename_i k hu
      obtain ⟨k, z, z', rfl, rfl, rfl⟩ := eqC_run hx hy h
      simp [Op.equalIn, run_und hu]
    · rename_i hu
      obtain ⟨c, c', rfl, rfl, rfl⟩ := eqD_run hx hy h
      simp [Op.equalIn, run_und hu]
    · rename_i fs hu
      cases hs : P.stoodInHeld t
      · rw [hs] at h
        simp only [cond_false] at h
        split at h
        · rename_i l m
          cases hx with
          | agg _ xs hl hl1 =>
            cases hy with
            | agg _ ys hm hm1 =>
              have key := eqFs_run (P := P) (w := w) (eqT P d) (Op.equalIn e) (fun t x y v u b hx hy h => ih t x y v u b h hx hy e (by omega)) hl hl1 hm hm1 fs.toList b h
              simp only [Op.equalIn, Sem.run_bind, run_und hu, Result.andThen_ok, run_program, hs]
              simp only [Bool.false_eq_true, if_false, Sem.run_bind, ← Array.forIn_toList, key, Result.andThen_ok]
              cases b <;> rfl
        · cases h
      · rw [hs] at h; cases h
    · cases h

theorem flatT_guard : ∀ (d : Nat) (t : TypeId), flatT P d t = true → ∀ d', d ≤ d' → P.eqGuardType d' t = false := by
  intro d
  induction d with
  | zero => intro t h; cases h
  | succ d ih =>
    intro t h d' hd'
    obtain ⟨e, rfl⟩ : ∃ e, d' = e + 1 := ⟨d' - 1, by omega⟩
    simp only [flatT] at h
    split at h
    · rename_i k hu; simp [Program.eqGuardType, hu]
    · rename_i hu; simp [Program.eqGuardType, hu]
    · rename_i fs hu
      simp only [Program.eqGuardType, hu]
      rw [← Array.any_toList]
      apply List.any_eq_false.2
      intro f hf
      have := List.all_eq_true.1 h f hf
      simp [ih f.type this e (by omega)]
    · cases h

theorem eqGuard_run {op : BinOp} {t : TypeId} {X Y : Operand} {v u : Value} (h1 : ¬ (v = .nilIface ∧ u = .nilIface)) (h2 : ∀ xs ys, v = .agg xs → u = .agg ys → flatT P 8 t = true) :
    (eqGuard op t X Y v u).run P w = .ok () w := by
  have core : ∀ op', op' = .eql ∨ op' = .neq → (eqGuard op' t X Y v u).run P w = .ok () w := by
    intro op' ho
    cases v <;> try (rcases ho with rfl | rfl <;> rfl)
    · cases u <;> try (rcases ho with rfl | rfl <;> rfl)
      exact absurd ⟨rfl, rfl⟩ h1
    · rename_i xs
      cases u <;> try (rcases ho with rfl | rfl <;> rfl)
      rename_i ys
      have := flatT_guard (P := P) 8 t (h2 _ _ rfl rfl) P.depth (by unfold Program.depth Made.depth; omega)
      rcases ho with rfl | rfl <;> simp [eqGuard, this]
  cases op <;> first | exact core _ (.inl rfl) | exact core _ (.inr rfl) | rfl

theorem eqB_gives {op : BinOp} {b : Bool} {r : SV} {x : Sem Value} (h : eqB op b = some r) (he : op = .eql → x.run P w = .ok (.bool b) w) (hn : op = .neq → x.run P w = .ok (.bool (!b)) w) :
    Gives P E β w x r := by
  cases op <;> simp only [eqB] at h <;> try (cases h; done)
  · simp only [Option.some.injEq] at h; subst h; exact ⟨_, he rfl, .bool _⟩
  · simp only [Option.some.injEq] at h; subst h; exact ⟨_, hn rfl, .bool _⟩

/-- an equality that is no integers', no string's -/
theorem equal_gives {op : BinOp} {t : TypeId} {v u : Value} {b : Bool} {r : SV} (h : eqB op b = some r) (hv : ∀ k z, v ≠ .int k z) (hf : ∀ k z, v ≠ .float k z) (hc : ∀ k z y, v ≠ .complex k z y) (hs : ∀ s, v ≠ .string s)
    (he : (Op.equal t v u).run P w = .ok b w) : Gives P E β w (Go.binOp op t v u) r := by
  refine eqB_gives h ?_ ?_
  · rintro rfl
    have : Go.binOp .eql t v u = (do pure (Value.bool (← Op.equal t v u)) : Sem Value) := by
      cases v <;> first | rfl | (exact absurd rfl (hv _ _)) | (exact absurd rfl (hf _ _)) | (exact absurd rfl (hc _ _ _)) | (exact absurd rfl (hs _))
    rw [this]; simp [he]
  · rintro rfl
    have : Go.binOp .neq t v u = (do pure (Value.bool (!(← Op.equal t v u))) : Sem Value) := by
      cases v <;> first | rfl | (exact absurd rfl (hv _ _)) | (exact absurd rfl (hf _ _)) | (exact absurd rfl (hc _ _ _)) | (exact absurd rfl (hs _))
    rw [this]; simp [he]

theorem isPtr_some {t : TypeId} (h : isPtr P t = true) : ∃ e, P.underlying t = some (.pointer e) := by
  unfold isPtr at h; split at h; exact ⟨_, by assumption⟩; cases h
theorem isSlc_some {t : TypeId} (h : isSlc P t = true) : ∃ e, P.underlying t = some (.slice e) := by
  unfold isSlc at h; split at h; exact ⟨_, by assumption⟩; cases h
theorem isBool_some {t : TypeId} (h : isBool P t = true) : P.underlying t = some .bool := by
  unfold isBool at h; split at h; assumption; cases h

theorem binA_gives {op : BinOp} {t : TypeId} {X Y : Operand} {x y r : SV} {v u : Value} (hx : VR E β x v) (hy : VR E β y u) (h : binA P op t x y = some r) :
    Gives P E β w (do eqGuard op t X Y v u; Go.binOp op t v u) r := by
  have go : ∀ {X Y : Operand}, ¬ (v = .nilIface ∧ u = .nilIface) → (∀ xs ys, v = .agg xs → u = .agg ys → flatT P 8 t = true) → Gives P E β w (Go.binOp op t v u) r → Gives P E β w (do eqGuard op t X Y v u; Go.binOp op t v u) r := by
    intro X Y h1 h2 ⟨q, hq, hr⟩
    exact ⟨q, by simp only [Sem.run_bind, eqGuard_run h1 h2, Result.andThen_ok, hq], hr⟩
  cases hx <;> simp only [binA] at h <;> try (cases h; done)
  · -- int
    rename_i k a
    refine go (by rintro ⟨e, _⟩; cases e) (fun _ _ e => by cases e) ?_
    unfold binIx at h
    cases hy <;> simp only at h <;> try (cases h; done)
    · exact binII_gives h
    · rename_i k' t' hb
      split at h
      · rename_i n hn
        cases hk : keq k k'
        · rw [hk] at h; cases h
        · rw [hk] at h
          have e := isNat_some hn
          subst e
          have := keq_eq hk
          subst this
          rcases orE_cases h with h | h
          · exact binR_gives hb rfl h
          · refine opT_gives ?_ rfl rfl h
            simp only [den]
            rw [Nat.mod_mod_of_dvd]
            exact Nat.pow_dvd_pow 2 (by cases k <;> decide)
      · cases h
  · -- sym
    rename_i k t' hb
    refine go (by rintro ⟨e, _⟩; cases e) (fun _ _ e => by cases e) ?_
    unfold binSx at h
    cases hy <;> simp only at h <;> try (cases h; done)
    · rename_i k' z
      split at h
      · rename_i n hn
        have e := isNat_some hn
        subst e
        unfold binSI at h
        split at h
        · rcases orE_cases h with h | h
          · exact binL_gives hb (.inl rfl) h
          · exact opL_gives hb (.inl rfl) h
        · rcases orE_cases h with h | h
          · exact binL_gives hb (.inr (.inl rfl)) h
          · exact opL_gives hb (.inr (.inl rfl)) h
        · cases hk : keq k k'
          · rw [hk] at h; cases h
          · rw [hk] at h
            rcases orE_cases h with h | h
            · exact binL_gives hb (.inr (.inr (keq_eq hk))) h
            · exact opL_gives hb (.inr (.inr (keq_eq hk))) h
      · cases h
    · rename_i k' u' hb'
      cases hk : keq k k'
      · rw [hk] at h; cases h
      · rw [hk] at h
        have := keq_eq hk
        subst this
        rcases orE_cases h with h | h
        · exact binT_gives hb hb' rfl h
        · exact opT_gives rfl rfl rfl h
  · -- bool
    rename_i a
    refine go (by rintro ⟨e, _⟩; cases e) (fun _ _ e => by cases e) ?_
    unfold binBx at h
    cases hy <;> simp only at h <;> try (cases h; done)
    rename_i b
    cases hb : isBool P t
    · rw [hb] at h; cases h
    · rw [hb] at h
      refine equal_gives h (by simp) (by simp) (by simp) (by simp) ?_
      have hu := isBool_some hb
      unfold Op.equal Op.maxDepth Op.equalIn
      simp only [Sem.run_bind, run_und hu, Result.andThen_ok]
      cases a <;> cases b <;> rfl
  · -- string
    rename_i s
    refine go (by rintro ⟨e, _⟩; cases e) (fun _ _ e => by cases e) ?_
    unfold binStx at h
    cases hy <;> simp only at h <;> try (cases h; done)
    rename_i s'
    refine eqB_gives h ?_ ?_
    · rintro rfl; rw [binOp_string_eql, ByteArray.toList_eq, ByteArray.toList_eq]; rfl
    · rintro rfl; rw [binOp_string_neq, ByteArray.toList_eq, ByteArray.toList_eq]; rfl
  · -- a nil pointer
    refine go (by rintro ⟨e, _⟩; cases e) (fun _ _ e => by cases e) ?_
    unfold binNp at h
    cases hb : isPtr P t
    · rw [hb] at h; cases h
    · rw [hb] at h
      obtain ⟨e, hu⟩ := isPtr_some hb
      cases hy <;> simp only [cond_true] at h <;> try (cases h; done)
      · refine equal_gives h (by simp) (by simp) (by simp) (by simp) ?_
        unfold Op.equal Op.maxDepth Op.equalIn
        simp [run_und hu]
      · refine equal_gives h (by simp) (by simp) (by simp) (by simp) ?_
        unfold Op.equal Op.maxDepth Op.equalIn
        simp [run_und hu]
  · -- a pointer
    refine go (by rintro ⟨e, _⟩; cases e) (fun _ _ e => by cases e) ?_
    unfold binPx at h
    cases hb : isPtr P t
    · rw [hb] at h; cases h
    · rw [hb] at h
      obtain ⟨e, hu⟩ := isPtr_some hb
      cases hy <;> simp only [cond_true] at h <;> try (cases h; done)
      refine equal_gives h (by simp) (by simp) (by simp) (by simp) ?_
      unfold Op.equal Op.maxDepth Op.equalIn
      simp [run_und hu]
  · -- a nil slice
    refine go (by rintro ⟨e, _⟩; cases e) (fun _ _ e => by cases e) ?_
    unfold binNs at h
    cases hb : isSlc P t
    · rw [hb] at h; cases h
    · rw [hb] at h
      obtain ⟨e, hu⟩ := isSlc_some hb
      cases hy <;> simp only [cond_true] at h <;> try (cases h; done)
      refine equal_gives h (by simp) (by simp) (by simp) (by simp) ?_
      unfold Op.equal Op.maxDepth Op.equalIn
      simp [run_und hu]
  · refine go (by rintro ⟨e, _⟩; cases e) (fun _ _ e => by cases e) ?_
    unfold binSn at h
    cases hb : isSlc P t
    · rw [hb] at h; cases h
    · rw [hb] at h
      obtain ⟨e, hu⟩ := isSlc_some hb
      cases hy <;> simp only [cond_true] at h <;> try (cases h; done)
      refine equal_gives h (by simp) (by simp) (by simp) (by simp) ?_
      unfold Op.equal Op.maxDepth Op.equalIn
      simp [run_und hu]
  · refine go (by rintro ⟨e, _⟩; cases e) (fun _ _ e => by cases e) ?_
    unfold binSn at h
    cases hb : isSlc P t
    · rw [hb] at h; cases h
    · rw [hb] at h
      obtain ⟨e, hu⟩ := isSlc_some hb
      cases hy <;> simp only [cond_true] at h <;> try (cases h; done)
      refine equal_gives h (by simp) (by simp) (by simp) (by simp) ?_
      unfold Op.equal Op.maxDepth Op.equalIn
      simp [run_und hu]
  · refine go (by rintro ⟨e, _⟩; cases e) (fun _ _ e => by cases e) ?_
    unfold binSn at h
    cases hb : isSlc P t
    · rw [hb] at h; cases h
    · rw [hb] at h
      obtain ⟨e, hu⟩ := isSlc_some hb
      cases hy <;> simp only [cond_true] at h <;> try (cases h; done)
      refine equal_gives h (by simp) (by simp) (by simp) (by simp) ?_
      unfold Op.equal Op.maxDepth Op.equalIn
      simp [run_und hu]
  · -- structs
    rename_i l xs hl hl1
    unfold binAx at h
    cases hy <;> simp only at h <;> try (cases h; done)
    rename_i m ys hm hm1
    cases hf : flatT P 8 t
    · rw [hf] at h; cases h
    · rw [hf] at h
      simp only [cond_true] at h
      refine go (by rintro ⟨e, _⟩; cases e) (fun _ _ _ _ => hf) ?_
      split at h
      · rename_i b hb
        refine equal_gives h (by simp) (by simp) (by simp) (by simp) ?_
        exact eqT_run 8 t _ _ _ _ b hb (.agg _ _ hl hl1) (.agg _ _ hm hm1) Op.maxDepth (by decide)
      · cases h

theorem unA_gives {op : UnOp} {x r : SV} {v : Value} (hx : VR E β x v) (h : unA op x = some r) : Gives P E β w (Op.unary op v) r := by
  cases op <;> cases hx <;> simp only [unA] at h <;> try (cases h; done)
  · simp only [Option.some.injEq] at h; subst h; exact ⟨_, rfl, by rw [wrp_eq]; exact .int _ _⟩
  · simp only [Option.some.injEq] at h; subst h
    rename_i k z
    refine ⟨_, rfl, ?_⟩
    cases hk : k.signed <;> simp [hk] <;> exact .int _ _
  · simp only [Option.some.injEq] at h; subst h; exact ⟨_, rfl, .bool _⟩

theorem convT_gives {k k' : IntKind} {t : Tm} {r : SV} (hb : bits t ≤ kbits k') (h : convT k t = some r) : Gives P E β w (Conv.intToInt k (den E t : Nat)) r := by
  unfold convT at h
  split at h
  · simp only [Option.some.injEq] at h; subst h
    refine ⟨_, rfl, ?_⟩
    have := den_lt_of E (bits_le t)
    rw [show IntKind.u64.wrap (den E t : Nat) = (den E t : Int) from by rw [wrap_u64]; omega]
    exact .sym _ _ (bits_le t)
  · cases hle : Nat.ble (bits t) 32
    · rw [hle] at h; cases h
    · rw [hle] at h
      simp only [cond_true, Option.some.injEq] at h; subst h
      refine ⟨_, rfl, ?_⟩
      have hb32 : bits t ≤ 32 := Nat.le_of_ble_eq_true hle
      have := den_lt_of E hb32
      rw [show IntKind.u32.wrap (den E t : Nat) = (den E t : Int) from by rw [wrap_u32]; omega]
      exact .sym _ _ hb32
  · cases hle : Nat.ble (bits t) 16
    · rw [hle] at h; cases h
    · rw [hle] at h
      simp only [cond_true, Option.some.injEq] at h; subst h
      refine ⟨_, rfl, ?_⟩
      have hb16 : bits t ≤ 16 := Nat.le_of_ble_eq_true hle
      have := den_lt_of E hb16
      rw [show IntKind.u16.wrap (den E t : Nat) = (den E t : Int) from by rw [wrap_u16]; omega]
      exact .sym _ _ hb16
  · split at h
    · rename_i u j
      simp only [Option.some.injEq] at h; subst h
      refine ⟨_, rfl, ?_⟩
      rw [show IntKind.u8.wrap (den E (.hi u j) : Nat) = ((den E (mkBt u j) : Nat) : Int) from by rw [den_mkBt, wrap_u8]; simp only [den]; omega]
      exact .sym _ _ (bits_mkBt _ _)
    · simp only [Option.some.injEq] at h; subst h
      refine ⟨_, rfl, ?_⟩
      rw [show IntKind.u8.wrap (den E t : Nat) = ((den E (mkBt t 0) : Nat) : Int) from by rw [den_mkBt, wrap_u8]; simp]
      exact .sym _ _ (bits_mkBt _ _)
  · cases h

theorem convA_gives {src dst : TypeId} {x r : SV} {v : Value} (hx : VR E β x v) (h : convA P src dst x = some r) : Gives P E β w (Go.convert src dst v) r := by
  unfold convA at h
  split at h
  · rename_i ds k k' n hs hd
    cases hx
    simp only [Option.some.injEq] at h; subst h
    refine ⟨_, ?_, by rw [wrp_eq]; exact .int _ _⟩
    simp [Go.convert, run_und hs, run_und hd, Conv.intToInt]
  · rename_i ds k k' t hs hd
    cases hx
    rename_i hb
    obtain ⟨q, hq, hr⟩ : Gives P E β w (Conv.intToInt k (den E t : Nat)) r := (orE_cases h).elim (convT_gives hb) (convT'_gives hb)
    refine ⟨q, ?_, hr⟩
    simp only [Go.convert, Sem.run_bind, run_und hs, run_und hd, Result.andThen_ok]
    exact hq
  · rename_i ds s hs hd
    cases hx
    simp only [Option.some.injEq] at h; subst h
    refine ⟨_, ?_, .str _⟩
    simp [Go.convert, run_und hs, run_und hd]
  · cases h
end
end
end Go.Proofs.YtgfahpnndmocbaaGreatDoor.Sx
