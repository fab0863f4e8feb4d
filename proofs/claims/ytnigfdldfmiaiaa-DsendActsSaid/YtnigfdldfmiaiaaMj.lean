/- The law DsendActs: act 3. The law DsendActs, its loop. The law DsendActs, joined. -/
import Derived.Test.YtnigfdldfmiaiaaMi
import Derived.Test.YtnigfdldfmiaiaaMg
namespace Go.Proofs.Ytnigfdldfmiaiaa
set_option linter.unusedVariables false
set_option linter.unusedSimpArgs false
open Go.ChangeShapes Go.WideShapes Go.ChangeAt Go.RowKit Go.Maps
set_option linter.unusedVariables false
set_option linter.unusedSimpArgs false
set_option maxHeartbeats 8000000 in
set_option maxRecDepth 1000000 in
theorem dsendActs_3 (w wr : World) (A : Option Addr) (n cap : Nat) (acts : List Ds) (hn100 : n ≤ 100) (HR : Hid (RS layDs w A cap acts)) (HOK : Hid (∀ x ∈ acts, DsOk w x)) (HN : Hid (acts.length = n)) (hz2 : ¬ (n : Int) > 100) (s x i : Nat) (hi : i ≤ n) (hlt : i < n) (F G : Nat → Prop) (T : Sn) (L : Int → Bool) (J1 : Hid (PrS w wr s x F G T L (1 + 100 * (i : Int)))) (r : Ds) (hr0 : acts[i]? = some r) (hkind : r.k = 3) (K : Act → World → Prop)
    (u2 u6 u7 u8 u9 u10 u11 u12 u13 u14 u15 u16 u17 u28 u29 u30 u31 u32 u33 u34 u35 u36 u37 u38 u39 u40 u41 u42 u43 u44 u45 u46 u47 u48 u49 u50 u51 u52 u53 u54 u55 u56 u57 u58 u59 u60 u61 u62 u63 u64 u65 u66 u67 u68 u69 u70 u71 u72 u73 u74 u75 u76 u77 u78 u79 u80 u81 u82 u83 u84 u85 u86 u87 u88 u89 u90 u91 u92 u93 u94 u95 u96 u97 u98 u99 u100 u101 u102 u103 u104 u105 u106 u107 u108 u109 u110 u111 u112 u113 u114 u115 u116 u117 u118 u119 u120 u121 u122 u123 u124 u125 u126 u127 u128 u129 u130 u131 u132 u133 u134 u135 u136 u137 u138 u139 u140 u141 u142 u143 u144 u145 u146 u147 u148 u149 u150 u151 u152 u153 u154 u155 u156 u157 u158 u159 u160 u161 u162 u163 u164 u165 u166 u167 u168 u169 u170 u171 u172 u173 u174 : Value) :
    Code.wp Try.prog body16 (Exit.then (fun a' w' => (∃ u2 u6 u7 u8 u9 u10 u11 u12 u13 u14 u15 u16 u17 u27 u28 u29 u30 u31 u32 u33 u34 u35 u36 u37 u38 u39 u40 u41 u42 u43 u44 u45 u46 u47 u48 u49 u50 u51 u52 u53 u54 u55 u56 u57 u58 u59 u60 u61 u62 u63 u64 u65 u66 u67 u68 u69 u70 u71 u72 u73 u74 u75 u76 u77 u78 u79 u80 u81 u82 u83 u84 u85 u86 u87 u88 u89 u90 u91 u92 u93 u94 u95 u96 u97 u98 u99 u100 u101 u102 u103 u104 u105 u106 u107 u108 u109 u110 u111 u112 u113 u114 u115 u116 u117 u118 u119 u120 u121 u122 u123 u124 u125 u126 u127 u128 u129 u130 u131 u132 u133 u134 u135 u136 u137 u138 u139 u140 u141 u142 u143 u144 u145 u146 u147 u148 u149 u150 u151 u152 u153 u154 u155 u156 u157 u158 u159 u160 u161 u162 u163 u164 u165 u166 u167 u168 u169 u170 u171 u172 u173 u174, (∃ i : Nat, i ≤ n ∧ u27 = .int .i64 i ∧ Hid (∃ F G T L, PrS w w' s x F G T L (1 + 100 * (i : Int)))) ∧ a' = ⟨#[.slice A n cap, undef, u2, .pointer (some ⟨s, 0, none⟩), .pointer (some ⟨x, 0, none⟩), undef, u6, u7, u8, u9, u10, u11, u12, u13, u14, u15, u16, u17, .bool true, .bool false, .slice A n cap, .int .i64 n, .bool (decide (100 < (n : Int))), .pointer (some ⟨s, 0, none⟩), .pointer (some ⟨x, 0, none⟩), .slice A n cap, .int .i64 n, u27, u28, u29, u30, u31, u32, u33, u34, u35, u36, u37, u38, u39, u40, u41, u42, u43, u44, u45, u46, u47, u48, u49, u50, u51, u52, u53, u54, u55, u56, u57, u58, u59, u60, u61, u62, u63, u64, u65, u66, u67, u68, u69, u70, u71, u72, u73, u74, u75, u76, u77, u78, u79, u80, u81, u82, u83, u84, u85, u86, u87, u88, u89, u90, u91, u92, u93, u94, u95, u96, u97, u98, u99, u100, u101, u102, u103, u104, u105, u106, u107, u108, u109, u110, u111, u112, u113, u114, u115, u116, u117, u118, u119, u120, u121, u122, u123, u124, u125, u126, u127, u128, u129, u130, u131, u132, u133, u134, u135, u136, u137, u138, u139, u140, u141, u142, u143, u144, u145, u146, u147, u148, u149, u150, u151, u152, u153, u154, u155, u156, u157, u158, u159, u160, u161, u162, u163, u164, u165, u166, u167, u168, u169, u170, u171, u172, u173, u174], []⟩) ∧ n - (intOf (a'.tmps.getD 27 undef)).toNat < n - (intOf (#[.slice A n cap, undef, u2, .pointer (some ⟨s, 0, none⟩), .pointer (some ⟨x, 0, none⟩), undef, u6, u7, u8, u9, u10, u11, u12, u13, u14, u15, u16, u17, .bool true, .bool false, .slice A n cap, .int .i64 n, .bool (decide (100 < (n : Int))), .pointer (some ⟨s, 0, none⟩), .pointer (some ⟨x, 0, none⟩), .slice A n cap, .int .i64 n, .int .i64 i, u28, u29, u30, u31, u32, u33, u34, u35, u36, u37, u38, u39, u40, u41, u42, u43, u44, u45, u46, u47, u48, u49, u50, u51, u52, u53, u54, u55, u56, u57, u58, u59, u60, u61, u62, u63, u64, u65, u66, u67, u68, u69, u70, u71, u72, u73, u74, u75, u76, u77, u78, u79, u80, u81, u82, u83, u84, u85, u86, u87, u88, u89, u90, u91, u92, u93, u94, u95, u96, u97, u98, u99, u100, u101, u102, u103, u104, u105, u106, u107, u108, u109, u110, u111, u112, u113, u114, u115, u116, u117, u118, u119, u120, u121, u122, u123, u124, u125, u126, u127, u128, u129, u130, u131, u132, u133, u134, u135, u136, u137, u138, u139, u140, u141, u142, u143, u144, u145, u146, u147, u148, u149, u150, u151, u152, u153, u154, u155, u156, u157, u158, u159, u160, u161, u162, u163, u164, u165, u166, u167, u168, u169, u170, u171, u172, u173, u174].getD 27 undef)).toNat) (Exit.inBlock 0 (Exit.then K (bodyPost Try.prog Try.f16 fun r w' => r = .returned (.bool true) ∧ Fine w w')))) ⟨#[.slice A n cap, undef, u2, .pointer (some ⟨s, 0, none⟩), .pointer (some ⟨x, 0, none⟩), undef, u6, u7, u8, u9, u10, u11, u12, u13, u14, u15, u16, u17, .bool true, .bool false, .slice A n cap, .int .i64 n, .bool (decide (100 < (n : Int))), .pointer (some ⟨s, 0, none⟩), .pointer (some ⟨x, 0, none⟩), .slice A n cap, .int .i64 n, .int .i64 i, u28, u29, u30, u31, u32, u33, u34, u35, u36, u37, u38, u39, u40, u41, u42, u43, u44, u45, u46, u47, u48, u49, u50, u51, u52, u53, u54, u55, u56, u57, u58, u59, u60, u61, u62, u63, u64, u65, u66, u67, u68, u69, u70, u71, u72, u73, u74, u75, u76, u77, u78, u79, u80, u81, u82, u83, u84, u85, u86, u87, u88, u89, u90, u91, u92, u93, u94, u95, u96, u97, u98, u99, u100, u101, u102, u103, u104, u105, u106, u107, u108, u109, u110, u111, u112, u113, u114, u115, u116, u117, u118, u119, u120, u121, u122, u123, u124, u125, u126, u127, u128, u129, u130, u131, u132, u133, u134, u135, u136, u137, u138, u139, u140, u141, u142, u143, u144, u145, u146, u147, u148, u149, u150, u151, u152, u153, u154, u155, u156, u157, u158, u159, u160, u161, u162, u163, u164, u165, u166, u167, u168, u169, u170, u171, u172, u173, u174], []⟩ wr := by
  conv => arg 2; whnf
  have e22 : decide (100 < (n : Int)) = false := decide_eq_false (by omega)
  rw [e22]
  clear e22
  have hrok := HOK.out r (List.mem_of_getElem? hr0)
  obtain ⟨bb, o, rfl, hb, hc⟩ := (HR.out.fine J1.out.fine).at_ hr0
  obtain ⟨rk, rn, rm, rA, rl, rc, zs⟩ := r
  have d0 := hc 0 (.int .i64 rk) rfl
  have d1 := hc 1 (.int .i64 rn) rfl
  have d2 := hc 2 (.int .i64 rm) rfl
  have d3 := hc 3 (.slice rA rl rc) rfl
  simp only [← Nat.add_assoc, Nat.add_zero] at d0 d1 d2 d3
  have HD := Lib.hid hrok
  obtain ⟨xr, hxr⟩ : ∃ x, wr.heap.size = x := ⟨_, rfl⟩
  have b5 := Blk.newAt (w := wr) (t := 76) (cs := #[.int .i64 rk, .int .i64 rn, .int .i64 rm, .slice rA rl rc]) hxr.symm
  have f5 := (Fine.refl wr).alloc (.cells #[.int .i64 rk, .int .i64 rn, .int .i64 rm, .slice rA rl rc] 76)
  have hxF : ¬ F xr := fun hf => by have := J1.out.s.lt _ hf; omega
  have hxG : ¬ G xr := fun hf => by have := J1.out.r.lt _ hf; omega
  clear hc hr0 hrok
  go_upto_region 9 with fail
  generalize wr.alloc (.cells #[.int .i64 rk, .int .i64 rn, .int .i64 rm, .slice rA rl rc] 76) = w5 at b5 f5 ⊢
  have B5 := Lib.hid b5; have J5 := Lib.hid (J1.out.wfine f5)
  have c0 : w5.cell? ⟨xr, 0, none⟩ = some (.int .i64 rk) := b5.cell 0
  have c1 : w5.cell? ⟨xr, 1, none⟩ = some (.int .i64 rn) := b5.cell 1
  have c2 : w5.cell? ⟨xr, 2, none⟩ = some (.int .i64 rm) := b5.cell 2
  have c3 : w5.cell? ⟨xr, 3, none⟩ = some (.slice rA rl rc) := b5.cell 3
  clear b5 f5 hxr d0 d1 d2 d3
  obtain ⟨una, huna⟩ : ∃ z, T.una = z := ⟨_, rfl⟩
  have hub : 1 ≤ una ∧ una ≤ 20000 := by have h1 := J1.out.ok.u1; have h2 := J1.out.ok.ub; omega
  have HUNA := Lib.hid huna
  have hKb : 1 + 100 * (i : Int) ≤ 20000 := by omega
  have hKi : (1 + 100 * (i : Int)) + 100 = 1 + 100 * ((i + 1 : Nat) : Int) := by omega
  have hKm : (1 + 100 * (i : Int)) ≤ 1 + 100 * ((i + 1 : Nat) : Int) := by omega
  have HKI := Lib.hid hKi
  clear huna hKi
  have hkind : rk = 3 := hkind
  subst hkind
  have hnb := nearS_bd rn
  have hmb := nearS_bd rm
  obtain ⟨nv, hnv⟩ : ∃ z, nearS rn = z := ⟨_, rfl⟩
  obtain ⟨mv, hmv⟩ : ∃ z, nearS rm = z := ⟨_, rfl⟩
  rw [hnv] at hnb
  rw [hmv] at hmb
  have HNV := Lib.hid hnv
  have HMV := Lib.hid hmv
  obtain ⟨fr, hfr⟩ : ∃ z, una + nv = z := ⟨_, rfl⟩
  have e2 : IntKind.i64.wrap (una + nv) = fr := by rw [hfr]; exact IntWalk.i64_in _ (by omega)
  have hfrb : -1099511627776 ≤ fr ∧ fr ≤ 1099511627776 := by omega
  have HNR : Hid (∀ w', Calls Try.prog 58 #[.int .i64 rn] w' fun r w'' => r = .returned (.int .i64 nv) ∧ w' = w'') := Lib.hid (fun w' => by have := nearS_same rn w'; rw [HNV.out] at this; exact this)
  have HNM : Hid (∀ w', Calls Try.prog 58 #[.int .i64 rm] w' fun r w'' => r = .returned (.int .i64 mv) ∧ w' = w'') := Lib.hid (fun w' => by have := nearS_same rm w'; rw [HMV.out] at this; exact this)
  have HX2 : Hid (∀ w' T' L', RsI G w' x T' L' → T'.una = una → w'.cell? ⟨x, 2, none⟩ = some (.int .i64 una)) := Lib.hid (fun w' T' L' h e => by obtain ⟨Ab, cb, Ai, ci, all, LL, hX, _⟩ := h; have := hX.box.cell 2; rw [e] at this; exact this)
  have x2 : w5.cell? ⟨x, 2, none⟩ = some (.int .i64 una) := HX2.out w5 T L J5.out.r HUNA.out
  clear hnv hmv hfr
  obtain ⟨TA, hTA⟩ : ∃ z, (if ackOk T fr mv then T.acked fr mv else T) = z := ⟨_, rfl⟩
  have hex : ∃ (an : Int) (ai : Bool) (LA : Int → Bool), TA.Ok LA (1 + 100 * (i : Int)) ∧ (∀ w', SnI F w' s T L → Calls Try.prog 53 #[.pointer (some ⟨s, 0, none⟩), .int .i64 fr, .int .i64 mv] w' fun r w'' => r = .returned (.tuple #[.int .i64 an, .bool ai]) ∧ ∃ F', SnI F' w'' s TA LA ∧ Kept F w' w'' ∧ ∀ y, F' y → F y ∨ w'.heap.size ≤ y) ∧ (∀ w', RsI G w' x T L → Calls Try.prog 67 #[.pointer (some ⟨x, 0, none⟩), .int .i64 fr, .int .i64 mv] w' fun r w'' => r = .returned (.agg #[.int .i64 an, .bool ai]) ∧ RsI G w'' x TA LA ∧ Kept G w' w'') := by
    by_cases hq : ackOk T fr mv
    · refine ⟨(T.acked fr mv).una - T.una, true, fun m => L m && decide ((T.acked fr mv).una ≤ m), ?_, fun w' h => (sn_ack fr mv (by omega) J5.out.ok w' h).mono ?_, fun w' h => (rsack_any fr mv hfrb (by omega) (by omega) J5.out.ok w' h).mono ?_⟩
      · rw [← hTA, if_pos hq]; exact J5.out.ok.ack_ hq (fun m => rfl)
      · rintro r w'' ⟨F', L', h1, h2, h3, h4 | h4⟩
        · have e : L' = fun m => L m && decide ((T.acked fr mv).una ≤ m) := funext h4.2.2
          subst e
          rw [hTA] at h1
          exact ⟨h4.2.1, F', h1, h2, h3⟩
        · exact absurd hq h4.1
      · rintro r w'' ⟨L', h1, h2, h4 | h4⟩
        · have e : L' = fun m => L m && decide ((T.acked fr mv).una ≤ m) := funext h4.2.2
          subst e
          rw [hTA] at h1
          exact ⟨h4.2.1, h1, h2⟩
        · exact absurd hq h4.1
    · refine ⟨0, false, L, ?_, fun w' h => (sn_ack fr mv (by omega) J5.out.ok w' h).mono ?_, fun w' h => (rsack_any fr mv hfrb (by omega) (by omega) J5.out.ok w' h).mono ?_⟩
      · rw [← hTA, if_neg hq]; exact J5.out.ok
      · rintro r w'' ⟨F', L', h1, h2, h3, h4 | h4⟩
        · exact absurd h4.1 hq
        · have e : L' = L := funext h4.2.2
          subst e
          rw [hTA] at h1
          exact ⟨h4.2.1, F', h1, h2, h3⟩
      · rintro r w'' ⟨L', h1, h2, h4 | h4⟩
        · exact absurd h4.1 hq
        · have e : L' = L := funext h4.2.2
          subst e
          rw [hTA] at h1
          exact ⟨h4.2.1, h1, h2⟩
  obtain ⟨an, ai, LA, hokA, hA1, hA2⟩ := hex
  have HOKA := Lib.hid hokA; have HA1 := Lib.hid hA1; have HA2 := Lib.hid hA2
  have HSD : Hid (Calls Try.prog 53 #[.pointer (some ⟨s, 0, none⟩), .int .i64 fr, .int .i64 mv] w5.drew fun r w'' => r = .returned (.tuple #[.int .i64 an, .bool ai]) ∧ w''.cell? ⟨xr, 1, none⟩ = some (.int .i64 rn) ∧ w''.cell? ⟨xr, 2, none⟩ = some (.int .i64 rm) ∧ w''.cell? ⟨x, 2, none⟩ = some (.int .i64 una) ∧ Hid (∃ F9, SnI F9 w'' s TA LA ∧ Kept F w5 w'' ∧ ∀ y, F9 y → F y ∨ w5.heap.size ≤ y)) := Lib.hid ((hA1 w5.drew (J5.out.s.fine (Fine.refl w5).drew)).mono (fun r w'' h => by
    obtain ⟨h1, F', h2, h3, h4⟩ := h
    have k5 : Kept F w5 w'' := (Kept.of_fine (Fine.refl w5).drew).trans h3
    exact ⟨h1, (B5.out.kept k5 hxF).cell 1, (B5.out.kept k5 hxF).cell 2, HX2.out w'' T L (J5.out.rkept k5 (Fine.refl w'')) HUNA.out, Lib.hid ⟨F', h2, k5, h4⟩⟩))
  clear hokA hA1 hA2 hTA
  go_upto_region 27 with fail
  clear c0 c3
  go_cut [14, 15] (fun s14 s15 wx => s14 = .int .i64 an ∧ s15 = .bool ai ∧ Hid (∃ F9, SnI F9 wx s TA LA ∧ Kept F w5 wx ∧ ∀ y, F9 y → F y ∨ w5.heap.size ≤ y))
  case first =>
    go_region_held3 (fun w' => w'.cell? ⟨xr, 1, none⟩ = some (.int .i64 rn) ∧ w'.cell? ⟨xr, 2, none⟩ = some (.int .i64 rm) ∧ w'.cell? ⟨x, 2, none⟩ = some (.int .i64 una)) (first | (simp only [World.cell?_drew]; exact ⟨c1, c2, x2⟩) | exact ⟨s1, s2, s3⟩ | go_keep) (first | (go_at_call 53; refine HSD.out.mono ?_; rintro e wC ⟨rfl, s1, s2, s3, R9⟩) | (go_at_call 58; refine (HNR.out _).mono ?_; rintro e wA ⟨rfl, rfl⟩) | (go_at_call 58; refine (HNM.out _).mono ?_; rintro e wA ⟨rfl, rfl⟩))
    all_goals
      go_wp2_with fail
      go_meet
      exact ⟨rfl, rfl, R9⟩
  case rest =>
  obtain ⟨rfl, rfl, HC⟩ := hcut
  obtain ⟨w6, hw6⟩ : ∃ z, z = wc := ⟨_, rfl⟩
  subst hw6
  obtain ⟨F9, j1, j2, j3⟩ := HC.out
  have S6 := Lib.hid j1; have K6 := Lib.hid j2; have HF6 := Lib.hid j3
  have B6 := Lib.hid (B5.out.kept j2 hxF)
  have R6 := Lib.hid (J5.out.rkept j2 (Fine.refl w6))
  have c1' : w6.cell? ⟨xr, 1, none⟩ = some (.int .i64 rn) := B6.out.cell 1
  have c2' : w6.cell? ⟨xr, 2, none⟩ = some (.int .i64 rm) := B6.out.cell 2
  have x2' : w6.cell? ⟨x, 2, none⟩ = some (.int .i64 una) := HX2.out w6 T L R6.out HUNA.out
  have v3 : ∀ o, (w6.alloc o).cell? ⟨x, 2, none⟩ = some (.int .i64 una) := fun o => HX2.out _ T L (R6.out.fine ((Fine.refl w6).alloc o)) HUNA.out
  have v3' : ∀ o, (w6.drew.alloc o).cell? ⟨x, 2, none⟩ = some (.int .i64 una) := fun o => HX2.out _ T L (R6.out.fine ((Fine.refl w6).drew.alloc o)) HUNA.out
  have HA3 : Hid (∀ w', Fine w6 w' → Calls Try.prog 67 #[.pointer (some ⟨x, 0, none⟩), .int .i64 fr, .int .i64 mv] w' fun r w'' => r = .returned (.agg #[.int .i64 an, .bool ai]) ∧ RsI G w'' x TA LA ∧ Kept G w' w'' ∧ w''.cell? ⟨xr, 1, none⟩ = some (.int .i64 rn) ∧ w''.cell? ⟨xr, 2, none⟩ = some (.int .i64 rm) ∧ ∀ cs, Blk w' w6.heap.size 92 cs → Blk w'' w6.heap.size 92 cs) := Lib.hid (fun w' f => (HA2.out w' (R6.out.fine f)).mono (fun r w'' h => ⟨h.1, h.2.1, h.2.2, ((B6.out.fine f).kept h.2.2 hxG).cell 1, ((B6.out.fine f).kept h.2.2 hxG).cell 2, fun cs hb => hb.kept h.2.2 (fun hg => by have := R6.out.lt _ hg; omega)⟩))
  have hn6 : w6.heap.size ≠ xr := World.new_ne w6 _ c1'
  have g1 : (an != an) = false := by simp
  have g2 : (ai != ai) = false := by cases ai <;> rfl
  clear j1 j2 j3 HC HSD c1 c2 x2
  go_upto_region 28 with fail
  have HFB : Hid (∀ wm wF, Fine w6 wm → Kept G wm wF → RsI G wF x TA LA → Blk (wF.alloc (.cells #[.int .i64 an, .bool ai] 92)) wF.heap.size 92 #[.int .i64 an, .bool ai] ∧ RsI G (wF.alloc (.cells #[.int .i64 an, .bool ai] 92)) x TA LA ∧ Kept G w6 (wF.alloc (.cells #[.int .i64 an, .bool ai] 92))) := Lib.hid (fun wm wF f k r => ⟨Blk.new _ _ _, r.fine ((Fine.refl wF).alloc _), ((Kept.of_fine f).trans k).alloc _⟩)
  have HFA : Hid (∀ wm wF, Fine w6 wm → Kept G wm wF → RsI G wF x TA LA → Blk wF w6.heap.size 92 #[.int .i64 0, .bool false] → Blk ((wF.setCell ⟨w6.heap.size, 0, none⟩ (.int .i64 an)).setCell ⟨w6.heap.size, 1, none⟩ (.bool ai)) w6.heap.size 92 #[.int .i64 an, .bool ai] ∧ RsI G ((wF.setCell ⟨w6.heap.size, 0, none⟩ (.int .i64 an)).setCell ⟨w6.heap.size, 1, none⟩ (.bool ai)) x TA LA ∧ Kept G w6 ((wF.setCell ⟨w6.heap.size, 0, none⟩ (.int .i64 an)).setCell ⟨w6.heap.size, 1, none⟩ (.bool ai))) := Lib.hid (fun wm wF f k r b => ⟨((b.set_ 0 (.int .i64 an)).set_ 1 (.bool ai)).cast (by simp), r.kept (((Kept.refl (· = w6.heap.size) wF).setIn (p := ⟨w6.heap.size, 0, none⟩) rfl _).setIn (p := ⟨w6.heap.size, 1, none⟩) rfl _) (fun y hy hf => by have hf : y = w6.heap.size := hf; have := R6.out.lt y hy; omega), (((Kept.of_fine f).trans k).setCell (p := ⟨w6.heap.size, 0, none⟩) (fun h => absurd h (Nat.lt_irrefl _)) _).setCell (p := ⟨w6.heap.size, 1, none⟩) (fun h => absurd h (Nat.lt_irrefl _)) _⟩)
  go_cut [16] (fun s16 wx => ∃ x9, s16 = .pointer (some ⟨x9, 0, none⟩) ∧ Hid (Blk wx x9 92 #[.int .i64 an, .bool ai] ∧ RsI G wx x TA LA ∧ Kept G w6 wx))
  case first =>
    refine reg28_wp w6 x xr rn rm una nv mv fr an ai G T TA L LA e2 c1' c2' x2' (fun w' f => ⟨(B6.out.fine f).cell 1, (B6.out.fine f).cell 2, HX2.out w' T L (R6.out.fine f) HUNA.out⟩) R6 HNR HNM HA3 hn6 _ _ _ _ _ _ _ _ _ _ _ _ _ _ _ _ _ _ _ _ _ _ _ _ _ _ _ _ _ _ _ _ _ _ _ _ _ _ _ _ _ _ _ _ _ _ _ _ _ _ _ _ _ _ _ _ _ _ _ _ _ _ _ _ _ _ _ _ _ _ _ _ _ _ _ _ _ _ _ _ _ _ _ _ _ _ _ _ _ _ _ _ _ _ _ _ _ _ _ _ _ _ _ _ _ _ _ _ _ _ _ _ _ _ _ _ _ _ _ _ _ _ _ _ _ _ _ _ _ _ _ _ _ _ _ _ _ _ _ _ _ _ _ _ _ _ _ _ _ _ _ _ _ _ _ _ _ _ _ _ _ _ _ _ _ _ _ _ _ _ _ _ _ _ (fun x9 wx h => ?_)
    go_wp2_with fail
    go_meet
    exact ⟨x9, rfl, h⟩
  case rest =>
  obtain ⟨x9, rfl, HC⟩ := hcut
  obtain ⟨w9, hw9⟩ : ∃ z, z = wc := ⟨_, rfl⟩
  subst hw9
  obtain ⟨b9, r9, kk⟩ := HC.out
  have y0 : w9.cell? ⟨x9, 0, none⟩ = some (.int .i64 an) := b9.cell 0
  have y1 : w9.cell? ⟨x9, 1, none⟩ = some (.bool ai) := b9.cell 1
  have J9' := Lib.hid ((J5.out.moved K6.out S6.out HF6.out (Fine.refl w6) kk r9 (fun y hy => .inl hy) HOKA.out).more hKm)
  clear b9 kk r9 HC c1' c2' x2' v3 v3' HFA HFB
  obtain ⟨T9, hT9⟩ : ∃ z, z = TA := ⟨_, rfl⟩
  obtain ⟨G9, hG9⟩ : ∃ z, z = G := ⟨_, rfl⟩
  obtain ⟨L9, hL9⟩ : ∃ z, z = LA := ⟨_, rfl⟩
  have J9 := J9'
  rw [← hT9, ← hG9, ← hL9] at J9
  clear hT9 hG9 hL9 J9'
  go_upto_region 36 with fail
  clear y0 y1 g1 g2
  go_wp2_with fail
  refine (ssame_any (by omega) J9.out.ok w9 J9.out.s J9.out.r).mono ?_
  rintro e v1 ⟨rfl, f1⟩
  have K1 := Lib.hid f1
  clear f1
  go_wp2_with fail
  exact ⟨⟨i + 1, hlt, by simp, Lib.hid ⟨F9, G9, T9, L9, J9.out.wfine K1.out⟩⟩, by simp only [intOf]; omega⟩
end Go.Proofs.Ytnigfdldfmiaiaa
namespace Go.Proofs.Ytnigfdldfmiaiaa
set_option linter.unusedVariables false
set_option linter.unusedSimpArgs false
open Go.ChangeShapes Go.WideShapes Go.ChangeAt Go.RowKit Go.Maps
set_option linter.unusedVariables false
set_option linter.unusedSimpArgs false
set_option maxHeartbeats 8000000 in
set_option maxRecDepth 1000000 in
theorem dsendActs_main (w : World) (A : Option Addr) (n cap : Nat) (acts : List Ds) (hn100 : n ≤ 100) (hr : RS layDs w A cap acts) (hn : acts.length = n) (hok : ∀ x ∈ acts, DsOk w x) :
    Calls Try.prog 16 #[.slice A n cap] w fun r w' => r = .returned (.bool true) ∧ Fine w w' := by
  have HR := Lib.hid hr; have HOK := Lib.hid hok; have HN := Lib.hid hn
  have hz2 : ¬ (n : Int) > 100 := by omega
  clear hr hok hn
  go_enter Try.func16, Try.ntmps16
  go_wp2_with fail
  refine (dsendWakes_any w).mono ?_
  rintro r w1 ⟨rfl, f1⟩
  have F1 := Lib.hid f1
  clear f1
  go_wp2_with fail
  refine (sn_new w1).mono ?_
  rintro r w2 ⟨s, rfl, h2, f2⟩
  have hs12 := F1.out.size
  have H2 := Lib.hid h2; have F2 := Lib.hid (F1.out.trans f2)
  have hs22 := f2.size
  clear h2 f2
  go_wp2_with fail
  refine (rsnew_any w2).mono ?_
  rintro r w3 ⟨rfl, r3, f3⟩
  obtain ⟨x, hx⟩ : ∃ x, w2.heap.size = x := ⟨_, rfl⟩
  rw [hx] at r3 ⊢
  have P3 : Hid (PrS w w3 s x (fun y => w1.heap.size ≤ y ∧ y < w2.heap.size) (· = x) ⟨1, 1, 33, [], false, false⟩ (fun _ => false) 1) := Lib.hid ⟨H2.out.fine f3, r3, Sn.ok0, fun y hy e => by have := hy.2; have e : y = x := e; omega, fun y hy => by have := hy.1; omega, fun y hy => by have hy : y = x := hy; omega, F2.out.trans f3⟩
  clear r3 f3 hx hs22 hs12
  go_wp2_with fail
  go_loopw [27] (fun s27 wr => ∃ (i : Nat), i ≤ n ∧ s27 = .int .i64 i ∧ Hid (∃ F G T L, PrS w wr s x F G T L (1 + 100 * (i : Int)))) (fun s27 _ => n - (intOf s27).toNat)
  case atStart => exact ⟨0, Nat.zero_le _, rfl, Lib.hid ⟨_, _, _, _, P3.out⟩⟩
  case round =>
    obtain ⟨i, hi, rfl, HJ⟩ := hrel
    obtain ⟨F, G, T, L, j1⟩ := HJ.out
    have J1 := Lib.hid j1
    clear j1 HJ
    by_cases hlt : i < n
    · obtain ⟨r, hr0⟩ : ∃ r, acts[i]? = some r := ⟨_, List.getElem?_eq_getElem (by have := HN.out; omega)⟩
      obtain ⟨rk, rn, rm, rA, rl, rc, zs⟩ := r
      by_cases hk0 : rk = 0 ∧ rl ≤ 100
      · exact dsendActs_0 w wr A n cap acts hn100 HR HOK HN (by omega) s x i hi hlt F G T L J1 _ hr0 hk0.1 hk0.2 _ _ _ _ _ _ _ _ _ _ _ _ _ _ _ _ _ _ _ _ _ _ _ _ _ _ _ _ _ _ _ _ _ _ _ _ _ _ _ _ _ _ _ _ _ _ _ _ _ _ _ _ _ _ _ _ _ _ _ _ _ _ _ _ _ _ _ _ _ _ _ _ _ _ _ _ _ _ _ _ _ _ _ _ _ _ _ _ _ _ _ _ _ _ _ _ _ _ _ _ _ _ _ _ _ _ _ _ _ _ _ _ _ _ _ _ _ _ _ _ _ _ _ _ _ _ _ _ _ _ _ _ _ _ _ _ _ _ _ _ _ _ _ _ _ _ _ _ _ _ _ _ _ _ _ _ _ _ _ _ _
      by_cases hk1 : rk = 1
      · exact dsendActs_1 w wr A n cap acts hn100 HR HOK HN (by omega) s x i hi hlt F G T L J1 _ hr0 hk1 _ _ _ _ _ _ _ _ _ _ _ _ _ _ _ _ _ _ _ _ _ _ _ _ _ _ _ _ _ _ _ _ _ _ _ _ _ _ _ _ _ _ _ _ _ _ _ _ _ _ _ _ _ _ _ _ _ _ _ _ _ _ _ _ _ _ _ _ _ _ _ _ _ _ _ _ _ _ _ _ _ _ _ _ _ _ _ _ _ _ _ _ _ _ _ _ _ _ _ _ _ _ _ _ _ _ _ _ _ _ _ _ _ _ _ _ _ _ _ _ _ _ _ _ _ _ _ _ _ _ _ _ _ _ _ _ _ _ _ _ _ _ _ _ _ _ _ _ _ _ _ _ _ _ _ _ _ _ _ _ _
      by_cases hk2 : rk = 2
      · exact dsendActs_2 w wr A n cap acts hn100 HR HOK HN (by omega) s x i hi hlt F G T L J1 _ hr0 hk2 _ _ _ _ _ _ _ _ _ _ _ _ _ _ _ _ _ _ _ _ _ _ _ _ _ _ _ _ _ _ _ _ _ _ _ _ _ _ _ _ _ _ _ _ _ _ _ _ _ _ _ _ _ _ _ _ _ _ _ _ _ _ _ _ _ _ _ _ _ _ _ _ _ _ _ _ _ _ _ _ _ _ _ _ _ _ _ _ _ _ _ _ _ _ _ _ _ _ _ _ _ _ _ _ _ _ _ _ _ _ _ _ _ _ _ _ _ _ _ _ _ _ _ _ _ _ _ _ _ _ _ _ _ _ _ _ _ _ _ _ _ _ _ _ _ _ _ _ _ _ _ _ _ _ _ _ _ _ _ _ _
      by_cases hk3 : rk = 3
      · exact dsendActs_3 w wr A n cap acts hn100 HR HOK HN (by omega) s x i hi hlt F G T L J1 _ hr0 hk3 _ _ _ _ _ _ _ _ _ _ _ _ _ _ _ _ _ _ _ _ _ _ _ _ _ _ _ _ _ _ _ _ _ _ _ _ _ _ _ _ _ _ _ _ _ _ _ _ _ _ _ _ _ _ _ _ _ _ _ _ _ _ _ _ _ _ _ _ _ _ _ _ _ _ _ _ _ _ _ _ _ _ _ _ _ _ _ _ _ _ _ _ _ _ _ _ _ _ _ _ _ _ _ _ _ _ _ _ _ _ _ _ _ _ _ _ _ _ _ _ _ _ _ _ _ _ _ _ _ _ _ _ _ _ _ _ _ _ _ _ _ _ _ _ _ _ _ _ _ _ _ _ _ _ _ _ _ _ _ _ _
      by_cases hk4 : rk = 4
      · exact dsendActs_4 w wr A n cap acts hn100 HR HOK HN (by omega) s x i hi hlt F G T L J1 _ hr0 hk4 _ _ _ _ _ _ _ _ _ _ _ _ _ _ _ _ _ _ _ _ _ _ _ _ _ _ _ _ _ _ _ _ _ _ _ _ _ _ _ _ _ _ _ _ _ _ _ _ _ _ _ _ _ _ _ _ _ _ _ _ _ _ _ _ _ _ _ _ _ _ _ _ _ _ _ _ _ _ _ _ _ _ _ _ _ _ _ _ _ _ _ _ _ _ _ _ _ _ _ _ _ _ _ _ _ _ _ _ _ _ _ _ _ _ _ _ _ _ _ _ _ _ _ _ _ _ _ _ _ _ _ _ _ _ _ _ _ _ _ _ _ _ _ _ _ _ _ _ _ _ _ _ _ _ _ _ _ _ _ _ _
      have hrok := HOK.out _ (List.mem_of_getElem? hr0)
      obtain ⟨bb, o, rfl, hb, hc⟩ := (HR.out.fine J1.out.fine).at_ hr0
      have d0 := hc 0 (.int .i64 rk) rfl
      have d1 := hc 1 (.int .i64 rn) rfl
      have d2 := hc 2 (.int .i64 rm) rfl
      have d3 := hc 3 (.slice rA rl rc) rfl
      simp only [← Nat.add_assoc, Nat.add_zero] at d0 d1 d2 d3
      have HD := Lib.hid hrok
      obtain ⟨xr, hxr⟩ : ∃ x, wr.heap.size = x := ⟨_, rfl⟩
      have b5 := Blk.newAt (w := wr) (t := 76) (cs := #[.int .i64 rk, .int .i64 rn, .int .i64 rm, .slice rA rl rc]) hxr.symm
      have f5 := (Fine.refl wr).alloc (.cells #[.int .i64 rk, .int .i64 rn, .int .i64 rm, .slice rA rl rc] 76)
      have hxF : ¬ F xr := fun hf => by have := J1.out.s.lt _ hf; omega
      have hxG : ¬ G xr := fun hf => by have := J1.out.r.lt _ hf; omega
      clear hc hr0 hrok
      go_upto_region 9 with fail
      generalize wr.alloc (.cells #[.int .i64 rk, .int .i64 rn, .int .i64 rm, .slice rA rl rc] 76) = w5 at b5 f5 ⊢
      have B5 := Lib.hid b5; have J5 := Lib.hid (J1.out.wfine f5)
      have c0 : w5.cell? ⟨xr, 0, none⟩ = some (.int .i64 rk) := b5.cell 0
      have c1 : w5.cell? ⟨xr, 1, none⟩ = some (.int .i64 rn) := b5.cell 1
      have c2 : w5.cell? ⟨xr, 2, none⟩ = some (.int .i64 rm) := b5.cell 2
      have c3 : w5.cell? ⟨xr, 3, none⟩ = some (.slice rA rl rc) := b5.cell 3
      clear b5 f5 hxr d0 d1 d2 d3
      obtain ⟨una, huna⟩ : ∃ z, T.una = z := ⟨_, rfl⟩
      have hub : 1 ≤ una ∧ una ≤ 20000 := by have h1 := J1.out.ok.u1; have h2 := J1.out.ok.ub; omega
      have HUNA := Lib.hid huna
      have hKb : 1 + 100 * (i : Int) ≤ 20000 := by omega
      have hKi : (1 + 100 * (i : Int)) + 100 = 1 + 100 * ((i + 1 : Nat) : Int) := by omega
      have hKm : (1 + 100 * (i : Int)) ≤ 1 + 100 * ((i + 1 : Nat) : Int) := by omega
      have HKI := Lib.hid hKi
      clear huna hKi
      by_cases hk0' : rk = 0
      · subst hk0'
        have hbig2 : (rl : Int) > 100 := by
          have : ¬ rl ≤ 100 := fun h => hk0 ⟨rfl, h⟩
          omega
        go_wp2_with fail
        go_ret
        exact ⟨rfl, J5.out.fine⟩
      · have hk0b : (rk == 0) = false := by simpa using hk0'
        have hk1b : (rk == 1) = false := by simpa using hk1
        have hk2b : (rk == 2) = false := by simpa using hk2
        have hk3b : (rk == 3) = false := by simpa using hk3
        have hk4b : (rk == 4) = false := by simpa using hk4
        obtain ⟨T9, hT9⟩ : ∃ z, z = T := ⟨_, rfl⟩
        obtain ⟨F9, hF9⟩ : ∃ z, z = F := ⟨_, rfl⟩
        obtain ⟨G9, hG9⟩ : ∃ z, z = G := ⟨_, rfl⟩
        obtain ⟨L9, hL9⟩ : ∃ z, z = L := ⟨_, rfl⟩
        have J9 := Lib.hid (J5.out.more hKm)
        rw [← hT9, ← hF9, ← hG9, ← hL9] at J9
        go_upto_region 36 with fail
        obtain ⟨w9, hw9⟩ : ∃ z, z = w5 := ⟨_, rfl⟩
        clear hT9 hF9 hG9 hL9 c0 c1 c2 c3
        subst hw9
        go_wp2_with fail
        refine (ssame_any (by omega) J9.out.ok w9 J9.out.s J9.out.r).mono ?_
        rintro e v1 ⟨rfl, f1⟩
        have K1 := Lib.hid f1
        clear f1
        go_wp2_with fail
        exact ⟨⟨i + 1, hlt, by simp, Lib.hid ⟨F9, G9, T9, L9, J9.out.wfine K1.out⟩⟩, by simp only [intOf]; omega⟩
    · have hie : i = n := by omega
      subst hie
      go_wp2_with fail
      go_ret
      exact ⟨rfl, J1.out.fine⟩
end Go.Proofs.Ytnigfdldfmiaiaa
namespace Go.Proofs.Ytnigfdldfmiaiaa
set_option linter.unusedVariables false
set_option linter.unusedSimpArgs false
open Go.ChangeShapes Go.WideShapes Go.ChangeAt Go.RowKit Go.Maps
set_option linter.unusedVariables false
set_option linter.unusedSimpArgs false
set_option maxHeartbeats 2000000 in
set_option maxRecDepth 20000 in
theorem lawDsendActs (w : World) (A : Option Addr) (len cap : Nat) (z : List Ds) (h : RS layDs w A cap z ∧ z.length = len ∧ ∀ x ∈ z, DsOk w x) :
    Calls Try.prog 16 #[.slice A len cap] w fun e w' => e = .returned (.bool true) ∧ Below w.heap.size w w' := by
  show Calls _ _ _ _ fun e w' => e = .returned (.bool true) ∧ Fine w w'
  obtain ⟨h1, h2, h3⟩ := h
  by_cases hl : len ≤ 100
  · exact dsendActs_main w A len cap z hl h1 h2 h3
  · clear h1 h2 h3
    have h4 : (len : Int) > 100 := by omega
    go_enter Try.func16, Try.ntmps16
    go_wp2_with fail
    refine (dsendWakes_any w).mono ?_
    rintro r w1 ⟨rfl, f1⟩
    have F1 := Lib.hid f1
    clear f1
    go_wp2_with fail
    go_ret
    exact ⟨rfl, F1.out⟩
end Go.Proofs.Ytnigfdldfmiaiaa
