/- Package outq: Ack. -/
import Derived.Test.YtjldgialhgfhmaaOutq4
import Derived.Deep.DeepCutAuto
import Derived.Deep.LoopGhost
import Derived.Deep.RegionHeld3
namespace Go.Proofs.Ytjldgialhgfhmaa
open Go.ChangeShapes Go.WideShapes Go.ChangeAt Go.RowKit
set_option linter.unusedVariables false

/-- How many pieces are acknowledged by so many numbers. -/
def ackK : List Pc → Int → Nat
  | [], _ => 0
  | p :: ps, came => if came < long p then 0 else ackK ps (came - long p) + 1
theorem ackK_le (ps : List Pc) (came : Int) : ackK ps came ≤ ps.length := by
  induction ps generalizing came with
  | nil => simp [ackK]
  | cons p ps ih => simp only [ackK]; split <;> simp; exact ih _
/-- More numbers than there are: refused. -/
theorem ack_over (g : Nat) (F : Nat → Prop) (ps : List Pc) (e a : Int) (w : World) (h : QB w F g ps e) (ho : dist (beginQ ps e) e < dist (beginQ ps e) a) :
    Calls Try.prog 30 #[.pointer (some ⟨g, 0, none⟩), .int .u32 a] w fun x w' => x = .returned (.tuple #[.slice none 0 0, .bool false]) ∧ Fine w w' := by
  have H := Lib.hid h; clear h
  have c1 := H.out.endAt.1
  have hgl := H.out.endAt.2.2.1
  obtain ⟨b, hb⟩ : ∃ b, beginQ ps e = b := ⟨_, rfl⟩
  have HBg := Lib.hid (fun w' (hf : Fine w w') => begin_any g F ps e w' (H.out.fine hf))
  rw [hb] at HBg ho
  clear hb
  have d1 := dist_bd b e
  have d2 := dist_bd b a
  obtain ⟨m, hm⟩ : ∃ m, dist b e = m := ⟨_, rfl⟩
  obtain ⟨n, hn⟩ : ∃ n, dist b a = n := ⟨_, rfl⟩
  have HM := Lib.hid (fun w' => Steps_any b e w')
  have HN := Lib.hid (fun w' => Steps_any b a w')
  rw [hm] at HM d1 ho
  rw [hn] at HN d2 ho
  clear hm hn
  go_enter Try.func30, Try.ntmps30
  go_wp2_with fail
  go_step3
  go_wp2_with fail
  go_region_held3 (fun w' => w'.cell? ⟨g, 1, none⟩ = some (.int .u32 e)) (first | exact c1 | exact (fA.cell (p := ⟨g, 1, none⟩) hgl).trans c1 | exact ((fA.trans fB).cell (p := ⟨g, 1, none⟩) hgl).trans c1) (first | (go_at_call 32; refine (HBg.out w.drew (Fine.refl w).drew).mono ?_; rintro x wA ⟨rfl, fA0⟩; have fA : Fine w wA := (Fine.refl w).drew.trans fA0) | (go_at_call 67; refine (HM.out _).mono ?_; rintro x wB ⟨rfl, fB⟩))
  go_wp2_with fail
  refine (HBg.out wB (fA.trans fB)).mono ?_; rintro x wC ⟨rfl, fC⟩
  go_wp2_with fail
  refine (HN.out wC).mono ?_; rintro x wD ⟨rfl, fD⟩
  go_wp2_with fail
  try rw [Exit.noGoto_ret]
  go_ret2
  exact ⟨rfl, (by repeat (first | exact Fine.refl _ | assumption | refine Fine.alloc ?_ _ | refine Fine.drew ?_ | refine Fine.drewN ?_ _ | refine Fine.trans ?_ (by assumption) | (refine Fine.kept ?_ (by assumption) (by intro x hx; first | omega | (simp; omega))) | (refine Fine.setCell ?_ (by first | assumption | (simp; done) | (simp; omega)) _)))⟩
end Go.Proofs.Ytjldgialhgfhmaa
