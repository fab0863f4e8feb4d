/- The laws of option: the document's Get. -/
import Derived.Test.YthnennleblgjeaaOptRef6b
import Derived.Test.YthnennleblgjeaaOptRef6c
import Derived.Test.YthnennleblgjeaaOptRef6d
namespace Go.Proofs.Ythnennleblgjeaa
theorem refGet_any (A : Option Addr) (c : Nat) (xs : List Int) (hl : xs.length ≤ 10000000) (w : World) (h : BS w A c xs) : Calls Try.prog 41 #[.slice A xs.length c] w (RGet xs w) := by
  by_cases hne : xs = []
  · exact refGet_nil A c xs hl w h hne
  by_cases h0 : sizeK (num (xs.take 1)) = 0
  · exact refGet_none A c xs hl w h hne h0
  by_cases hs : (xs.length : Int) < sizeK (num (xs.take 1))
  · exact refGet_short A c xs hl w h hne h0 hs
  cases hr : refRightB (parseV (xs.take (sizeK (num (xs.take 1))).toNat))
  · exact refGet_bad A c xs hl w h hne h0 hs hr
  · cases hq : decide (optB (parseV (xs.take (sizeK (num (xs.take 1))).toNat)) = xs.take (sizeK (num (xs.take 1))).toNat)
    · exact refGet_other A c xs hl w h hne h0 hs ⟨hr, hq⟩
    · exact refGet_got A c xs hl w h hne h0 hs ⟨hr, hq⟩
end Go.Proofs.Ythnennleblgjeaa
