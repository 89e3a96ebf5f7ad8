/- typerref's reading of an expression, by a contract, for every text. -/
import Derived.Test.YtabikmkoajdhmaaDoorTrExpF
import Derived.Test.YtabikmkoajdhmaaDoorTrExpI
import Derived.Test.YtabikmkoajdhmaaDoorTrExpL
import Derived.Test.YtabikmkoajdhmaaDoorTrExpA
import Derived.Test.YtabikmkoajdhmaaDoorTrExpB
set_option linter.unusedVariables false
set_option linter.unusedSimpArgs false
set_option linter.unnecessarySimpa false
namespace Go.Proofs.YtabikmkoajdhmaaDoor
open Go.RowKit

theorem tr_exp (R : Rdr) : ∀ f, f ≤ 1000000 → ∀ g, g ≤ f → ExpOk R g
  | 0, _, g, hg => fun s q hq => by
    have : g = 0 := by omega
    subst this; simp [rExp] at hq
  | f + 1, hf, g, hg => by
    have IH := tr_exp R f (by omega)
    by_cases hlt : g ≤ f
    · exact IH g hlt
    · have : g = f + 1 := by omega
      subst this
      intro s q hq G w hi
      cases hb : s.bad with
      | some p => exact tr_expB R f (IH f (Nat.le_refl _)) s (by rw [hb]; rfl) q hq G w hi
      | none =>
        cases h1 : s.isK (.kw FUN) with
        | true => exact tr_expF R f (IH f (Nat.le_refl _)) s hb (Lib.hid h1) q hq G w hi
        | false =>
          cases h2 : s.isK (.kw IF) with
          | true => exact tr_expI R f (IH f (Nat.le_refl _)) s hb (Lib.hid h1) (Lib.hid h2) q hq G w hi
          | false =>
            cases h3 : s.isK (.kw LET) with
            | true => exact tr_expL R f (IH f (Nat.le_refl _)) IH (by omega) s hb (Lib.hid h1) (Lib.hid h2) (Lib.hid h3) q hq G w hi
            | false => exact tr_expA R f (IH f (Nat.le_refl _)) IH s hb (Lib.hid h1) (Lib.hid h2) (Lib.hid h3) q hq G w hi
end Go.Proofs.YtabikmkoajdhmaaDoor
