/- A row that is lent: its value, cut to what is shown. -/
import Derived.Test.YtfgeffmlfbeodaaOwn
namespace Go.Proofs.Ytfgeffmlfbeodaa.Own
open Go.RowKit

/-- A row that is lent: the value of the whole, cut to n. -/
def loanv (v : Value) (n : Nat) : Value := match v with
  | .slice A _ c => .slice A n c
  | v => v

end Go.Proofs.Ytfgeffmlfbeodaa.Own
