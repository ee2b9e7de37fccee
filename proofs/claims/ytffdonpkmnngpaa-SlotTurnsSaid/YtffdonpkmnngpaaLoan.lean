/- A row that is lent: its value, cut to what is shown. -/
import Derived.Test.YtffdonpkmnngpaaOwn
namespace Go.Proofs.Ytffdonpkmnngpaa.Own
open Go.RowKit

/-- A row that is lent: the value of the whole, cut to n. -/
def loanv (v : Value) (n : Nat) : Value := match v with
  | .slice A _ c => .slice A n c
  | v => v

end Go.Proofs.Ytffdonpkmnngpaa.Own
