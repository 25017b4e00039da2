/- Law17: the order of messages by their bytes. -/
import Derived.Test.YtkekidalckflhaaDoorMg9
import Derived.Test.YtkekidalckflhaaDoorCm3
import Derived.Test.YtkekidalckflhaaDoorKeyO
namespace Go.Proofs.YtkekidalckflhaaDoor
open Go.Vc Go.RowKit Go.Sei

def les (a b : Msg) : Bool := decide (cmpL (codeOf a) (codeOf b) < 0)
theorem les_trans {a b c : Msg} (h : les a b = true) (k : les b c = true) : les a c = true := decide_eq_true (cmpL_trans _ _ _ (of_decide_eq_true h) (of_decide_eq_true k))
theorem les_asymm {a c : Msg} (h : les a c = true) : les c a = false := by
  cases hc : les c a with
  | false => rfl
  | true =>
    have := les_trans h hc
    have := of_decide_eq_true this
    rw [cmpL_self] at this; cases this
end Go.Proofs.YtkekidalckflhaaDoor
