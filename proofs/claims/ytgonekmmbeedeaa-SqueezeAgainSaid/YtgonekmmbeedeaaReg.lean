/-
  The operations of a region, off a function's own text. No condition.
-/
import Derived.Test.YtgonekmmbeedeaaRegion
namespace Go.Proofs.Ytgonekmmbeedeaa
set_option linter.unusedVariables false

def regOf (n : Nat) : Code → List Oper
  | .region id ops _ => if id = n then ops.toList else []
  | .seq a b => regOf n a ++ regOf n b
  | .cond _ a b => regOf n a ++ regOf n b
  | .block _ b => regOf n b
  | .loop b => regOf n b
  | .rangeFunc _ _ a b => regOf n a ++ regOf n b
  | .scope b => regOf n b
  | _ => []
def regArr (f : Func) (n : Nat) : Array Oper := ((f.body.map (regOf n)).getD []).toArray
end Go.Proofs.Ytgonekmmbeedeaa
