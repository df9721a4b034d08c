/- Operations of a drawn region that are passed over, many at once, in a loop. No condition. -/
import Derived.Test.YtojnpaenpaobcaaR2
namespace Go.Proofs.Ytojnpaenpaobcaa
open Go.RowKit

def putAll : Nat → List Oper → Act → Act
  | n + 1, o :: l, a => putAll n l (a.put o.dst undef)
  | _, _, a => a
def unwantedAll (ops : Array Oper) : Nat → List Oper → Act → Bool
  | n + 1, o :: l, a => !(Region.wanted o (yielded ops a.tmps)) && unwantedAll ops n l (a.put o.dst undef)
  | _, _, _ => true
theorem wpYield_skipl {P : Program} {ops : Array Oper} {S : World → Prop} {Q : Act → Prop} : ∀ (n : Nat) (l : List Oper) {a : Act}, unwantedAll ops n l a = true → wpYield P ops S Q (l.drop n) (putAll n l a) → wpYield P ops S Q l a
  | 0, _, _, _, h => h
  | _ + 1, [], _, _, h => h
  | n + 1, o :: l, a, hi, h => by
    simp only [unwantedAll, Bool.and_eq_true, Bool.not_eq_true'] at hi
    exact wpYield_skip hi.1 (wpYield_skipl n l hi.2 h)
end Go.Proofs.Ytojnpaenpaobcaa
