/- Facts of a drawn region's operations, given as a list. -/
import Derived.Test.YtenbbkmbnpdfaaaRb
namespace Go.Proofs.Ytenbbkmbnpdfaaa
def PL (ps : List (Value → World → Prop)) (i : Nat) (v : Value) (w : World) : Prop := (ps.getD i fun _ _ => True) v w
def PLs (R : World → World → Prop) : List (Value → World → Prop) → Prop
  | [] => True
  | p :: ps => (∀ v w1 w2, p v w1 → R w1 w2 → p v w2) ∧ PLs R ps
theorem pl_stab {R : World → World → Prop} : ∀ {ps : List (Value → World → Prop)}, PLs R ps → ∀ i v w1 w2, PL ps i v w1 → R w1 w2 → PL ps i v w2
  | [], _, _, _, _, _, _, _ => trivial
  | _ :: _, h, 0, v, w1, w2, hp, hr => h.1 v w1 w2 hp hr
  | _ :: _, h, i + 1, v, w1, w2, hp, hr => pl_stab h.2 i v w1 w2 hp hr
end Go.Proofs.Ytenbbkmbnpdfaaa
