/- A drawn region that appends one element onto a slice of the call's own. -/
import Derived.Test.YtbgepefdfioljaaRb
namespace Go.Proofs.Ytbgepefdfioljaa
open Go.RowKit
/-- Ahead of operation ai u owns xs; behind it ai's value owns one element more, of cells that S names. -/
def AppI (H0 : Nat) (e : TypeId) (size : Nat) (u : Value) (n : Nat) (xs : List Value) (ai : Nat) (S : (Nat → Option Value) → List Value → Prop) (m : Nat → Option Value) (w : World) : Prop :=
  (m ai = none → w.ownsRow H0 e size u n xs) ∧ ∀ v, m ai = some v → ∃ news, S m news ∧ w.ownsRow H0 e size v (n + 1) (xs ++ news)
section
variable {H0 : Nat} {e : TypeId} {size : Nat} {u : Value} {n : Nat} {xs : List Value} {ai i : Nat} {S : (Nat → Option Value) → List Value → Prop} {m : Nat → Option Value} {F : Nat → Prop} {w w' : World} {v : Value}
theorem AppI.start (h : w.ownsRow H0 e size u n xs) : AppI H0 e size u n xs ai S (fun _ => none) w := ⟨fun _ => h, fun v hv => by cases hv⟩
theorem AppI.keep (h : AppI H0 e size u n xs ai S m w) (hi : i ≠ ai) (hS : ∀ news, S m news → S (upd m i v) news) (hc : Chg F w w') (hF : ∀ g cs, H0 ≤ g → Blk w g e cs → ¬ F g) : AppI H0 e size u n xs ai S (upd m i v) w' := by
  have e1 : upd m i v ai = m ai := if_neg (Ne.symm hi)
  refine ⟨fun hm => own_chg1 (h.1 (by rw [← e1]; exact hm)) hc hF, fun v' hv' => ?_⟩
  rw [e1] at hv'
  obtain ⟨news, hs, ho⟩ := h.2 v' hv'
  exact ⟨news, hS news hs, own_chg1 ho hc hF⟩
theorem AppI.done (news : List Value) (hS : S (upd m ai v) news) (ho : w'.ownsRow H0 e size v (n + 1) (xs ++ news)) : AppI H0 e size u n xs ai S (upd m ai v) w' := by
  have e1 : upd m ai v ai = some v := if_pos rfl
  refine ⟨fun hm => by rw [e1] at hm; (cases hm), fun v' hv' => ?_⟩
  rw [e1] at hv'
  cases hv'
  exact ⟨news, hS, ho⟩
theorem upd_ne {m : Nat → Option Value} {i j : Nat} {v : Value} (h : j ≠ i) : upd m i v j = m j := if_neg h
theorem upd_same {m : Nat → Option Value} {i : Nat} {v : Value} : upd m i v i = some v := if_pos rfl
end
end Go.Proofs.Ytbgepefdfioljaa
