/- Drawn regions of two conversions and a call: what is known of each operation's value. -/
import Derived.Test.YtbgepefdfioljaaRb
namespace Go.Proofs.Ytbgepefdfioljaa
open Go.RowKit
theorem OwnS.box {G : Nat → Prop} {B E B' : Nat} {T : TypeId} {w w' : World} {t : TypeId} {A : Option Addr} {n c : Nat} {cs : List Value} (h : OwnS B E w t A n c cs) (hr : RBox G B' T w w') (hg : ∀ k, B ≤ k → ¬ G k) (ht : t ≠ T) : OwnS B E w' t A n c cs := by
  obtain ⟨hn, h⟩ := h
  refine ⟨hn, ?_⟩
  rcases h with h | ⟨g, rest, rfl, hB, hE, hb⟩
  · exact .inl h
  · exact .inr ⟨g, rest, rfl, hB, hE, hr.blk hb (hg g hB) (.inr ht)⟩
abbrev isVal (u : Value) : Value → World → Prop := fun v _ => v = u
abbrev anyVal : Value → World → Prop := fun _ _ => True
/-- load, conversion, load, conversion, call of three results, its move, three extracts, box, store, two assigns. -/
def pairPost3 (PA PB PF P0 : Value → World → Prop) (a b x y : Value) (i : Nat) : Value → World → Prop :=
  match i with
  | 0 => isVal a
  | 1 => PA
  | 2 => isVal b
  | 3 => PB
  | 4 | 5 => PF
  | 6 => P0
  | 7 | 11 => isVal x
  | 8 | 12 => isVal y
  | _ => anyVal
theorem pairPost3_stab {PA PB PF P0 : Value → World → Prop} {a b x y : Value} {R : World → World → Prop} (hA : ∀ v w1 w2, PA v w1 → R w1 w2 → PA v w2) (hB : ∀ v w1 w2, PB v w1 → R w1 w2 → PB v w2) (hF : ∀ v w1 w2, PF v w1 → R w1 w2 → PF v w2) (h0 : ∀ v w1 w2, P0 v w1 → R w1 w2 → P0 v w2)
    (i : Nat) (v : Value) (w1 w2 : World) (h : pairPost3 PA PB PF P0 a b x y i v w1) (hr : R w1 w2) : pairPost3 PA PB PF P0 a b x y i v w2 := by
  unfold pairPost3 at *
  split at h
  all_goals first
    | exact hA _ _ _ h hr
    | exact hB _ _ _ h hr
    | exact hF _ _ _ h hr
    | exact h0 _ _ _ h hr
    | exact h
/-- The same with one result: load, conversion, load, conversion, call, box, store. -/
def pairPost1 (PA PB P0 : Value → World → Prop) (a b : Value) (i : Nat) : Value → World → Prop :=
  match i with
  | 0 => isVal a
  | 1 => PA
  | 2 => isVal b
  | 3 => PB
  | 4 => P0
  | _ => anyVal
theorem pairPost1_stab {PA PB P0 : Value → World → Prop} {a b : Value} {R : World → World → Prop} (hA : ∀ v w1 w2, PA v w1 → R w1 w2 → PA v w2) (hB : ∀ v w1 w2, PB v w1 → R w1 w2 → PB v w2) (h0 : ∀ v w1 w2, P0 v w1 → R w1 w2 → P0 v w2)
    (i : Nat) (v : Value) (w1 w2 : World) (h : pairPost1 PA PB P0 a b i v w1) (hr : R w1 w2) : pairPost1 PA PB P0 a b i v w2 := by
  unfold pairPost1 at *
  split at h
  all_goals first
    | exact hA _ _ _ h hr
    | exact hB _ _ _ h hr
    | exact h0 _ _ _ h hr
    | exact h
end Go.Proofs.Ytbgepefdfioljaa
