/- Saves and tables as values of a drawn region. -/
import Derived.Test.YtbgepefdfioljaaPr
import Derived.Test.YtbgepefdfioljaaTz
import Derived.Test.YtbgepefdfioljaaTu
namespace Go.Proofs.Ytbgepefdfioljaa
open Go.RowKit
theorem TabO.box {G : Nat → Prop} {B E B' : Nat} {U : TypeId} {w w' : World} {A : Option Addr} {c : Nat} {T : List RowO} (h : TabO B E w A c T) (hr : RBox G B' U w w') (hg : ∀ k, B ≤ k → ¬ G k) (ht : 22 ≠ U) (hi : 3 ≠ U) : TabO B E w' A c T :=
  ⟨h.1.box hr hg ht, ⟨fun r hr' => by
    obtain ⟨h1, h2, h3, h4⟩ := h.2.1 r hr'
    exact ⟨h1, h2, hr.blk h3 (hg _ h1) (.inr hi), h4⟩, h.2.2⟩⟩
def PSav (B : Nat) (n : Int) (xs : List Int) (s : Int) : Value → World → Prop := fun v w => ∃ g, v = .agg #[.int .i64 n, .slice (some ⟨g, 0, none⟩) xs.length xs.length, .int .i64 s] ∧ OwnS B w.heap.size w 3 (some ⟨g, 0, none⟩) xs.length xs.length (icells xs)
theorem PSav.box {B B' : Nat} {n s : Int} {xs : List Int} {U : TypeId} {v : Value} {w w' : World} (h : PSav B n xs s v w) (hr : RBox NoB B' U w w') (hi : 3 ≠ U) : PSav B n xs s v w' := by
  obtain ⟨g, rfl, ho⟩ := h
  exact ⟨g, rfl, (ho.box hr (fun _ _ x => x) hi).more (Nat.le_refl _) hr.size⟩
/-- A table among a function's results. -/
def PTab (B : Nat) (X : List (List Int)) (val : Value → Value) : Value → World → Prop := fun v w => ∃ A c T, v = val (.agg #[.slice A X.length c]) ∧ TabO B w.heap.size w A c T ∧ Hid (listsOf T = X)
theorem PTab.box {B B' : Nat} {X : List (List Int)} {val : Value → Value} {U : TypeId} {v : Value} {w w' : World} (h : PTab B X val v w) (hr : RBox NoB B' U w w') (ht : 22 ≠ U) (hi : 3 ≠ U) : PTab B X val v w' := by
  obtain ⟨A, c, T, rfl, ho, hT⟩ := h
  exact ⟨A, c, T, rfl, (ho.box hr (fun _ _ x => x) ht hi).more (Nat.le_refl _) hr.size, hT⟩
theorem NewerIs.ex (p q : LdA) : ∃ X N b, NewerIs p q X N b := by
  have hl : ∀ r : LdA, ∃ X b, LoadIs r.n r.xs r.s X b := fun r => by
    by_cases h : loadArgs r.n r.xs r.s
    · exact ⟨_, _, fun _ => ⟨rfl, rfl⟩, fun hh => absurd h hh⟩
    · exact ⟨_, _, fun hh => absurd hh h, fun _ => ⟨rfl, rfl⟩⟩
  obtain ⟨X1, b1, h1⟩ := hl p
  obtain ⟨X2, b2, h2⟩ := hl q
  by_cases hq : b1 = true ∧ (b2 = false ∨ q.n ≤ p.n)
  · exact ⟨X1, p.n, true, X1, b1, X2, b2, h1, h2, fun _ _ => ⟨rfl, rfl, rfl⟩, fun hh => absurd hq hh, (fun h3 => by rw [hq.1] at h3; cases h3)⟩
  · cases b2
    · cases b1
      · exact ⟨[], -1, false, X1, _, X2, _, h1, h2, (fun hh => by cases hh), (fun _ hh => by cases hh), fun _ _ => ⟨rfl, rfl, rfl⟩⟩
      · exact absurd ⟨rfl, .inl rfl⟩ hq
    · exact ⟨X2, q.n, true, X1, b1, X2, _, h1, h2, fun h3 h4 => absurd ⟨h3, h4⟩ hq, fun _ _ => ⟨rfl, rfl, rfl⟩, (fun _ hh => by cases hh)⟩
theorem NewerIs.small {p q : LdA} {X : List (List Int)} {N : Int} {b : Bool} (h : NewerIs p q X N b) : total X ≤ 1048576 ∧ X.length ≤ 9223372036854775807 ∧ ∀ r ∈ X, r.length ≤ 9223372036854775807 := by
  rcases h.from with rfl | ⟨r, b', h, -⟩ | ⟨r, b', h, -⟩
  · exact ⟨by simp [total], by simp, by simp⟩
  · exact load_total h
  · exact load_total h
end Go.Proofs.Ytbgepefdfioljaa
