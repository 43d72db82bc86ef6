/- Slices that a call has built by append: 'ownsRow' in the words of 'Chg' and 'Rd'; literals that are indexed. -/
import Derived.Test.YtdblfcmmeggpdaaB
import Derived.WalkKit
namespace Go.Proofs.Ytdblfcmmeggpdaa
open Go.RowKit
section
variable {F : Nat → Prop} {w w' : World} {B size n : Nat} {e : TypeId} {v : Value} {xs : List Value}
theorem own_rd (h : w.ownsRow B e size v n xs) : ∃ A c, v = .slice A n c ∧ n ≤ c ∧ Rd (fun i => B ≤ i) w A xs := by
  obtain ⟨hl, h⟩ := h
  rcases h with ⟨rfl, rfl⟩ | ⟨g, cap, cur, rfl, hb, hg, hn, _, hs, ht⟩
  · have : xs = [] := List.eq_nil_of_length_eq_zero (by simpa using hl)
    subst this
    exact ⟨none, 0, rfl, Nat.le_refl _, Rd.nil _ _ _⟩
  · refine ⟨_, cap, rfl, hn, fun k u hk => ⟨_, rfl, hb, ?_⟩⟩
    have e1 : (⟨g, 0, none⟩ : Addr).add k = ⟨g, k, none⟩ := by unfold Addr.add; split <;> simp_all
    rw [e1, cell_of_row w g k cur e (0, 0) hg]
    rw [← ht, List.getElem?_take] at hk
    split at hk
    · simpa using hk
    · cases hk
theorem own_chg (h : w.ownsRow B e size v n xs) (hc : Chg F w w') (hf : ∀ i, B ≤ i → ¬ F i) : w'.ownsRow B e size v n xs := by
  obtain ⟨hl, h⟩ := h
  refine ⟨hl, ?_⟩
  rcases h with h | ⟨g, cap, cur, rfl, hb, hg, hr⟩
  · exact .inl h
  · exact .inr ⟨g, cap, cur, rfl, hb, (hc.block g (Array.getElem?_eq_some_iff.1 hg).1 (hf g hb)).trans hg, hr⟩
/-- What a law on append leaves ('grownBy'), as a step of the call's. -/
theorem chg_grown {w0 : World} (h : w.ownsRow B e size v n xs) (hg : w.grownBy w' v.ownBlock) (hc : Chg F w0 w) (hB : w0.heap.size ≤ B) : Chg F w0 w' :=
  hc.grown hg fun k hk => .inr (Nat.le_trans hB (h.lt k hk).1)
end
theorem lit_cell {w : World} {g : Nat} {t : TypeId} {cs : Array Value} (h : Blk w g t cs) (k : Nat) (hk : k < cs.size) (hi : ∀ v ∈ cs, ∃ x : Int, v = .int .i64 x) : ∃ x : Int, w.cell? ⟨g, k, none⟩ = some (.int .i64 x) := by
  obtain ⟨x, hx⟩ := hi cs[k] (Array.getElem_mem hk)
  exact ⟨x, by rw [h.cell, Array.getElem?_eq_getElem hk, hx]⟩
theorem lit_nat {w : World} {g : Nat} {t : TypeId} {cs : Array Value} (h : Blk w g t cs) (b k : Nat) (hk : k < cs.size) (hi : ∀ v ∈ cs, ∃ x : Int, v = .int .i64 x ∧ 0 ≤ x ∧ x < b) : ∃ x : Nat, w.cell? ⟨g, k, none⟩ = some (.int .i64 x) ∧ x < b := by
  obtain ⟨x, hx, h0, hb⟩ := hi cs[k] (Array.getElem_mem hk)
  obtain ⟨n, rfl⟩ := Int.eq_ofNat_of_zero_le h0
  exact ⟨n, by rw [h.cell, Array.getElem?_eq_getElem hk, hx], by omega⟩
theorem own_empty (w : World) (e : TypeId) (size B : Nat) (hB : B ≤ w.heap.size) : (w.alloc (.cells #[] e)).ownsRow B e size (.slice (some ⟨w.heap.size, 0, none⟩) 0 0) 0 [] :=
  World.ownsRow_made w #[] 0 hB (Nat.zero_le _) (by simp)
/-- Two literals, one behind the other. -/
theorem lit2 (w : World) (t t' : TypeId) (cs cs' : Array Value) : Blk ((w.alloc (.cells cs t)).alloc (.cells cs' t')) w.heap.size t cs ∧ Blk ((w.alloc (.cells cs t)).alloc (.cells cs' t')) (w.heap.size + 1) t' cs' ∧
    Chg NoB w ((w.alloc (.cells cs t)).alloc (.cells cs' t')) := by
  refine ⟨(Blk.new w t cs).chg ((Chg.refl NoB _).alloc _) (fun x => x), ?_, ((Chg.refl NoB w).alloc _).alloc _⟩
  have := Blk.new (w.alloc (.cells cs t)) t' cs'
  rwa [World.size_alloc] at this
end Go.Proofs.Ytdblfcmmeggpdaa
