/- A region that draws its order, by an invariant over the operations that are done. -/
import Derived.Orders
namespace Go.Proofs.Ytenbbkmbnpdfaaa
variable {P : Program} {ops : Array Oper} {Q : Exit → Act → World → Prop} {md : Region.Mode}
theorem countP_less {p q : Nat → Bool} (h : ∀ j, q j = true → p j = true) {i : Nat} (hp : p i = true) (hq : q i = false) : ∀ {l : List Nat}, i ∈ l → l.countP q < l.countP p
  | [], hi => by cases hi
  | x :: l, hi => by
    have hm : l.countP q ≤ l.countP p := List.countP_mono_left fun j _ hj => h j hj
    rw [List.countP_cons, List.countP_cons]
    rcases List.mem_cons.1 hi with rfl | hl
    · rw [if_neg (by simp [hq]), if_pos hp]; omega
    · have := countP_less h hp hq hl
      by_cases hx : q x = true
      · rw [if_pos hx, if_pos (h x hx)]; omega
      · rw [if_neg hx]; omega
theorem wpAny_inv {Inv : Array Bool → Act → World → Prop}
    (hstep : ∀ listed a w i, Inv listed a w → i ∈ Region.ready md ops listed → wpOp P ops Q i (Inv (listed.setIfInBounds i true)) a w)
    (hend : ∀ listed a w, Inv listed a w → Region.ready md ops listed = [] → Q .normal a w) :
    ∀ (fuel : Nat) (listed : Array Bool) (a : Act) (w : World), (Region.ready md ops listed).length ≤ fuel → (List.range ops.size).countP (fun i => !listed.getD i true) ≤ fuel → Inv listed a w → wpAny P md ops Q fuel listed a w := by
  intro fuel
  induction fuel with
  | zero =>
    intro listed a w h0 _ h
    have hr : Region.ready md ops listed = [] := List.eq_nil_of_length_eq_zero (by omega)
    exact ⟨hr, hend _ _ _ h hr⟩
  | succ fuel ih =>
    intro listed a w h0 h1 h
    refine ⟨fun hr => hend _ _ _ h hr, fun i hi => wpOp_mono (fun a' w' h' => ?_) (hstep _ _ _ i h hi)⟩
    have hc : (List.range ops.size).countP (fun j => !(listed.setIfInBounds i true).getD j true) ≤ fuel := by
      have hl := (mem_ready.1 hi).1
      obtain ⟨o, ho, _⟩ := (mem_ready.1 hi).2
      have hlt : i < ops.size := (Array.getElem?_eq_some_iff.1 ho).1
      have hb : i < listed.size := by
        rcases Nat.lt_or_ge i listed.size with h' | h'
        · exact h'
        · simp [Array.getElem?_eq_none h'] at hl
      have := countP_less (p := fun j => !listed.getD j true) (q := fun j => !(listed.setIfInBounds i true).getD j true) (i := i) (fun j hj => by
        by_cases hij : i = j
        · subst hij; simp [hb] at hj
        · rw [getD_set_ne true hij] at hj; exact hj) (by simp only [hl]; rfl) (by simp [hb]) (List.mem_range.2 hlt)
      omega
    refine ih _ _ _ ?_ hc h'
    refine Nat.le_trans ?_ hc
    unfold Region.ready
    rw [← List.countP_eq_length_filter]
    exact List.countP_mono_left fun j _ hj => by
      rw [Bool.and_eq_true] at hj
      exact hj.1
theorem wp_region_inv {Inv : Array Bool → Act → World → Prop} {id : Nat} {a : Act} {w : World} (hm : P.follows .mixedOrders = true)
    (h0 : Inv (Array.replicate ops.size false) a { w with drawn := w.drawn + 1 })
    (hstep : ∀ listed a w i, Inv listed a w → i ∈ Region.ready .any ops listed → wpOp P ops Q i (Inv (listed.setIfInBounds i true)) a w)
    (hend : ∀ listed a w, Inv listed a w → Region.ready .any ops listed = [] → Q .normal a w) : (Code.region id ops true).wp P Q a w := by
  refine wp_region_any hm (wpAny_inv hstep hend _ _ _ _ ?_ ?_ h0)
  · unfold Region.ready
    exact Nat.le_trans (List.length_filter_le _ _) (by simp)
  · exact Nat.le_trans List.countP_le_length (by simp)
end Go.Proofs.Ytenbbkmbnpdfaaa
