/- Slices that a call has built by append: 'ownsRow' in the words of 'Chg' and 'Rd'; literals that are indexed. -/
import Derived.Test.YtenbbkmbnpdfaaaB
import Derived.WalkKit
namespace Go.Proofs.Ytenbbkmbnpdfaaa
open Go.RowKit
section
variable {F : Nat → Prop} {w w' : World} {B size n : Nat} {e : TypeId} {v : Value} {xs : List Value}
theorem own_rd (h : w.ownsRow B e size v n xs) : ∃ A c, v = .slice A n c ∧ n ≤ c ∧ Rd (fun i => B ≤ i) w A xs := by
  obtain ⟨hl, h⟩ := h
  rcases h with ⟨rfl, rfl⟩ | ⟨g, cap, cur, rfl, hb, hg, hn, _, hs, ht⟩
  · have : xs = [] := List.eq_nil_of_length_eq_zero (by simpa using hl)
    subst this
    exact ⟨none, 0, rfl, Nat.le_refl _, Rd.nil _ _ _⟩
  · refine ⟨_, cap, rfl, hn, fun k u hk => ⟨_, rfl, hb, ?_⟩⟩
    have e1 : (⟨g, 0, none⟩ : Addr).add k = ⟨g, k, none⟩ := by unfold Addr.add; split <;> simp_all
    rw [e1, cell_of_row w g k cur e (0, 0) hg]
    rw [← ht, List.getElem?_take] at hk
    split at hk
    · simpa using hk
    · cases hk
theorem own_chg (h : w.ownsRow B e size v n xs) (hc : Chg F w w') (hf : ∀ i, B ≤ i → ¬ F i) : w'.ownsRow B e size v n xs := by
  obtain ⟨hl, h⟩ := h
  refine ⟨hl, ?_⟩
  rcases h with h | ⟨g, cap, cur, rfl, hb, hg, hr⟩
  · exact .inl h
  · exact .inr ⟨g, cap, cur, rfl, hb, (hc.block g (Array.getElem?_eq_some_iff.1 hg).1 (hf g hb)).trans hg, hr⟩
/-- What a law on append leaves ('grownBy'), as a step of the call's. -/
theorem chg_grown {w0 : World} (h : w.ownsRow B e size v n xs) (hg : w.grownBy w' v.ownBlock) (hc : Chg F w0 w) (hB : w0.heap.size ≤ B) : Chg F w0 w' :=
  hc.grown hg fun k hk => .inr (Nat.le_trans hB (h.lt k hk).1)
end
/-- The cells of a block that was just made. -/
theorem cells_new (w : World) (cs : List Value) (t : TypeId) : ∀ j u, cs[j]? = some u → (w.alloc (.cells cs.toArray t)).cell? ((⟨w.heap.size, 0, none⟩ : Addr).add j) = some u := fun j u hj => by
  obtain ⟨ad, e, _, hc⟩ := (Blk.new w t cs.toArray).rd j u hj
  cases e
  exact hc
theorem cells_new2 (w : World) (o : Obj) (cs : List Value) (t : TypeId) : ∀ j u, cs[j]? = some u → ((w.alloc o).alloc (.cells cs.toArray t)).cell? ((⟨w.heap.size + 1, 0, none⟩ : Addr).add j) = some u := by
  have h := cells_new (w.alloc o) cs t
  rwa [World.size_alloc] at h
theorem lit_cell {w : World} {g : Nat} {t : TypeId} {cs : Array Value} (h : Blk w g t cs) (k : Nat) (hk : k < cs.size) (hi : ∀ v ∈ cs, ∃ x : Int, v = .int .i64 x) : ∃ x : Int, w.cell? ⟨g, k, none⟩ = some (.int .i64 x) := by
  obtain ⟨x, hx⟩ := hi cs[k] (Array.getElem_mem hk)
  exact ⟨x, by rw [h.cell, Array.getElem?_eq_getElem hk, hx]⟩
theorem lit_nat {w : World} {g : Nat} {t : TypeId} {cs : Array Value} (h : Blk w g t cs) (b k : Nat) (hk : k < cs.size) (hi : ∀ v ∈ cs, ∃ x : Int, v = .int .i64 x ∧ 0 ≤ x ∧ x < b) : ∃ x : Nat, w.cell? ⟨g, k, none⟩ = some (.int .i64 x) ∧ x < b := by
  obtain ⟨x, hx, h0, hb⟩ := hi cs[k] (Array.getElem_mem hk)
  obtain ⟨n, rfl⟩ := Int.eq_ofNat_of_zero_le h0
  exact ⟨n, by rw [h.cell, Array.getElem?_eq_getElem hk, hx], by omega⟩
theorem own_empty (w : World) (e : TypeId) (size B : Nat) (hB : B ≤ w.heap.size) : (w.alloc (.cells #[] e)).ownsRow B e size (.slice (some ⟨w.heap.size, 0, none⟩) 0 0) 0 [] :=
  World.ownsRow_made w #[] 0 hB (Nat.zero_le _) (by simp)
/-- Two literals, one behind the other. -/
theorem lit2 (w : World) (t t' : TypeId) (cs cs' : Array Value) : Blk ((w.alloc (.cells cs t)).alloc (.cells cs' t')) w.heap.size t cs ∧ Blk ((w.alloc (.cells cs t)).alloc (.cells cs' t')) (w.heap.size + 1) t' cs' ∧
    Chg NoB w ((w.alloc (.cells cs t)).alloc (.cells cs' t')) := by
  refine ⟨(Blk.new w t cs).chg ((Chg.refl NoB _).alloc _) (fun x => x), ?_, ((Chg.refl NoB w).alloc _).alloc _⟩
  have := Blk.new (w.alloc (.cells cs t)) t' cs'
  rwa [World.size_alloc] at this

/-- A slice of n elements that owns its cells cs: it is empty, or they stand at the head of a block in B..E-1. -/
def OwnS (B E : Nat) (w : World) (t : TypeId) (A : Option Addr) (n c : Nat) (cs : List Value) : Prop :=
  n ≤ c ∧ ((n = 0 ∧ cs = []) ∨ ∃ g rest, A = some ⟨g, 0, none⟩ ∧ B ≤ g ∧ g < E ∧ Blk w g t (cs ++ rest).toArray)
section
variable {F : Nat → Prop} {w w' : World} {B E n c : Nat} {t : TypeId} {A : Option Addr} {cs : List Value}
theorem OwnS.rd (h : OwnS B E w t A n c cs) : Rd (fun i => B ≤ i ∧ i < E) w A cs := by
  rcases h.2 with ⟨_, rfl⟩ | ⟨g, rest, rfl, hg, hE, hb⟩
  · exact Rd.nil _ _ _
  · intro k v hk
    exact (hb.rd.mono (G := fun i => B ≤ i ∧ i < E) fun i _ hi => by rw [hi]; exact ⟨hg, hE⟩) k v (by rw [List.getElem?_append_left (List.getElem?_eq_some_iff.1 hk).1]; exact hk)
theorem OwnS.chg (h : OwnS B E w t A n c cs) (hc : Chg F w w') (hf : ∀ i, B ≤ i → i < E → ¬ F i) : OwnS B E w' t A n c cs := by
  refine ⟨h.1, ?_⟩
  rcases h.2 with h0 | ⟨g, rest, rfl, hg, hE, hb⟩
  · exact .inl h0
  · exact .inr ⟨g, rest, rfl, hg, hE, hb.chg hc (hf g hg hE)⟩
theorem OwnS.new (h : OwnS B E w t A n c cs) (hc : Chg NoB w w') : OwnS B E w' t A n c cs := h.chg hc fun _ _ _ x => x
theorem OwnS.more {B' E' : Nat} (h : OwnS B E w t A n c cs) (hB : B' ≤ B) (hE : E ≤ E') : OwnS B' E' w t A n c cs := by
  refine ⟨h.1, ?_⟩
  rcases h.2 with h0 | ⟨g, rest, rfl, hg, hg', hb⟩
  · exact .inl h0
  · exact .inr ⟨g, rest, rfl, Nat.le_trans hB hg, Nat.lt_of_lt_of_le hg' hE, hb⟩
theorem OwnS.empty (B E : Nat) (w : World) (t : TypeId) (A : Option Addr) (c : Nat) : OwnS B E w t A 0 c [] := ⟨Nat.zero_le _, .inl ⟨rfl, rfl⟩⟩
theorem OwnS.of_blk {g : Nat} (h : Blk w g t cs.toArray) (hg : B ≤ g) (hE : g < E) (hn : n ≤ c) : OwnS B E w t (some ⟨g, 0, none⟩) n c cs :=
  ⟨hn, .inr ⟨g, [], rfl, hg, hE, by rwa [List.append_nil]⟩⟩
theorem OwnS.of_row {size : Nat} {v : Value} (h : w.ownsRow B t size v n cs) : ∃ A c, v = .slice A n c ∧ OwnS B w.heap.size w t A n c cs := by
  obtain ⟨hl, h⟩ := h
  rcases h with ⟨rfl, rfl⟩ | ⟨g, cap, cur, rfl, hb, hg, hn, _, hs, ht⟩
  · have : cs = [] := List.eq_nil_of_length_eq_zero (by simpa using hl)
    subst this
    exact ⟨none, 0, rfl, OwnS.empty _ _ _ _ _ _⟩
  · refine ⟨_, cap, rfl, hn, .inr ⟨g, cur.toList.drop (n * size), rfl, hb, (Array.getElem?_eq_some_iff.1 hg).1, ?_⟩⟩
    have : (cs ++ cur.toList.drop (n * size)).toArray = cur := by rw [← ht, List.take_append_drop]
    rw [this]
    exact hg
end
/-- What an append onto an empty slice of the call's own leaves, where something was appended. -/
theorem row_blk {w : World} {B size n : Nat} {t : TypeId} {v : Value} {cs : List Value} (h : w.ownsRow B t size v (0 + n) ([] ++ cs)) (hn : 0 < n) :
    ∃ g c rest, v = .slice (some ⟨g, 0, none⟩) n c ∧ n ≤ c ∧ B ≤ g ∧ g < w.heap.size ∧ Blk w g t (cs ++ rest).toArray := by
  rw [Nat.zero_add, List.nil_append] at h
  obtain ⟨A, c, rfl, hnc, h0 | ⟨g, rest, rfl, hg, hE, hb⟩⟩ := OwnS.of_row h
  · omega
  · exact ⟨g, c, rest, rfl, hnc, hg, hE, hb⟩
end Go.Proofs.Ytenbbkmbnpdfaaa
