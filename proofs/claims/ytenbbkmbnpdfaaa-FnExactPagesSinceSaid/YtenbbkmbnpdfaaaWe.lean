/- Slices within slices that came in. -/
import Derived.Test.YtenbbkmbnpdfaaaW
namespace Go.Proofs.Ytenbbkmbnpdfaaa
open Go.ChangeShapes Go.WideShapes Go.ChangeAt Go.RowKit
section
variable {H : Type} {enc : TypeId × Value → H} {P : Program} {W : World}
theorem dec_ints_w {t e : TypeId} {k : IntKind} {n : Nat} {cs : List Value} {y : DataW H × List MemPlace} (ht : P.underlying t = some (.slice e)) (he : P.underlying e = some (.int k)) (hc : P.cellsOf e = 1)
    (hf : DataW.trod enc P W 0 (fun _ => true) true n t cs = some y) :
    ∃ (A : Option Addr) (c : Nat) (xs : List Int), cs = [.slice A xs.length c] ∧ Rd (fun i => i < W.heap.size) W A (xs.map (Value.int k)) ∧ xs.length ≤ c ∧ c ≤ maxLen := by
  rcases open_ints ht he hc hf with ⟨hcs, _⟩ | ⟨x, len, cap, zs, hcs, _, hl, hm, hz, _, hcell, hwz⟩
  · exact ⟨none, 0, [], hcs, Rd.nil _ _ _, Nat.le_refl _, Nat.zero_le _⟩
  · have hz' : zs.length = cap := by simpa using hz
    have hlen : (zs.take len).length = len := by simp; omega
    refine ⟨some x, cap, zs.take len, by rw [hlen]; exact hcs, ?_, by rw [hlen]; exact hl, hm⟩
    intro j u hj
    rw [List.getElem?_map] at hj
    have hjl : j < len := by
      rcases Nat.lt_or_ge j len with h1 | h1
      · exact h1
      · rw [List.getElem?_eq_none (by omega)] at hj; cases hj
    rw [List.getElem?_take, if_pos hjl, List.getElem?_eq_getElem (by omega)] at hj
    have hcj := hcell j (by omega)
    rw [List.getD_eq_getElem?_getD, List.getElem?_eq_getElem (by omega)] at hcj
    simp only [Option.map_some, Option.some.injEq] at hj
    subst hj
    have hb := World.block_lt_of_cell? W _ hcj
    rw [block_add] at hb
    exact ⟨x, rfl, hb, hcj⟩
/-- A slice in a field, its elements of m cells each. -/
theorem dec_elems_w {α : Type} [Inhabited α] {ec : α → List Value} {q : α → Prop} {m fuel : Nat} {t e : TypeId} {cs : List Value} {y : DataW H × List MemPlace} (ht : P.underlying t = some (.slice e)) (hC : P.cellsOf e = m) (hlen : ∀ x, (ec x).length = m)
    (hel : ∀ n cs y, DataW.trod enc P W 0 (fun _ => true) true n e cs = some y → ∃ x : α, cs = ec x ∧ q x)
    (hf : DataW.trod enc P W 0 (fun _ => true) true fuel t cs = some y) :
    ∃ (A : Option Addr) (c : Nat) (xs : List α), cs = [.slice A xs.length c] ∧ Rd (fun i => i < W.heap.size) W A (xs.flatMap ec) ∧ xs.length ≤ c ∧ c ≤ maxLen ∧ ∀ x ∈ xs, q x := by
  rcases Go.Deep.open_slice ht hf with ⟨hcs, _⟩ | ⟨a, len, cap, mm, n, D, Pl, hcs, _, hl, hm, hmm, _, hi⟩
  · exact ⟨none, 0, [], hcs, Rd.nil _ _ _, Nat.le_refl _, Nat.zero_le _, fun _ hx => by simp at hx⟩
  · simp only [if_true] at hmm
    have hx : ∀ i, i < len → ∃ x : α, (∀ j u, (ec x)[j]? = some u → W.cell? (a.add (i * m + j)) = some u) ∧ q x := fun i hil => by
      obtain ⟨cs', hc, htr⟩ := hi i (by omega)
      rw [hC] at hc
      obtain ⟨x, rfl, hq⟩ := hel _ _ _ htr
      obtain ⟨_, hcl, hat⟩ := World.cells?_some hc
      refine ⟨x, fun j u hj => ?_, hq⟩
      have hjm : j < m := by rw [← hlen x]; exact (List.getElem?_eq_some_iff.1 hj).1
      rw [← add_add', hat j hjm, hj]
    obtain ⟨f, hfx⟩ := Go.Deep.choose_lt hx
    refine ⟨some a, cap, (List.range len).map f, by simpa using hcs, ?_, by simpa using hl, hm, fun x hx => ?_⟩
    · intro k u hk
      have hkl := (List.getElem?_eq_some_iff.1 hk).1
      rw [flat_length hlen] at hkl
      simp only [List.length_map, List.length_range] at hkl
      have hm0 : 0 < m := by
        rcases Nat.eq_zero_or_pos m with h0 | h0
        · rw [h0, Nat.mul_zero] at hkl; omega
        · exact h0
      have hq : k / m < len := (Nat.div_lt_iff_lt_mul hm0).2 hkl
      have hr : k % m < m := Nat.mod_lt _ hm0
      have e1 : k = k / m * m + k % m := by rw [Nat.mul_comm]; exact (Nat.div_add_mod k m).symm
      rw [e1, flat_get hlen _ (k / m) (by simpa using hq) (k % m) hr] at hk
      simp only [List.getElem_map, List.getElem_range] at hk
      have hc := (hfx (k / m) hq).1 (k % m) u hk
      rw [← e1] at hc
      have hb := World.block_lt_of_cell? W _ hc
      rw [block_add] at hb
      exact ⟨a, rfl, hb, hc⟩
    · obtain ⟨i, hi', rfl⟩ := List.mem_map.1 hx
      exact (hfx i (by simpa using hi')).2
/-- A struct of one cell. -/
theorem dec_one {e : TypeId} {f0 : Field} {n : Nat} {cs : List Value} {y : DataW H × List MemPlace} (he : P.underlying e = some (.struct #[f0])) (hone : Go.Deep.oneCellFields P #[f0] = true) (hC : P.cellsOf e = 1)
    (h : DataW.trod enc P W 0 (fun _ => true) true n e cs = some y) : ∃ c0 n' y0, cs = [c0] ∧ DataW.trod enc P W 0 (fun _ => true) true n' f0.type [c0] = some y0 := by
  obtain ⟨ys, n', _, _, hl, hyl, hf⟩ := DataW.trod_struct he h
  rw [hC] at hl
  match cs, hl, ys, hyl with
  | [c0], _, [y0], _ =>
    obtain ⟨o0, k0⟩ := Go.Deep.hone_of hone 0 f0 rfl
    have g0 := hf 0 f0 rfl
    rw [o0, k0] at g0
    exact ⟨c0, n', y0, rfl, g0⟩
/-- A struct of three cells: an integer, another, a third of any kind: integer, slice, integer. -/
theorem dec_isi {e t2 : TypeId} {f0 f1 f2 : Field} {n : Nat} {cs : List Value} {y : DataW H × List MemPlace} (he : P.underlying e = some (.struct #[f0, f1, f2])) (hone : Go.Deep.oneCellFields P #[f0, f1, f2] = true) (hC : P.cellsOf e = 3)
    (h0 : P.underlying f0.type = some (.int .i64)) (h1 : P.underlying f1.type = some (.slice t2)) (h2 : P.underlying f2.type = some (.int .i64)) (h3 : P.underlying t2 = some (.int .i64)) (h4 : P.cellsOf t2 = 1)
    (h : DataW.trod enc P W 0 (fun _ => true) true n e cs = some y) : ∃ (a b : Int) (A : Option Addr) (c : Nat) (xs : List Int), cs = [.int .i64 a, .slice A xs.length c, .int .i64 b] ∧ Rd (fun i => i < W.heap.size) W A (xs.map (Value.int .i64)) ∧ xs.length ≤ c ∧ c ≤ maxLen := by
  obtain ⟨ys, n', _, _, hl, hyl, hf⟩ := DataW.trod_struct he h
  rw [hC] at hl
  match cs, hl, ys, hyl with
  | [c0, c1, c2], _, [y0, y1, y2], _ =>
    obtain ⟨o0, k0⟩ := Go.Deep.hone_of hone 0 f0 rfl
    obtain ⟨o1, k1⟩ := Go.Deep.hone_of hone 1 f1 rfl
    obtain ⟨o2, k2⟩ := Go.Deep.hone_of hone 2 f2 rfl
    have g0 := hf 0 f0 rfl
    have g1 := hf 1 f1 rfl
    have g2 := hf 2 f2 rfl
    rw [o0, k0] at g0
    rw [o1, k1] at g1
    rw [o2, k2] at g2
    obtain ⟨a, ha, _⟩ := DataW.trod_int h0 g0
    obtain ⟨A, c, xs, hc, hr, hl, hm⟩ := dec_ints_w h1 h3 h4 g1
    obtain ⟨b, hb, _⟩ := DataW.trod_int h2 g2
    simp at ha hb hc
    exact ⟨a, b, A, c, xs, by rw [ha, hb, hc], hr, hl, hm⟩
end
end Go.Proofs.Ytenbbkmbnpdfaaa
