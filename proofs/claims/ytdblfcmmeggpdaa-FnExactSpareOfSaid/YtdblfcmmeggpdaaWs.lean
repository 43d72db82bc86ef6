/- Spares that came in. -/
import Derived.Test.YtdblfcmmeggpdaaW
import Derived.Test.YtdblfcmmeggpdaaSa
namespace Go.Proofs.Ytdblfcmmeggpdaa
open Go.ChangeShapes Go.WideShapes Go.ChangeAt Go.RowKit
section
variable {H : Type} {enc : TypeId × Value → H} {P : Program} {W : World}
theorem dec_ints_rd {t e : TypeId} {k : IntKind} {n : Nat} {cs : List Value} {y : DataW H × List MemPlace} (ht : P.underlying t = some (.slice e)) (he : P.underlying e = some (.int k)) (hc : P.cellsOf e = 1)
    (hf : DataW.trod enc P W 0 (fun _ => true) true n t cs = some y) :
    ∃ (A : Option Addr) (c : Nat) (xs : List Int), cs = [.slice A xs.length c] ∧ Rd (fun i => i < W.heap.size) W A (xs.map (Value.int k)) ∧ xs.length ≤ c ∧ c ≤ maxLen := by
  rcases open_ints ht he hc hf with ⟨hcs, _⟩ | ⟨x, len, cap, zs, hcs, _, hl, hm, hz, _, hcell, hwz⟩
  · exact ⟨none, 0, [], hcs, Rd.nil _ _ _, Nat.le_refl _, Nat.zero_le _⟩
  · have hz' : zs.length = cap := by simpa using hz
    have hlen : (zs.take len).length = len := by simp; omega
    refine ⟨some x, cap, zs.take len, by rw [hlen]; exact hcs, ?_, by rw [hlen]; exact hl, hm⟩
    intro j u hj
    rw [List.getElem?_map] at hj
    have hjl : j < len := by
      rcases Nat.lt_or_ge j len with h1 | h1
      · exact h1
      · rw [List.getElem?_eq_none (by omega)] at hj; cases hj
    rw [List.getElem?_take, if_pos hjl, List.getElem?_eq_getElem (by omega)] at hj
    have hcj := hcell j (by omega)
    rw [List.getD_eq_getElem?_getD, List.getElem?_eq_getElem (by omega)] at hcj
    simp only [Option.map_some, Option.some.injEq] at hj
    subst hj
    have hb := World.block_lt_of_cell? W _ hcj
    rw [block_add] at hb
    exact ⟨x, rfl, hb, hcj⟩
theorem dec_iis {e t2 : TypeId} {f0 f1 f2 : Field} {n : Nat} {cs : List Value} {y : DataW H × List MemPlace} (he : P.underlying e = some (.struct #[f0, f1, f2])) (hone : Go.Deep.oneCellFields P #[f0, f1, f2] = true) (hC : P.cellsOf e = 3)
    (h0 : P.underlying f0.type = some (.int .i64)) (h1 : P.underlying f1.type = some (.int .i64)) (h2 : P.underlying f2.type = some (.slice t2)) (h3 : P.underlying t2 = some (.int .i64)) (h4 : P.cellsOf t2 = 1)
    (h : DataW.trod enc P W 0 (fun _ => true) true n e cs = some y) : ∃ (a b : Int) (A : Option Addr) (c : Nat) (xs : List Int), cs = [.int .i64 a, .int .i64 b, .slice A xs.length c] ∧ Rd (fun i => i < W.heap.size) W A (xs.map (Value.int .i64)) ∧ xs.length ≤ c ∧ c ≤ maxLen := by
  obtain ⟨ys, n', _, _, hl, hyl, hf⟩ := DataW.trod_struct he h
  rw [hC] at hl
  match cs, hl, ys, hyl with
  | [c0, c1, c2], _, [y0, y1, y2], _ =>
    obtain ⟨o0, k0⟩ := Go.Deep.hone_of hone 0 f0 rfl
    obtain ⟨o1, k1⟩ := Go.Deep.hone_of hone 1 f1 rfl
    obtain ⟨o2, k2⟩ := Go.Deep.hone_of hone 2 f2 rfl
    have g0 := hf 0 f0 rfl
    have g1 := hf 1 f1 rfl
    have g2 := hf 2 f2 rfl
    rw [o0, k0] at g0
    rw [o1, k1] at g1
    rw [o2, k2] at g2
    obtain ⟨a, ha, _⟩ := DataW.trod_int h0 g0
    obtain ⟨b, hb, _⟩ := DataW.trod_int h1 g1
    obtain ⟨A, c, xs, hc, hr, hl, hm⟩ := dec_ints_rd h2 h3 h4 g2
    simp at ha hb hc
    exact ⟨a, b, A, c, xs, by rw [ha, hb, hc], hr, hl, hm⟩
end
theorem open_spares_rd {H : Type} {enc : TypeId × Value → H} {W : World} {v : Value} {d : DataW H} {p : List MemPlace} {base : Nat}
    (hv : Value.okWide Try.prog W .any base 39 v) (h : DataW.Trod enc Try.prog W 0 (fun _ => true) true 39 v d p) : ∃ x : Sp, SpIn W v x := by
  obtain ⟨cs, rfl, hs⟩ := okWide_struct Try.underlying39 hv
  obtain ⟨n, hf⟩ := h
  obtain ⟨a, b, A, c, xs, hc, hr, hl, hm⟩ := dec_iis Try.underlying39 (by kernel_rfl) (by kernel_rfl) Try.underlying3 Try.underlying3 Try.underlying31 Try.underlying3 (by kernel_rfl) hf
  refine ⟨⟨a, b, A, c, xs⟩, ?_, hr, hl, hm⟩
  have : cs.toList = [.int .i64 a, .int .i64 b, .slice A xs.length c] := by simpa [Value.cells] using hc
  have : cs = #[.int .i64 a, .int .i64 b, .slice A xs.length c] := by rw [← Array.toArray_toList (xs := cs), this]
  rw [this]
end Go.Proofs.Ytdblfcmmeggpdaa
