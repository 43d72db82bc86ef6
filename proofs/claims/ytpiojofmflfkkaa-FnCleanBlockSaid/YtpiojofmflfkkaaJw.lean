/- Parts of the proof, merged: W. -/
import Derived.Test.YtpiojofmflfkkaaRows
import Derived.Test.YtpiojofmflfkkaaJa
import Derived.WalkKit
import Derived.ProofKit
import Derived.OpenShut
import Derived.ShutString
import Derived.ChangeOld
import Derived.Below
import Derived.Carry
import Derived.Deep.Slices
import Derived.Deep.Fields
/- From the rows' readings of arguments to the words 'Rd' of the walks. -/
namespace Go.Proofs.Ytpiojofmflfkkaa
open Go.ChangeShapes Go.WideShapes Go.ChangeAt Go.RowKit
theorem own : ownKnob Try.prog.godebug = none := by kernel_rfl
theorem laidOut : laidOutB Try.prog = true := by kernel_rfl
section
variable {H : Type} {enc : TypeId × Value → H} {P : Program} {W : World}
/-- A slice of integers that came in. -/
theorem open_ints_rd {t e : TypeId} {k : IntKind} {v : Value} {d : DataW H} {p : List MemPlace} {base : Nat} (ht : P.underlying t = some (.slice e)) (he : P.underlying e = some (.int k)) (hc : P.cellsOf e = 1)
    (hv : Value.okWide P W .any base t v) (h : DataW.Trod enc P W 0 (fun _ => true) true t v d p) :
    ∃ (A : Option Addr) (c : Nat) (xs : List Int), v = .slice A xs.length c ∧ Rd (fun i => i < W.heap.size) W A (xs.map (Value.int k)) ∧ xs.length ≤ c ∧ c ≤ maxLen ∧ ∀ x ∈ xs, (Lit.int k x).wf = true := by
  obtain ⟨A, len, cap, rfl⟩ := okWide_slice ht hv
  obtain ⟨fuel, hf⟩ := h
  rcases open_ints ht he hc hf with ⟨hcs, _⟩ | ⟨x, l, c, zs, hcs, _, hl, hm, hz, _, hcell, hwz⟩
  · simp [Value.cells] at hcs
    obtain ⟨rfl, rfl, rfl⟩ := hcs
    exact ⟨none, 0, [], rfl, Rd.nil _ _ _, Nat.le_refl _, Nat.zero_le _, fun _ hx => by simp at hx⟩
  · simp [Value.cells] at hcs
    obtain ⟨rfl, rfl, rfl⟩ := hcs
    have hz' : zs.length = cap := by simpa using hz
    have hlen : (zs.take len).length = len := by simp; omega
    refine ⟨some x, cap, zs.take len, by rw [hlen], ?_, by rw [hlen]; exact hl, hm, fun y hy => hwz y (List.mem_of_mem_take hy)⟩
    intro j u hj
    rw [List.getElem?_map] at hj
    have hjl : j < len := by
      rcases Nat.lt_or_ge j len with h1 | h1
      · exact h1
      · rw [List.getElem?_eq_none (by omega)] at hj; cases hj
    rw [List.getElem?_take, if_pos hjl, List.getElem?_eq_getElem (by omega)] at hj
    have hcj := hcell j (by omega)
    rw [List.getD_eq_getElem?_getD, List.getElem?_eq_getElem (by omega)] at hcj
    simp only [Option.map_some, Option.some.injEq] at hj
    subst hj
    have hb := World.block_lt_of_cell? W _ hcj
    rw [block_add] at hb
    exact ⟨x, rfl, hb, hcj⟩
/-- A slice of bytes that came in. -/
theorem open_bytes_rd {t e : TypeId} {v : Value} {d : DataW H} {p : List MemPlace} {base : Nat} (ht : P.underlying t = some (.slice e)) (he : P.underlying e = some (.int .u8)) (hc : P.cellsOf e = 1)
    (hv : Value.okWide P W .any base t v) (h : DataW.Trod enc P W 0 (fun _ => true) true t v d p) :
    ∃ (A : Option Addr) (c : Nat) (bs : List Nat), v = .slice A bs.length c ∧ Rd (fun i => i < W.heap.size) W A (bs.map fun (b : Nat) => Value.int .u8 (b : Int)) ∧ bs.length ≤ c ∧ c ≤ maxLen ∧ ∀ b ∈ bs, b < 256 := by
  obtain ⟨A, c, xs, rfl, hr, hl, hm, hw⟩ := open_ints_rd ht he hc hv h
  have hw' : ∀ x ∈ xs, 0 ≤ x ∧ x < 256 := fun x hx => by
    have := hw x hx
    simp [Lit.wf, IntKind.min, IntKind.max, IntKind.signed, IntKind.bits] at this
    omega
  refine ⟨A, c, xs.map Int.toNat, by simp, ?_, by simpa using hl, hm, fun b hb => ?_⟩
  · have e : ((xs.map Int.toNat).map fun (b : Nat) => Value.int .u8 (b : Int)) = xs.map (Value.int .u8) := by
      rw [List.map_map]
      apply List.map_congr_left
      intro x hx
      have := hw' x hx
      simp only [Function.comp]
      rw [Int.toNat_of_nonneg this.1]
    rw [e]; exact hr
  · obtain ⟨x, hx, rfl⟩ := List.mem_map.1 hb
    have := hw' x hx
    omega
/-- A slice that came in, its elements of m cells each. -/
theorem open_elems_rd {α : Type} [Inhabited α] {ec : α → List Value} {q : α → Prop} {m : Nat} {t e : TypeId} {v : Value} {d : DataW H} {p : List MemPlace} {base : Nat} (ht : P.underlying t = some (.slice e)) (hC : P.cellsOf e = m) (hlen : ∀ x, (ec x).length = m)
    (hel : ∀ n cs y, DataW.trod enc P W 0 (fun _ => true) true n e cs = some y → ∃ x : α, cs = ec x ∧ q x)
    (hv : Value.okWide P W .any base t v) (h : DataW.Trod enc P W 0 (fun _ => true) true t v d p) :
    ∃ (A : Option Addr) (c : Nat) (xs : List α), v = .slice A xs.length c ∧ Rd (fun i => i < W.heap.size) W A (xs.flatMap ec) ∧ xs.length ≤ c ∧ c ≤ maxLen ∧ ∀ x ∈ xs, q x := by
  obtain ⟨A, len, cap, rfl⟩ := okWide_slice ht hv
  obtain ⟨fuel, hf⟩ := h
  rcases Go.Deep.open_slice ht hf with ⟨hcs, _⟩ | ⟨a, l, c, mm, n, D, Pl, hcs, _, hl, hm, hmm, _, hi⟩
  · simp [Value.cells] at hcs
    obtain ⟨rfl, rfl, rfl⟩ := hcs
    exact ⟨none, 0, [], rfl, Rd.nil _ _ _, Nat.le_refl _, Nat.zero_le _, fun _ hx => by simp at hx⟩
  · simp [Value.cells] at hcs
    obtain ⟨rfl, rfl, rfl⟩ := hcs
    simp only [if_true] at hmm
    have hx : ∀ i, i < len → ∃ x : α, (∀ j u, (ec x)[j]? = some u → W.cell? (a.add (i * m + j)) = some u) ∧ q x := fun i hil => by
      obtain ⟨cs', hc, htr⟩ := hi i (by omega)
      rw [hC] at hc
      obtain ⟨x, rfl, hq⟩ := hel _ _ _ htr
      obtain ⟨_, hcl, hat⟩ := World.cells?_some hc
      refine ⟨x, fun j u hj => ?_, hq⟩
      have hjm : j < m := by rw [← hlen x]; exact (List.getElem?_eq_some_iff.1 hj).1
      rw [← add_add', hat j hjm, hj]
    obtain ⟨f, hfx⟩ := Go.Deep.choose_lt hx
    refine ⟨some a, cap, (List.range len).map f, by simp, ?_, by simpa using hl, hm, fun x hx => ?_⟩
    · intro k u hk
      have hkl := (List.getElem?_eq_some_iff.1 hk).1
      rw [flat_length hlen] at hkl
      simp only [List.length_map, List.length_range] at hkl
      have hm0 : 0 < m := by
        rcases Nat.eq_zero_or_pos m with h0 | h0
        · rw [h0, Nat.mul_zero] at hkl; omega
        · exact h0
      have hq : k / m < len := (Nat.div_lt_iff_lt_mul hm0).2 hkl
      have hr : k % m < m := Nat.mod_lt _ hm0
      have e1 : k = k / m * m + k % m := by rw [Nat.mul_comm]; exact (Nat.div_add_mod k m).symm
      rw [e1, flat_get hlen _ (k / m) (by simpa using hq) (k % m) hr] at hk
      simp only [List.getElem_map, List.getElem_range] at hk
      have hc := (hfx (k / m) hq).1 (k % m) u hk
      rw [← e1] at hc
      have hb := World.block_lt_of_cell? W _ hc
      rw [block_add] at hb
      exact ⟨a, rfl, hb, hc⟩
    · obtain ⟨i, hi', rfl⟩ := List.mem_map.1 hx
      exact (hfx i (by simpa using hi')).2
/-- The cells of a struct of two integers, of three. -/
theorem dec_ints2 {e : TypeId} {f0 f1 : Field} {n : Nat} {cs : List Value} {y : DataW H × List MemPlace} (he : P.underlying e = some (.struct #[f0, f1])) (hone : Go.Deep.oneCellFields P #[f0, f1] = true) (hC : P.cellsOf e = 2)
    (h0 : P.underlying f0.type = some (.int .i64)) (h1 : P.underlying f1.type = some (.int .i64))
    (h : DataW.trod enc P W 0 (fun _ => true) true n e cs = some y) : ∃ a b : Int, cs = [.int .i64 a, .int .i64 b] := by
  obtain ⟨ys, n', _, _, hl, hyl, hf⟩ := DataW.trod_struct he h
  rw [hC] at hl
  match cs, hl, ys, hyl with
  | [c0, c1], _, [y0, y1], _ =>
    obtain ⟨o0, k0⟩ := Go.Deep.hone_of hone 0 f0 rfl
    obtain ⟨o1, k1⟩ := Go.Deep.hone_of hone 1 f1 rfl
    have g0 := hf 0 f0 rfl
    have g1 := hf 1 f1 rfl
    rw [o0, k0] at g0
    rw [o1, k1] at g1
    obtain ⟨a, ha, _⟩ := DataW.trod_int h0 g0
    obtain ⟨b, hb, _⟩ := DataW.trod_int h1 g1
    simp at ha hb
    exact ⟨a, b, by rw [ha, hb]⟩
theorem dec_ints3 {e : TypeId} {f0 f1 f2 : Field} {n : Nat} {cs : List Value} {y : DataW H × List MemPlace} (he : P.underlying e = some (.struct #[f0, f1, f2])) (hone : Go.Deep.oneCellFields P #[f0, f1, f2] = true) (hC : P.cellsOf e = 3)
    (h0 : P.underlying f0.type = some (.int .i64)) (h1 : P.underlying f1.type = some (.int .i64)) (h2 : P.underlying f2.type = some (.int .i64))
    (h : DataW.trod enc P W 0 (fun _ => true) true n e cs = some y) : ∃ a b c : Int, cs = [.int .i64 a, .int .i64 b, .int .i64 c] := by
  obtain ⟨ys, n', _, _, hl, hyl, hf⟩ := DataW.trod_struct he h
  rw [hC] at hl
  match cs, hl, ys, hyl with
  | [c0, c1, c2], _, [y0, y1, y2], _ =>
    obtain ⟨o0, k0⟩ := Go.Deep.hone_of hone 0 f0 rfl
    obtain ⟨o1, k1⟩ := Go.Deep.hone_of hone 1 f1 rfl
    obtain ⟨o2, k2⟩ := Go.Deep.hone_of hone 2 f2 rfl
    have g0 := hf 0 f0 rfl
    have g1 := hf 1 f1 rfl
    have g2 := hf 2 f2 rfl
    rw [o0, k0] at g0
    rw [o1, k1] at g1
    rw [o2, k2] at g2
    obtain ⟨a, ha, _⟩ := DataW.trod_int h0 g0
    obtain ⟨b, hb, _⟩ := DataW.trod_int h1 g1
    obtain ⟨c, hc, _⟩ := DataW.trod_int h2 g2
    simp at ha hb hc
    exact ⟨a, b, c, by rw [ha, hb, hc]⟩
end
theorem Chg.below {w w' : World} (h : Chg NoB w w') : Below w.heap.size w w' := ⟨h.os, h.tape, h.output, h.size, fun k hk => h.block k hk (fun x => x)⟩
end Go.Proofs.Ytpiojofmflfkkaa
