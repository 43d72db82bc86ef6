/- From the rows' readings of arguments to the words 'Rd' of the walks. -/
import Derived.Test.YtdblfcmmeggpdaaRows
import Derived.Test.YtdblfcmmeggpdaaB
import Derived.WalkKit
import Derived.ProofKit
import Derived.OpenShut
import Derived.ShutString
import Derived.ChangeOld
import Derived.Below
import Derived.Carry
namespace Go.Proofs.Ytdblfcmmeggpdaa
open Go.ChangeShapes Go.WideShapes Go.ChangeAt Go.RowKit
theorem own : ownKnob Try.prog.godebug = none := by kernel_rfl
theorem laidOut : laidOutB Try.prog = true := by kernel_rfl

section
variable {H : Type} {enc : TypeId × Value → H} {P : Program} {W : World}
/-- A slice of integers that came in. -/
theorem open_ints_rd {t e : TypeId} {k : IntKind} {v : Value} {d : DataW H} {p : List MemPlace} {base : Nat} (ht : P.underlying t = some (.slice e)) (he : P.underlying e = some (.int k)) (hc : P.cellsOf e = 1)
    (hv : Value.okWide P W .any base t v) (h : DataW.Trod enc P W 0 (fun _ => true) true t v d p) :
    ∃ (A : Option Addr) (c : Nat) (xs : List Int), v = .slice A xs.length c ∧ Rd (fun i => i < W.heap.size) W A (xs.map (Value.int k)) ∧ xs.length ≤ c ∧ c ≤ maxLen ∧ ∀ x ∈ xs, (Lit.int k x).wf = true := by
  obtain ⟨A, len, cap, rfl⟩ := okWide_slice ht hv
  obtain ⟨fuel, hf⟩ := h
  rcases open_ints ht he hc hf with ⟨hcs, _⟩ | ⟨x, l, c, zs, hcs, _, hl, hm, hz, _, hcell, hwz⟩
  · simp [Value.cells] at hcs
    obtain ⟨rfl, rfl, rfl⟩ := hcs
    exact ⟨none, 0, [], rfl, Rd.nil _ _ _, Nat.le_refl _, Nat.zero_le _, fun _ hx => by simp at hx⟩
  · simp [Value.cells] at hcs
    obtain ⟨rfl, rfl, rfl⟩ := hcs
    have hz' : zs.length = cap := by simpa using hz
    have hlen : (zs.take len).length = len := by simp; omega
    refine ⟨some x, cap, zs.take len, by rw [hlen], ?_, by rw [hlen]; exact hl, hm, fun y hy => hwz y (List.mem_of_mem_take hy)⟩
    intro j u hj
    rw [List.getElem?_map] at hj
    have hjl : j < len := by
      rcases Nat.lt_or_ge j len with h1 | h1
      · exact h1
      · rw [List.getElem?_eq_none (by omega)] at hj; cases hj
    rw [List.getElem?_take, if_pos hjl, List.getElem?_eq_getElem (by omega)] at hj
    have hcj := hcell j (by omega)
    rw [List.getD_eq_getElem?_getD, List.getElem?_eq_getElem (by omega)] at hcj
    simp only [Option.map_some, Option.some.injEq] at hj
    subst hj
    have hb := World.block_lt_of_cell? W _ hcj
    rw [block_add] at hb
    exact ⟨x, rfl, hb, hcj⟩
/-- A slice of bytes that came in. -/
theorem open_bytes_rd {t e : TypeId} {v : Value} {d : DataW H} {p : List MemPlace} {base : Nat} (ht : P.underlying t = some (.slice e)) (he : P.underlying e = some (.int .u8)) (hc : P.cellsOf e = 1)
    (hv : Value.okWide P W .any base t v) (h : DataW.Trod enc P W 0 (fun _ => true) true t v d p) :
    ∃ (A : Option Addr) (c : Nat) (bs : List Nat), v = .slice A bs.length c ∧ Rd (fun i => i < W.heap.size) W A (bs.map fun (b : Nat) => Value.int .u8 (b : Int)) ∧ bs.length ≤ c ∧ c ≤ maxLen ∧ ∀ b ∈ bs, b < 256 := by
  obtain ⟨A, c, xs, rfl, hr, hl, hm, hw⟩ := open_ints_rd ht he hc hv h
  have hw' : ∀ x ∈ xs, 0 ≤ x ∧ x < 256 := fun x hx => by
    have := hw x hx
    simp [Lit.wf, IntKind.min, IntKind.max, IntKind.signed, IntKind.bits] at this
    omega
  refine ⟨A, c, xs.map Int.toNat, by simp, ?_, by simpa using hl, hm, fun b hb => ?_⟩
  · have e : ((xs.map Int.toNat).map fun (b : Nat) => Value.int .u8 (b : Int)) = xs.map (Value.int .u8) := by
      rw [List.map_map]
      apply List.map_congr_left
      intro x hx
      have := hw' x hx
      simp only [Function.comp]
      rw [Int.toNat_of_nonneg this.1]
    rw [e]; exact hr
  · obtain ⟨x, hx, rfl⟩ := List.mem_map.1 hb
    have := hw' x hx
    omega
end
end Go.Proofs.Ytdblfcmmeggpdaa
