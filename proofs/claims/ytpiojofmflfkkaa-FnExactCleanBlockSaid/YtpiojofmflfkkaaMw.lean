/- Parts of the proof, merged: W, We, Wv, Wh. -/
import Derived.Test.YtpiojofmflfkkaaRows
import Derived.Test.YtpiojofmflfkkaaMa
import Derived.Test.YtpiojofmflfkkaaMb
import Derived.WalkKit
import Derived.ProofKit
import Derived.OpenShut
import Derived.ShutString
import Derived.ChangeOld
import Derived.Below
import Derived.Carry
import Derived.Deep.Slices
import Derived.Deep.Fields
/- From the rows' readings of arguments to the words 'Rd' of the walks. -/
namespace Go.Proofs.Ytpiojofmflfkkaa
open Go.ChangeShapes Go.WideShapes Go.ChangeAt Go.RowKit
theorem own : ownKnob Try.prog.godebug = none := by kernel_rfl
theorem laidOut : laidOutB Try.prog = true := by kernel_rfl

section
variable {H : Type} {enc : TypeId × Value → H} {P : Program} {W : World}
/-- A slice of integers that came in. -/
theorem open_ints_rd {t e : TypeId} {k : IntKind} {v : Value} {d : DataW H} {p : List MemPlace} {base : Nat} (ht : P.underlying t = some (.slice e)) (he : P.underlying e = some (.int k)) (hc : P.cellsOf e = 1)
    (hv : Value.okWide P W .any base t v) (h : DataW.Trod enc P W 0 (fun _ => true) true t v d p) :
    ∃ (A : Option Addr) (c : Nat) (xs : List Int), v = .slice A xs.length c ∧ Rd (fun i => i < W.heap.size) W A (xs.map (Value.int k)) ∧ xs.length ≤ c ∧ c ≤ maxLen ∧ ∀ x ∈ xs, (Lit.int k x).wf = true := by
  obtain ⟨A, len, cap, rfl⟩ := okWide_slice ht hv
  obtain ⟨fuel, hf⟩ := h
  rcases open_ints ht he hc hf with ⟨hcs, _⟩ | ⟨x, l, c, zs, hcs, _, hl, hm, hz, _, hcell, hwz⟩
  · simp [Value.cells] at hcs
    obtain ⟨rfl, rfl, rfl⟩ := hcs
    exact ⟨none, 0, [], rfl, Rd.nil _ _ _, Nat.le_refl _, Nat.zero_le _, fun _ hx => by simp at hx⟩
  · simp [Value.cells] at hcs
    obtain ⟨rfl, rfl, rfl⟩ := hcs
    have hz' : zs.length = cap := by simpa using hz
    have hlen : (zs.take len).length = len := by simp; omega
    refine ⟨some x, cap, zs.take len, by rw [hlen], ?_, by rw [hlen]; exact hl, hm, fun y hy => hwz y (List.mem_of_mem_take hy)⟩
    intro j u hj
    rw [List.getElem?_map] at hj
    have hjl : j < len := by
      rcases Nat.lt_or_ge j len with h1 | h1
      · exact h1
      · rw [List.getElem?_eq_none (by omega)] at hj; cases hj
    rw [List.getElem?_take, if_pos hjl, List.getElem?_eq_getElem (by omega)] at hj
    have hcj := hcell j (by omega)
    rw [List.getD_eq_getElem?_getD, List.getElem?_eq_getElem (by omega)] at hcj
    simp only [Option.map_some, Option.some.injEq] at hj
    subst hj
    have hb := World.block_lt_of_cell? W _ hcj
    rw [block_add] at hb
    exact ⟨x, rfl, hb, hcj⟩
/-- A slice of bytes that came in. -/
theorem open_bytes_rd {t e : TypeId} {v : Value} {d : DataW H} {p : List MemPlace} {base : Nat} (ht : P.underlying t = some (.slice e)) (he : P.underlying e = some (.int .u8)) (hc : P.cellsOf e = 1)
    (hv : Value.okWide P W .any base t v) (h : DataW.Trod enc P W 0 (fun _ => true) true t v d p) :
    ∃ (A : Option Addr) (c : Nat) (bs : List Nat), v = .slice A bs.length c ∧ Rd (fun i => i < W.heap.size) W A (bs.map fun (b : Nat) => Value.int .u8 (b : Int)) ∧ bs.length ≤ c ∧ c ≤ maxLen ∧ ∀ b ∈ bs, b < 256 := by
  obtain ⟨A, c, xs, rfl, hr, hl, hm, hw⟩ := open_ints_rd ht he hc hv h
  have hw' : ∀ x ∈ xs, 0 ≤ x ∧ x < 256 := fun x hx => by
    have := hw x hx
    simp [Lit.wf, IntKind.min, IntKind.max, IntKind.signed, IntKind.bits] at this
    omega
  refine ⟨A, c, xs.map Int.toNat, by simp, ?_, by simpa using hl, hm, fun b hb => ?_⟩
  · have e : ((xs.map Int.toNat).map fun (b : Nat) => Value.int .u8 (b : Int)) = xs.map (Value.int .u8) := by
      rw [List.map_map]
      apply List.map_congr_left
      intro x hx
      have := hw' x hx
      simp only [Function.comp]
      rw [Int.toNat_of_nonneg this.1]
    rw [e]; exact hr
  · obtain ⟨x, hx, rfl⟩ := List.mem_map.1 hb
    have := hw' x hx
    omega
/-- A slice that came in, its elements of m cells each. -/
theorem open_elems_rd {α : Type} [Inhabited α] {ec : α → List Value} {q : α → Prop} {m : Nat} {t e : TypeId} {v : Value} {d : DataW H} {p : List MemPlace} {base : Nat} (ht : P.underlying t = some (.slice e)) (hC : P.cellsOf e = m) (hlen : ∀ x, (ec x).length = m)
    (hel : ∀ n cs y, DataW.trod enc P W 0 (fun _ => true) true n e cs = some y → ∃ x : α, cs = ec x ∧ q x)
    (hv : Value.okWide P W .any base t v) (h : DataW.Trod enc P W 0 (fun _ => true) true t v d p) :
    ∃ (A : Option Addr) (c : Nat) (xs : List α), v = .slice A xs.length c ∧ Rd (fun i => i < W.heap.size) W A (xs.flatMap ec) ∧ xs.length ≤ c ∧ c ≤ maxLen ∧ ∀ x ∈ xs, q x := by
  obtain ⟨A, len, cap, rfl⟩ := okWide_slice ht hv
  obtain ⟨fuel, hf⟩ := h
  rcases Go.Deep.open_slice ht hf with ⟨hcs, _⟩ | ⟨a, l, c, mm, n, D, Pl, hcs, _, hl, hm, hmm, _, hi⟩
  · simp [Value.cells] at hcs
    obtain ⟨rfl, rfl, rfl⟩ := hcs
    exact ⟨none, 0, [], rfl, Rd.nil _ _ _, Nat.le_refl _, Nat.zero_le _, fun _ hx => by simp at hx⟩
  · simp [Value.cells] at hcs
    obtain ⟨rfl, rfl, rfl⟩ := hcs
    simp only [if_true] at hmm
    have hx : ∀ i, i < len → ∃ x : α, (∀ j u, (ec x)[j]? = some u → W.cell? (a.add (i * m + j)) = some u) ∧ q x := fun i hil => by
      obtain ⟨cs', hc, htr⟩ := hi i (by omega)
      rw [hC] at hc
      obtain ⟨x, rfl, hq⟩ := hel _ _ _ htr
      obtain ⟨_, hcl, hat⟩ := World.cells?_some hc
      refine ⟨x, fun j u hj => ?_, hq⟩
      have hjm : j < m := by rw [← hlen x]; exact (List.getElem?_eq_some_iff.1 hj).1
      rw [← add_add', hat j hjm, hj]
    obtain ⟨f, hfx⟩ := Go.Deep.choose_lt hx
    refine ⟨some a, cap, (List.range len).map f, by simp, ?_, by simpa using hl, hm, fun x hx => ?_⟩
    · intro k u hk
      have hkl := (List.getElem?_eq_some_iff.1 hk).1
      rw [flat_length hlen] at hkl
      simp only [List.length_map, List.length_range] at hkl
      have hm0 : 0 < m := by
        rcases Nat.eq_zero_or_pos m with h0 | h0
        · rw [h0, Nat.mul_zero] at hkl; omega
        · exact h0
      have hq : k / m < len := (Nat.div_lt_iff_lt_mul hm0).2 hkl
      have hr : k % m < m := Nat.mod_lt _ hm0
      have e1 : k = k / m * m + k % m := by rw [Nat.mul_comm]; exact (Nat.div_add_mod k m).symm
      rw [e1, flat_get hlen _ (k / m) (by simpa using hq) (k % m) hr] at hk
      simp only [List.getElem_map, List.getElem_range] at hk
      have hc := (hfx (k / m) hq).1 (k % m) u hk
      rw [← e1] at hc
      have hb := World.block_lt_of_cell? W _ hc
      rw [block_add] at hb
      exact ⟨a, rfl, hb, hc⟩
    · obtain ⟨i, hi', rfl⟩ := List.mem_map.1 hx
      exact (hfx i (by simpa using hi')).2
/-- The cells of a struct of two integers, of three. -/
theorem dec_ints2 {e : TypeId} {f0 f1 : Field} {n : Nat} {cs : List Value} {y : DataW H × List MemPlace} (he : P.underlying e = some (.struct #[f0, f1])) (hone : Go.Deep.oneCellFields P #[f0, f1] = true) (hC : P.cellsOf e = 2)
    (h0 : P.underlying f0.type = some (.int .i64)) (h1 : P.underlying f1.type = some (.int .i64))
    (h : DataW.trod enc P W 0 (fun _ => true) true n e cs = some y) : ∃ a b : Int, cs = [.int .i64 a, .int .i64 b] := by
  obtain ⟨ys, n', _, _, hl, hyl, hf⟩ := DataW.trod_struct he h
  rw [hC] at hl
  match cs, hl, ys, hyl with
  | [c0, c1], _, [y0, y1], _ =>
    obtain ⟨o0, k0⟩ := Go.Deep.hone_of hone 0 f0 rfl
    obtain ⟨o1, k1⟩ := Go.Deep.hone_of hone 1 f1 rfl
    have g0 := hf 0 f0 rfl
    have g1 := hf 1 f1 rfl
    rw [o0, k0] at g0
    rw [o1, k1] at g1
    obtain ⟨a, ha, _⟩ := DataW.trod_int h0 g0
    obtain ⟨b, hb, _⟩ := DataW.trod_int h1 g1
    simp at ha hb
    exact ⟨a, b, by rw [ha, hb]⟩
theorem dec_ints3 {e : TypeId} {f0 f1 f2 : Field} {n : Nat} {cs : List Value} {y : DataW H × List MemPlace} (he : P.underlying e = some (.struct #[f0, f1, f2])) (hone : Go.Deep.oneCellFields P #[f0, f1, f2] = true) (hC : P.cellsOf e = 3)
    (h0 : P.underlying f0.type = some (.int .i64)) (h1 : P.underlying f1.type = some (.int .i64)) (h2 : P.underlying f2.type = some (.int .i64))
    (h : DataW.trod enc P W 0 (fun _ => true) true n e cs = some y) : ∃ a b c : Int, cs = [.int .i64 a, .int .i64 b, .int .i64 c] := by
  obtain ⟨ys, n', _, _, hl, hyl, hf⟩ := DataW.trod_struct he h
  rw [hC] at hl
  match cs, hl, ys, hyl with
  | [c0, c1, c2], _, [y0, y1, y2], _ =>
    obtain ⟨o0, k0⟩ := Go.Deep.hone_of hone 0 f0 rfl
    obtain ⟨o1, k1⟩ := Go.Deep.hone_of hone 1 f1 rfl
    obtain ⟨o2, k2⟩ := Go.Deep.hone_of hone 2 f2 rfl
    have g0 := hf 0 f0 rfl
    have g1 := hf 1 f1 rfl
    have g2 := hf 2 f2 rfl
    rw [o0, k0] at g0
    rw [o1, k1] at g1
    rw [o2, k2] at g2
    obtain ⟨a, ha, _⟩ := DataW.trod_int h0 g0
    obtain ⟨b, hb, _⟩ := DataW.trod_int h1 g1
    obtain ⟨c, hc, _⟩ := DataW.trod_int h2 g2
    simp at ha hb hc
    exact ⟨a, b, c, by rw [ha, hb, hc]⟩
end
end Go.Proofs.Ytpiojofmflfkkaa
/- Slices within slices that came in. -/
namespace Go.Proofs.Ytpiojofmflfkkaa
open Go.ChangeShapes Go.WideShapes Go.ChangeAt Go.RowKit
section
variable {H : Type} {enc : TypeId × Value → H} {P : Program} {W : World}
theorem dec_ints_w {t e : TypeId} {k : IntKind} {n : Nat} {cs : List Value} {y : DataW H × List MemPlace} (ht : P.underlying t = some (.slice e)) (he : P.underlying e = some (.int k)) (hc : P.cellsOf e = 1)
    (hf : DataW.trod enc P W 0 (fun _ => true) true n t cs = some y) :
    ∃ (A : Option Addr) (c : Nat) (xs : List Int), cs = [.slice A xs.length c] ∧ Rd (fun i => i < W.heap.size) W A (xs.map (Value.int k)) ∧ xs.length ≤ c ∧ c ≤ maxLen := by
  rcases open_ints ht he hc hf with ⟨hcs, _⟩ | ⟨x, len, cap, zs, hcs, _, hl, hm, hz, _, hcell, hwz⟩
  · exact ⟨none, 0, [], hcs, Rd.nil _ _ _, Nat.le_refl _, Nat.zero_le _⟩
  · have hz' : zs.length = cap := by simpa using hz
    have hlen : (zs.take len).length = len := by simp; omega
    refine ⟨some x, cap, zs.take len, by rw [hlen]; exact hcs, ?_, by rw [hlen]; exact hl, hm⟩
    intro j u hj
    rw [List.getElem?_map] at hj
    have hjl : j < len := by
      rcases Nat.lt_or_ge j len with h1 | h1
      · exact h1
      · rw [List.getElem?_eq_none (by omega)] at hj; cases hj
    rw [List.getElem?_take, if_pos hjl, List.getElem?_eq_getElem (by omega)] at hj
    have hcj := hcell j (by omega)
    rw [List.getD_eq_getElem?_getD, List.getElem?_eq_getElem (by omega)] at hcj
    simp only [Option.map_some, Option.some.injEq] at hj
    subst hj
    have hb := World.block_lt_of_cell? W _ hcj
    rw [block_add] at hb
    exact ⟨x, rfl, hb, hcj⟩
/-- A slice in a field, its elements of m cells each. -/
theorem dec_elems_w {α : Type} [Inhabited α] {ec : α → List Value} {q : α → Prop} {m fuel : Nat} {t e : TypeId} {cs : List Value} {y : DataW H × List MemPlace} (ht : P.underlying t = some (.slice e)) (hC : P.cellsOf e = m) (hlen : ∀ x, (ec x).length = m)
    (hel : ∀ n cs y, DataW.trod enc P W 0 (fun _ => true) true n e cs = some y → ∃ x : α, cs = ec x ∧ q x)
    (hf : DataW.trod enc P W 0 (fun _ => true) true fuel t cs = some y) :
    ∃ (A : Option Addr) (c : Nat) (xs : List α), cs = [.slice A xs.length c] ∧ Rd (fun i => i < W.heap.size) W A (xs.flatMap ec) ∧ xs.length ≤ c ∧ c ≤ maxLen ∧ ∀ x ∈ xs, q x := by
  rcases Go.Deep.open_slice ht hf with ⟨hcs, _⟩ | ⟨a, len, cap, mm, n, D, Pl, hcs, _, hl, hm, hmm, _, hi⟩
  · exact ⟨none, 0, [], hcs, Rd.nil _ _ _, Nat.le_refl _, Nat.zero_le _, fun _ hx => by simp at hx⟩
  · simp only [if_true] at hmm
    have hx : ∀ i, i < len → ∃ x : α, (∀ j u, (ec x)[j]? = some u → W.cell? (a.add (i * m + j)) = some u) ∧ q x := fun i hil => by
      obtain ⟨cs', hc, htr⟩ := hi i (by omega)
      rw [hC] at hc
      obtain ⟨x, rfl, hq⟩ := hel _ _ _ htr
      obtain ⟨_, hcl, hat⟩ := World.cells?_some hc
      refine ⟨x, fun j u hj => ?_, hq⟩
      have hjm : j < m := by rw [← hlen x]; exact (List.getElem?_eq_some_iff.1 hj).1
      rw [← add_add', hat j hjm, hj]
    obtain ⟨f, hfx⟩ := Go.Deep.choose_lt hx
    refine ⟨some a, cap, (List.range len).map f, by simpa using hcs, ?_, by simpa using hl, hm, fun x hx => ?_⟩
    · intro k u hk
      have hkl := (List.getElem?_eq_some_iff.1 hk).1
      rw [flat_length hlen] at hkl
      simp only [List.length_map, List.length_range] at hkl
      have hm0 : 0 < m := by
        rcases Nat.eq_zero_or_pos m with h0 | h0
        · rw [h0, Nat.mul_zero] at hkl; omega
        · exact h0
      have hq : k / m < len := (Nat.div_lt_iff_lt_mul hm0).2 hkl
      have hr : k % m < m := Nat.mod_lt _ hm0
      have e1 : k = k / m * m + k % m := by rw [Nat.mul_comm]; exact (Nat.div_add_mod k m).symm
      rw [e1, flat_get hlen _ (k / m) (by simpa using hq) (k % m) hr] at hk
      simp only [List.getElem_map, List.getElem_range] at hk
      have hc := (hfx (k / m) hq).1 (k % m) u hk
      rw [← e1] at hc
      have hb := World.block_lt_of_cell? W _ hc
      rw [block_add] at hb
      exact ⟨a, rfl, hb, hc⟩
    · obtain ⟨i, hi', rfl⟩ := List.mem_map.1 hx
      exact (hfx i (by simpa using hi')).2
/-- A struct of one cell. -/
theorem dec_one {e : TypeId} {f0 : Field} {n : Nat} {cs : List Value} {y : DataW H × List MemPlace} (he : P.underlying e = some (.struct #[f0])) (hone : Go.Deep.oneCellFields P #[f0] = true) (hC : P.cellsOf e = 1)
    (h : DataW.trod enc P W 0 (fun _ => true) true n e cs = some y) : ∃ c0 n' y0, cs = [c0] ∧ DataW.trod enc P W 0 (fun _ => true) true n' f0.type [c0] = some y0 := by
  obtain ⟨ys, n', _, _, hl, hyl, hf⟩ := DataW.trod_struct he h
  rw [hC] at hl
  match cs, hl, ys, hyl with
  | [c0], _, [y0], _ =>
    obtain ⟨o0, k0⟩ := Go.Deep.hone_of hone 0 f0 rfl
    have g0 := hf 0 f0 rfl
    rw [o0, k0] at g0
    exact ⟨c0, n', y0, rfl, g0⟩
/-- A struct of three cells: an integer, another, a third of any kind: integer, slice, integer. -/
theorem dec_isi {e t2 : TypeId} {f0 f1 f2 : Field} {n : Nat} {cs : List Value} {y : DataW H × List MemPlace} (he : P.underlying e = some (.struct #[f0, f1, f2])) (hone : Go.Deep.oneCellFields P #[f0, f1, f2] = true) (hC : P.cellsOf e = 3)
    (h0 : P.underlying f0.type = some (.int .i64)) (h1 : P.underlying f1.type = some (.slice t2)) (h2 : P.underlying f2.type = some (.int .i64)) (h3 : P.underlying t2 = some (.int .i64)) (h4 : P.cellsOf t2 = 1)
    (h : DataW.trod enc P W 0 (fun _ => true) true n e cs = some y) : ∃ (a b : Int) (A : Option Addr) (c : Nat) (xs : List Int), cs = [.int .i64 a, .slice A xs.length c, .int .i64 b] ∧ Rd (fun i => i < W.heap.size) W A (xs.map (Value.int .i64)) ∧ xs.length ≤ c ∧ c ≤ maxLen := by
  obtain ⟨ys, n', _, _, hl, hyl, hf⟩ := DataW.trod_struct he h
  rw [hC] at hl
  match cs, hl, ys, hyl with
  | [c0, c1, c2], _, [y0, y1, y2], _ =>
    obtain ⟨o0, k0⟩ := Go.Deep.hone_of hone 0 f0 rfl
    obtain ⟨o1, k1⟩ := Go.Deep.hone_of hone 1 f1 rfl
    obtain ⟨o2, k2⟩ := Go.Deep.hone_of hone 2 f2 rfl
    have g0 := hf 0 f0 rfl
    have g1 := hf 1 f1 rfl
    have g2 := hf 2 f2 rfl
    rw [o0, k0] at g0
    rw [o1, k1] at g1
    rw [o2, k2] at g2
    obtain ⟨a, ha, _⟩ := DataW.trod_int h0 g0
    obtain ⟨A, c, xs, hc, hr, hl, hm⟩ := dec_ints_w h1 h3 h4 g1
    obtain ⟨b, hb, _⟩ := DataW.trod_int h2 g2
    simp at ha hb hc
    exact ⟨a, b, A, c, xs, by rw [ha, hb, hc], hr, hl, hm⟩
end
end Go.Proofs.Ytpiojofmflfkkaa
/- Devices and heads that came in. -/
namespace Go.Proofs.Ytpiojofmflfkkaa
open Go.ChangeShapes Go.WideShapes Go.ChangeAt Go.RowKit
structure BkIn where
  wear : Int
  A : Option Addr
  c : Nat
  ps : List Pg
instance : Inhabited BkIn := ⟨⟨0, none, 0, []⟩⟩
def BkIn.enc (r : BkIn) : List Value := [.int .i64 r.wear, .slice r.A r.ps.length r.c]
def BkIn.bk (r : BkIn) : Bk := ⟨r.wear, r.ps⟩
structure DevA where
  A : Option Addr
  c : Nat
  D : List Bk
def DevIn (W : World) (v : Value) (x : DevA) : Prop := v = .slice x.A x.D.length x.c ∧ DevR (fun i => i < W.heap.size) W x.A x.D ∧ x.D.length ≤ maxLen ∧ ∀ k (h : k < x.D.length), x.D[k].pages.length ≤ maxLen
section
variable {H : Type} {enc : TypeId × Value → H} {P : Program} {W : World}
theorem dec_page {e : TypeId} {f0 f1 f2 f3 f4 : Field} {n : Nat} {cs : List Value} {y : DataW H × List MemPlace} (he : P.underlying e = some (.struct #[f0, f1, f2, f3, f4])) (hone : Go.Deep.oneCellFields P #[f0, f1, f2, f3, f4] = true) (hC : P.cellsOf e = 5)
    (h0 : P.underlying f0.type = some .bool) (h1 : P.underlying f1.type = some (.int .i64)) (h2 : P.underlying f2.type = some (.int .i64)) (h3 : P.underlying f3.type = some (.int .i64)) (h4 : P.underlying f4.type = some (.int .i64))
    (h : DataW.trod enc P W 0 (fun _ => true) true n e cs = some y) : ∃ p : Pg, cs = pcells p := by
  obtain ⟨ys, n', _, _, hl, hyl, hf⟩ := DataW.trod_struct he h
  rw [hC] at hl
  match cs, hl, ys, hyl with
  | [c0, c1, c2, c3, c4], _, [y0, y1, y2, y3, y4], _ =>
    obtain ⟨o0, k0⟩ := Go.Deep.hone_of hone 0 f0 rfl
    obtain ⟨o1, k1⟩ := Go.Deep.hone_of hone 1 f1 rfl
    obtain ⟨o2, k2⟩ := Go.Deep.hone_of hone 2 f2 rfl
    obtain ⟨o3, k3⟩ := Go.Deep.hone_of hone 3 f3 rfl
    obtain ⟨o4, k4⟩ := Go.Deep.hone_of hone 4 f4 rfl
    have g0 := hf 0 f0 rfl
    have g1 := hf 1 f1 rfl
    have g2 := hf 2 f2 rfl
    have g3 := hf 3 f3 rfl
    have g4 := hf 4 f4 rfl
    rw [o0, k0] at g0
    rw [o1, k1] at g1
    rw [o2, k2] at g2
    rw [o3, k3] at g3
    rw [o4, k4] at g4
    obtain ⟨b, hb, _⟩ := DataW.trod_bool h0 g0
    obtain ⟨a1, h1, _⟩ := DataW.trod_int h1 g1
    obtain ⟨a2, h2, _⟩ := DataW.trod_int h2 g2
    obtain ⟨a3, h3, _⟩ := DataW.trod_int h3 g3
    obtain ⟨a4, h4, _⟩ := DataW.trod_int h4 g4
    simp at hb h1 h2 h3 h4
    exact ⟨⟨b, a1, a2, a3, a4⟩, by rw [hb, h1, h2, h3, h4]; rfl⟩
/-- A struct of two cells: an integer, and another of any kind. -/
theorem dec_ix {e : TypeId} {f0 f1 : Field} {n : Nat} {cs : List Value} {y : DataW H × List MemPlace} (he : P.underlying e = some (.struct #[f0, f1])) (hone : Go.Deep.oneCellFields P #[f0, f1] = true) (hC : P.cellsOf e = 2)
    (h0 : P.underlying f0.type = some (.int .i64))
    (h : DataW.trod enc P W 0 (fun _ => true) true n e cs = some y) : ∃ (a : Int) (c1 : Value) (n' : Nat) (y1 : DataW H × List MemPlace), cs = [.int .i64 a, c1] ∧ DataW.trod enc P W 0 (fun _ => true) true n' f1.type [c1] = some y1 := by
  obtain ⟨ys, n', _, _, hl, hyl, hf⟩ := DataW.trod_struct he h
  rw [hC] at hl
  match cs, hl, ys, hyl with
  | [c0, c1], _, [y0, y1], _ =>
    obtain ⟨o0, k0⟩ := Go.Deep.hone_of hone 0 f0 rfl
    obtain ⟨o1, k1⟩ := Go.Deep.hone_of hone 1 f1 rfl
    have g0 := hf 0 f0 rfl
    have g1 := hf 1 f1 rfl
    rw [o0, k0] at g0
    rw [o1, k1] at g1
    obtain ⟨a, ha, _⟩ := DataW.trod_int h0 g0
    simp at ha
    exact ⟨a, c1, n', y1, by rw [ha], g1⟩
end
set_option maxRecDepth 100000 in
theorem open_dev_rd {H : Type} {enc : TypeId × Value → H} {W : World} {v : Value} {d : DataW H} {p : List MemPlace} {base : Nat}
    (hv : Value.okWide Try.prog W .any base 40 v) (h : DataW.Trod enc Try.prog W 0 (fun _ => true) true 40 v d p) : ∃ x : DevA, DevIn W v x := by
  obtain ⟨A, c, xs, hv', hr, hl, hm, hq⟩ := open_elems_rd (q := fun r : BkIn => Rd (fun i => i < W.heap.size) W r.A (pgs r.ps) ∧ r.ps.length ≤ r.c ∧ r.c ≤ maxLen) (ec := BkIn.enc) (m := 2) Try.underlying40 (by kernel_rfl) (fun _ => rfl) (fun n cs y hy => by
    obtain ⟨a, c1, n', y1, rfl, h1⟩ := dec_ix Try.underlying114 (by kernel_rfl) (by kernel_rfl) Try.underlying3 hy
    obtain ⟨A, c, ps, hcs, hr, hl, hm, _⟩ := dec_elems_w (α := Pg) (q := fun _ => True) (ec := pcells) (m := 5) Try.underlying112 (by kernel_rfl) (fun _ => rfl) (fun n cs y hy => by
      obtain ⟨p, hp⟩ := dec_page Try.underlying174 (by kernel_rfl) (by kernel_rfl) Try.underlying4 Try.underlying3 Try.underlying3 Try.underlying3 Try.underlying3 hy
      exact ⟨p, hp, trivial⟩) h1
    injection hcs with hcs
    exact ⟨⟨a, A, c, ps⟩, by rw [hcs]; rfl, hr, hl, hm⟩) hv h
  have hlen : (xs.map BkIn.bk).length = xs.length := by simp
  refine ⟨⟨A, c, xs.map BkIn.bk⟩, ?_, ?_, ?_, ?_⟩
  · rw [hv']
    show Value.slice A xs.length c = Value.slice A (xs.map BkIn.bk).length c
    rw [hlen]
  · intro k hk
    have hk' : k < xs.length := by simpa using hk
    obtain ⟨b, o, hA, hb, hbl, hcell⟩ := hr.flat (m := 2) (fun _ => rfl) hk' (by omega)
    have hq' := hq xs[k] (List.getElem_mem hk')
    simp only [List.getElem_map]
    exact ⟨b, o, xs[k].A, xs[k].c, hA, hb, hcell 0 _ rfl, hcell 1 _ rfl, hq'.1, hq'.2.1⟩
  · show (xs.map BkIn.bk).length ≤ maxLen
    rw [hlen]
    exact Nat.le_trans hl hm
  · intro k hk
    have hk' : k < xs.length := by simpa using hk
    have := hq xs[k] (List.getElem_mem hk')
    simp only [List.getElem_map]
    exact Nat.le_trans this.2.1 this.2.2
end Go.Proofs.Ytpiojofmflfkkaa
/- Heads that came in. -/
namespace Go.Proofs.Ytpiojofmflfkkaa
open Go.ChangeShapes Go.WideShapes Go.ChangeAt Go.RowKit
def HdIn (v : Value) (x : Int × Int × Int) : Prop := v = .agg #[.int .i64 x.1, .int .i64 x.2.1, .int .i64 x.2.2]
set_option maxRecDepth 100000 in
theorem open_heads_rd {H : Type} {enc : TypeId × Value → H} {W : World} {v : Value} {d : DataW H} {p : List MemPlace} {base : Nat}
    (hv : Value.okWide Try.prog W .any base 43 v) (h : DataW.Trod enc Try.prog W 0 (fun _ => true) true 43 v d p) : ∃ x : Int × Int × Int, HdIn v x := by
  obtain ⟨cs, rfl, hs⟩ := okWide_struct Try.underlying43 hv
  obtain ⟨n, hf⟩ := h
  obtain ⟨a, b, c, hc⟩ := dec_ints3 Try.underlying43 (by kernel_rfl) (by kernel_rfl) Try.underlying3 Try.underlying3 Try.underlying3 hf
  refine ⟨(a, b, c), ?_⟩
  have : cs.toList = [.int .i64 a, .int .i64 b, .int .i64 c] := by simpa [Value.cells] using hc
  have : cs = #[.int .i64 a, .int .i64 b, .int .i64 c] := by rw [← Array.toArray_toList (xs := cs), this]
  rw [this]
  rfl
end Go.Proofs.Ytpiojofmflfkkaa
