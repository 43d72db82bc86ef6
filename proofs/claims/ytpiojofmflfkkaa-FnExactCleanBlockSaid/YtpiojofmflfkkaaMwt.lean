/- Parts of the proof, merged: Wt. -/
import Derived.Test.YtpiojofmflfkkaaMw
import Derived.Test.YtpiojofmflfkkaaMh
/- Tables that came in. -/
namespace Go.Proofs.Ytpiojofmflfkkaa
open Go.ChangeShapes Go.WideShapes Go.ChangeAt Go.RowKit
structure RowIn where
  A : Option Addr
  c : Nat
  xs : List Int
instance : Inhabited RowIn := ⟨⟨none, 0, []⟩⟩
def RowIn.enc (r : RowIn) : List Value := [.slice r.A r.xs.length r.c]
set_option maxRecDepth 100000 in
theorem open_table_rd {H : Type} {enc : TypeId × Value → H} {W : World} {v : Value} {d : DataW H} {p : List MemPlace} {base : Nat}
    (hv : Value.okWide Try.prog W .any base 41 v) (h : DataW.Trod enc Try.prog W 0 (fun _ => true) true 41 v d p) : ∃ x : TbA, TabIn W v x := by
  obtain ⟨cs, rfl, hs⟩ := okWide_struct Try.underlying41 hv
  obtain ⟨n, hf⟩ := h
  obtain ⟨c0, n', y0, hc0, h0⟩ := dec_one Try.underlying41 (by kernel_rfl) (by kernel_rfl) hf
  obtain ⟨A, c, xs, hcs, hr, hl, hm, hq⟩ := dec_elems_w (q := fun r : RowIn => Rd (fun i => i < W.heap.size) W r.A (icells r.xs) ∧ r.xs.length ≤ r.c ∧ r.c ≤ maxLen) (ec := RowIn.enc) (m := 1) Try.underlying29 (by kernel_rfl) (fun _ => rfl) (fun n cs y hy => by
    obtain ⟨A, c, xs, h1, h2, h3, h4⟩ := dec_ints_w Try.underlying24 Try.underlying3 (by kernel_rfl) hy
    exact ⟨⟨A, c, xs⟩, h1, h2, h3, h4⟩) h0
  have hlen : (xs.map (·.xs)).length = xs.length := by simp
  refine ⟨⟨A, c, xs.map (·.xs)⟩, ?_, ?_, ?_, ?_⟩
  · have h1 : cs.toList = [.slice A xs.length c] := by
      have h2 : cs.toList = [c0] := by simpa [Value.cells] using hc0
      rw [h2]
      exact hcs
    have h3 : cs = #[.slice A xs.length c] := by rw [← Array.toArray_toList (xs := cs), h1]
    rw [h3, hlen]
  · intro k hk
    have hk' : k < xs.length := by simpa using hk
    obtain ⟨b, o, hA, hb, hbl, hcell⟩ := hr.flat (m := 1) (fun _ => rfl) hk' (by omega)
    have hq' := hq xs[k] (List.getElem_mem hk')
    refine ⟨⟨b, o, none⟩, xs[k].A, xs[k].c, hA, hb, ?_, ?_, ?_⟩
    · have h1 := hcell 0 _ rfl
      have h2 : (⟨b, o, none⟩ : Addr).add k = ⟨b, o + k * 1 + 0, none⟩ := by unfold Addr.add; split <;> simp_all
      rw [h2, h1]
      simp
    · simpa using hq'.1
    · simpa using hq'.2.1
  · simp only [hlen]; omega
  · intro r hr'
    obtain ⟨x, hx, rfl⟩ := List.mem_map.1 hr'
    have := hq x hx
    omega
set_option maxRecDepth 100000 in
theorem open_save_rd {H : Type} {enc : TypeId × Value → H} {W : World} {v : Value} {d : DataW H} {p : List MemPlace} {base : Nat}
    (hv : Value.okWide Try.prog W .any base 92 v) (h : DataW.Trod enc Try.prog W 0 (fun _ => true) true 92 v d p) : ∃ x : SvA, SavIn W v x := by
  obtain ⟨cs, rfl, hs⟩ := okWide_struct Try.underlying92 hv
  obtain ⟨n, hf⟩ := h
  obtain ⟨a, b, A, c, xs, hc, hr, hl, hm⟩ := dec_isi Try.underlying92 (by kernel_rfl) (by kernel_rfl) Try.underlying3 Try.underlying24 Try.underlying3 Try.underlying3 (by kernel_rfl) hf
  refine ⟨⟨a, A, c, xs, b⟩, ?_, hr, hl, hm⟩
  have : cs.toList = [.int .i64 a, .slice A xs.length c, .int .i64 b] := by simpa [Value.cells] using hc
  have : cs = #[.int .i64 a, .slice A xs.length c, .int .i64 b] := by rw [← Array.toArray_toList (xs := cs), this]
  rw [this]
end Go.Proofs.Ytpiojofmflfkkaa
