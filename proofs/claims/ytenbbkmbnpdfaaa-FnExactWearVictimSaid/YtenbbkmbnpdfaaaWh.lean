/- Heads that came in. -/
import Derived.Test.YtenbbkmbnpdfaaaW
namespace Go.Proofs.Ytenbbkmbnpdfaaa
open Go.ChangeShapes Go.WideShapes Go.ChangeAt Go.RowKit
def HdIn (v : Value) (x : Int × Int × Int) : Prop := v = .agg #[.int .i64 x.1, .int .i64 x.2.1, .int .i64 x.2.2]
set_option maxRecDepth 100000 in
theorem open_heads_rd {H : Type} {enc : TypeId × Value → H} {W : World} {v : Value} {d : DataW H} {p : List MemPlace} {base : Nat}
    (hv : Value.okWide Try.prog W .any base 36 v) (h : DataW.Trod enc Try.prog W 0 (fun _ => true) true 36 v d p) : ∃ x : Int × Int × Int, HdIn v x := by
  obtain ⟨cs, rfl, hs⟩ := okWide_struct Try.underlying36 hv
  obtain ⟨n, hf⟩ := h
  obtain ⟨a, b, c, hc⟩ := dec_ints3 Try.underlying36 (by kernel_rfl) (by kernel_rfl) Try.underlying3 Try.underlying3 Try.underlying3 hf
  refine ⟨(a, b, c), ?_⟩
  have : cs.toList = [.int .i64 a, .int .i64 b, .int .i64 c] := by simpa [Value.cells] using hc
  have : cs = #[.int .i64 a, .int .i64 b, .int .i64 c] := by rw [← Array.toArray_toList (xs := cs), this]
  rw [this]
  rfl
end Go.Proofs.Ytenbbkmbnpdfaaa
