/- Links that came in. -/
import Derived.Test.YtbgepefdfioljaaW
import Derived.Test.YtbgepefdfioljaaK
namespace Go.Proofs.Ytbgepefdfioljaa
open Go.ChangeShapes Go.WideShapes Go.ChangeAt Go.RowKit
instance : Inhabited Lk := ⟨⟨0, 0⟩⟩
theorem open_links_rd {H : Type} {enc : TypeId × Value → H} {W : World} {v : Value} {d : DataW H} {p : List MemPlace} {base : Nat}
    (hv : Value.okWide Try.prog W .any base 69 v) (h : DataW.Trod enc Try.prog W 0 (fun _ => true) true 69 v d p) :
    ∃ (A : Option Addr) (c : Nat) (xs : List Lk), v = .slice A xs.length c ∧ Rd (fun i => i < W.heap.size) W A (lcells xs) ∧ xs.length ≤ c ∧ c ≤ maxLen := by
  obtain ⟨A, c, xs, h1, h2, h3, h4, _⟩ := open_elems_rd (q := fun _ => True) (ec := Lk.enc) Try.underlying69 (by kernel_rfl) Lk.enc_len (fun n cs y hy => by
    obtain ⟨a, b, rfl⟩ := dec_ints2 Try.underlying92 (by kernel_rfl) (by kernel_rfl) Try.underlying3 Try.underlying3 hy
    exact ⟨⟨a, b⟩, rfl, trivial⟩) hv h
  exact ⟨A, c, xs, h1, h2, h3, h4⟩
end Go.Proofs.Ytbgepefdfioljaa
