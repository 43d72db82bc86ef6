/- Parts of the proof, merged: Wp. -/
import Derived.Test.YtpiojofmflfkkaaMw
import Derived.Test.YtpiojofmflfkkaaMp
/- Writes that came in. -/
namespace Go.Proofs.Ytpiojofmflfkkaa
open Go.ChangeShapes Go.WideShapes Go.ChangeAt Go.RowKit
instance : Inhabited Pt := ⟨⟨0, 0, 0⟩⟩
set_option maxRecDepth 100000 in
theorem open_puts_rd {H : Type} {enc : TypeId × Value → H} {W : World} {v : Value} {d : DataW H} {p : List MemPlace} {base : Nat}
    (hv : Value.okWide Try.prog W .any base 68 v) (h : DataW.Trod enc Try.prog W 0 (fun _ => true) true 68 v d p) :
    ∃ (A : Option Addr) (c : Nat) (xs : List Pt), v = .slice A xs.length c ∧ Rd (fun i => i < W.heap.size) W A (putcells xs) ∧ xs.length ≤ c ∧ c ≤ maxLen := by
  obtain ⟨A, c, xs, h1, h2, h3, h4, _⟩ := open_elems_rd (q := fun _ => True) (ec := Pt.enc) Try.underlying68 (by kernel_rfl) Pt.enc_len (fun n cs y hy => by
    obtain ⟨a, b, d, rfl⟩ := dec_ints3 Try.underlying140 (by kernel_rfl) (by kernel_rfl) Try.underlying3 Try.underlying3 Try.underlying3 hy
    exact ⟨⟨a, b, d⟩, rfl, trivial⟩) hv h
  exact ⟨A, c, xs, h1, h2, h3, h4⟩
end Go.Proofs.Ytpiojofmflfkkaa
