/- Devices and heads that came in. -/
import Derived.Test.YtenbbkmbnpdfaaaWe
import Derived.Test.YtenbbkmbnpdfaaaVa
namespace Go.Proofs.Ytenbbkmbnpdfaaa
open Go.ChangeShapes Go.WideShapes Go.ChangeAt Go.RowKit
structure BkIn where
  wear : Int
  A : Option Addr
  c : Nat
  ps : List Pg
instance : Inhabited BkIn := ⟨⟨0, none, 0, []⟩⟩
def BkIn.enc (r : BkIn) : List Value := [.int .i64 r.wear, .slice r.A r.ps.length r.c]
def BkIn.bk (r : BkIn) : Bk := ⟨r.wear, r.ps⟩
structure DevA where
  A : Option Addr
  c : Nat
  D : List Bk
def DevIn (W : World) (v : Value) (x : DevA) : Prop := v = .slice x.A x.D.length x.c ∧ DevR (fun i => i < W.heap.size) W x.A x.D ∧ x.D.length ≤ maxLen ∧ ∀ k (h : k < x.D.length), x.D[k].pages.length ≤ maxLen
section
variable {H : Type} {enc : TypeId × Value → H} {P : Program} {W : World}
theorem dec_page {e : TypeId} {f0 f1 f2 f3 f4 : Field} {n : Nat} {cs : List Value} {y : DataW H × List MemPlace} (he : P.underlying e = some (.struct #[f0, f1, f2, f3, f4])) (hone : Go.Deep.oneCellFields P #[f0, f1, f2, f3, f4] = true) (hC : P.cellsOf e = 5)
    (h0 : P.underlying f0.type = some .bool) (h1 : P.underlying f1.type = some (.int .i64)) (h2 : P.underlying f2.type = some (.int .i64)) (h3 : P.underlying f3.type = some (.int .i64)) (h4 : P.underlying f4.type = some (.int .i64))
    (h : DataW.trod enc P W 0 (fun _ => true) true n e cs = some y) : ∃ p : Pg, cs = pcells p := by
  obtain ⟨ys, n', _, _, hl, hyl, hf⟩ := DataW.trod_struct he h
  rw [hC] at hl
  match cs, hl, ys, hyl with
  | [c0, c1, c2, c3, c4], _, [y0, y1, y2, y3, y4], _ =>
    obtain ⟨o0, k0⟩ := Go.Deep.hone_of hone 0 f0 rfl
    obtain ⟨o1, k1⟩ := Go.Deep.hone_of hone 1 f1 rfl
    obtain ⟨o2, k2⟩ := Go.Deep.hone_of hone 2 f2 rfl
    obtain ⟨o3, k3⟩ := Go.Deep.hone_of hone 3 f3 rfl
    obtain ⟨o4, k4⟩ := Go.Deep.hone_of hone 4 f4 rfl
    have g0 := hf 0 f0 rfl
    have g1 := hf 1 f1 rfl
    have g2 := hf 2 f2 rfl
    have g3 := hf 3 f3 rfl
    have g4 := hf 4 f4 rfl
    rw [o0, k0] at g0
    rw [o1, k1] at g1
    rw [o2, k2] at g2
    rw [o3, k3] at g3
    rw [o4, k4] at g4
    obtain ⟨b, hb, _⟩ := DataW.trod_bool h0 g0
    obtain ⟨a1, h1, _⟩ := DataW.trod_int h1 g1
    obtain ⟨a2, h2, _⟩ := DataW.trod_int h2 g2
    obtain ⟨a3, h3, _⟩ := DataW.trod_int h3 g3
    obtain ⟨a4, h4, _⟩ := DataW.trod_int h4 g4
    simp at hb h1 h2 h3 h4
    exact ⟨⟨b, a1, a2, a3, a4⟩, by rw [hb, h1, h2, h3, h4]; rfl⟩
/-- A struct of two cells: an integer, and another of any kind. -/
theorem dec_ix {e : TypeId} {f0 f1 : Field} {n : Nat} {cs : List Value} {y : DataW H × List MemPlace} (he : P.underlying e = some (.struct #[f0, f1])) (hone : Go.Deep.oneCellFields P #[f0, f1] = true) (hC : P.cellsOf e = 2)
    (h0 : P.underlying f0.type = some (.int .i64))
    (h : DataW.trod enc P W 0 (fun _ => true) true n e cs = some y) : ∃ (a : Int) (c1 : Value) (n' : Nat) (y1 : DataW H × List MemPlace), cs = [.int .i64 a, c1] ∧ DataW.trod enc P W 0 (fun _ => true) true n' f1.type [c1] = some y1 := by
  obtain ⟨ys, n', _, _, hl, hyl, hf⟩ := DataW.trod_struct he h
  rw [hC] at hl
  match cs, hl, ys, hyl with
  | [c0, c1], _, [y0, y1], _ =>
    obtain ⟨o0, k0⟩ := Go.Deep.hone_of hone 0 f0 rfl
    obtain ⟨o1, k1⟩ := Go.Deep.hone_of hone 1 f1 rfl
    have g0 := hf 0 f0 rfl
    have g1 := hf 1 f1 rfl
    rw [o0, k0] at g0
    rw [o1, k1] at g1
    obtain ⟨a, ha, _⟩ := DataW.trod_int h0 g0
    simp at ha
    exact ⟨a, c1, n', y1, by rw [ha], g1⟩
end
set_option maxRecDepth 100000 in
theorem open_dev_rd {H : Type} {enc : TypeId × Value → H} {W : World} {v : Value} {d : DataW H} {p : List MemPlace} {base : Nat}
    (hv : Value.okWide Try.prog W .any base 31 v) (h : DataW.Trod enc Try.prog W 0 (fun _ => true) true 31 v d p) : ∃ x : DevA, DevIn W v x := by
  obtain ⟨A, c, xs, hv', hr, hl, hm, hq⟩ := open_elems_rd (q := fun r : BkIn => Rd (fun i => i < W.heap.size) W r.A (pgs r.ps) ∧ r.ps.length ≤ r.c ∧ r.c ≤ maxLen) (ec := BkIn.enc) (m := 2) Try.underlying31 (by kernel_rfl) (fun _ => rfl) (fun n cs y hy => by
    obtain ⟨a, c1, n', y1, rfl, h1⟩ := dec_ix Try.underlying73 (by kernel_rfl) (by kernel_rfl) Try.underlying3 hy
    obtain ⟨A, c, ps, hcs, hr, hl, hm, _⟩ := dec_elems_w (α := Pg) (q := fun _ => True) (ec := pcells) (m := 5) Try.underlying71 (by kernel_rfl) (fun _ => rfl) (fun n cs y hy => by
      obtain ⟨p, hp⟩ := dec_page Try.underlying101 (by kernel_rfl) (by kernel_rfl) Try.underlying4 Try.underlying3 Try.underlying3 Try.underlying3 Try.underlying3 hy
      exact ⟨p, hp, trivial⟩) h1
    injection hcs with hcs
    exact ⟨⟨a, A, c, ps⟩, by rw [hcs]; rfl, hr, hl, hm⟩) hv h
  have hlen : (xs.map BkIn.bk).length = xs.length := by simp
  refine ⟨⟨A, c, xs.map BkIn.bk⟩, ?_, ?_, ?_, ?_⟩
  · rw [hv']
    show Value.slice A xs.length c = Value.slice A (xs.map BkIn.bk).length c
    rw [hlen]
  · intro k hk
    have hk' : k < xs.length := by simpa using hk
    obtain ⟨b, o, hA, hb, hbl, hcell⟩ := hr.flat (m := 2) (fun _ => rfl) hk' (by omega)
    have hq' := hq xs[k] (List.getElem_mem hk')
    simp only [List.getElem_map]
    exact ⟨b, o, xs[k].A, xs[k].c, hA, hb, hcell 0 _ rfl, hcell 1 _ rfl, hq'.1, hq'.2.1⟩
  · show (xs.map BkIn.bk).length ≤ maxLen
    rw [hlen]
    exact Nat.le_trans hl hm
  · intro k hk
    have hk' : k < xs.length := by simpa using hk
    have := hq xs[k] (List.getElem_mem hk')
    simp only [List.getElem_map]
    exact Nat.le_trans this.2.1 this.2.2
end Go.Proofs.Ytenbbkmbnpdfaaa
