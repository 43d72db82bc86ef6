/- Parts of the proof, merged: Uv. -/
import Derived.Test.YtpiojofmflfkkaaMg
/- TableGet of the program, on a table that is valid. -/
namespace Go.Proofs.Ytpiojofmflfkkaa
open Go.RowKit
set_option maxRecDepth 100000 in
set_option maxHeartbeats 1000000 in
theorem iTableGetT_any (F : Nat → Prop) (A : Option Addr) (c : Nat) (X : List (List Int)) (w : World) (h : TabR F w A X) (hX : tabOk X) (f p : Nat) (hf : f < 8) (hp : p < 6) :
    Calls Try.prog 48 #[.agg #[.slice A X.length c], .int .i64 f, .int .i64 p] w fun e w' => e = .returned (.int .i64 (tget X f p)) ∧ Chg NoB w w' := by
  have hca := (Chg.refl NoB w).alloc (.cells #[.slice A X.length c] 31)
  have HB := Lib.hid (Blk.new w 31 #[.slice A X.length c])
  have HT := Lib.hid (h.lt.new hca)
  have HC := Lib.hid hca
  have HX := Lib.hid hX
  have HL8 := Lib.hid hX.1
  have i0 : (0 : Int) ≤ (f : Int) := Int.natCast_nonneg _
  have i1 : (f : Int) < 8 := by omega
  have i2 : ¬ ((f : Int) < 0) := by omega
  have i3 : ¬ ((8 : Int) ≤ (f : Int)) := by omega
  have j0 : (0 : Int) ≤ (p : Int) := Int.natCast_nonneg _
  have j1 : (p : Int) < 6 := by omega
  have j2 : ¬ ((p : Int) < 0) := by omega
  have j3 : ¬ ((5 : Int) < (p : Int)) := by omega
  have HG := Lib.hid (tget_get hX hf hp)
  clear h hca hX
  go_enter Try.func48, Try.ntmps48
  go_wp2_with fail
  refine (iTableValid_any _ A c X _ HT.out).mono ?_
  rintro e w1 ⟨r, rfl, hr, hc1⟩
  obtain rfl : r = true := hr.2 HX.out
  have hb1 := HB.out.chg hc1 (fun x => x)
  have x0 : w1.cell? ⟨w.heap.size, 0, none⟩ = some (.slice A X.length c) := (hb1.cell _).trans rfl
  have hfl : f < X.length := by rw [HL8.out]; exact hf
  have h6 : X[f].length = 6 := (HX.out.2 f hfl).1
  obtain ⟨ad, B, c', rfl, hF, hcell, hrd, -⟩ := (HT.out.new hc1) f hfl
  obtain ⟨ad2, rfl, -, hb2, hck⟩ := ints_at hrd (k := p) (by omega)
  have HC1 := Lib.hid (HC.out.trans hc1)
  have HEQ := Lib.hid (show tget X f p = X[f][p]'(by omega) by obtain ⟨h1, h2, h3⟩ := HG.out; exact h3.symm)
  rw [h6] at hcell
  rw [HL8.out] at x0 ⊢
  generalize X[f][p]'(by omega) = x at hck HEQ
  clear hr hb1 hc1 hrd h6
  go_wp2
  go_ret
  exact ⟨by rw [HEQ.out]; rfl, HC1.out⟩
end Go.Proofs.Ytpiojofmflfkkaa
