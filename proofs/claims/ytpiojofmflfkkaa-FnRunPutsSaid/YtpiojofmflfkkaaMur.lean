/- Parts of the proof, merged: Ur. -/
import Derived.Test.YtpiojofmflfkkaaMpb
/- DrawRunPuts. -/
namespace Go.Proofs.Ytpiojofmflfkkaa
open Go.RowKit
theorem results_tmp2r {fn : Func} {t u : Tmp} (h : fn.results = #[.tmp t, .tmp u]) (tmps : Array Value) (P : Program) (w : World) :
    (results fn tmps).run P w = .ok (.tuple #[tmps.getD t undef, tmps.getD u undef]) w := by simp [results, h]
def RpDrawn (w : World) (e : Ending) (w' : World) : Prop :=
  ∃ (n : Int) (ad : Addr) (c : Nat) (xs : List Pt), e = .returned (.tuple #[.int .i64 n, .slice (some ad) xs.length c]) ∧ Rd (fun i => w.heap.size ≤ i) w' (some ad) (putcells xs) ∧ xs.length ≤ c ∧ xs.length ≤ 21 ∧ Chg NoB w w'
set_option maxRecDepth 100000 in
set_option maxHeartbeats 2000000 in
theorem DrawRunPuts_any (A : Option Addr) (c : Nat) (bs : List Nat) (w : World) (h : Rd (fun i => i < w.heap.size) w A (bs.map fun (b : Nat) => Value.int .u8 (b : Int))) (hx : ∀ b ∈ bs, b < 256) (hc : bs.length ≤ c) :
    Calls Try.prog 46 #[.slice A bs.length c] w (RpDrawn w) := by
  go_enter Try.func46, Try.ntmps46
  go_wp2_with fail
  refine (l20Open_any A c bs w h hx hc).mono ?_
  rintro e w1 ⟨g, rfl, hg, hc1, hr1⟩
  have Hg := Lib.hid hg
  clear hg
  go_wp2_with fail
  refine (pick_any g 0 4 _ hr1 (by omega) (by omega) (by omega)).mono ?_
  rintro e w2 ⟨k, rfl, hk, hc2, hr2⟩
  obtain ⟨hb1, hb2, hca⟩ := lit2 w2 3 3 #[.int .i64 (1 + (k : Int)), .int .i64 12, .int .i64 0, .int .i64 13] #[.int .i64 0, .int .i64 0, .int .i64 0, .int .i64 0, .int .i64 0, .int .i64 1, .int .i64 2, .int .i64 3]
  have hg1 := hr2.lt
  have HC2 := Lib.hid ((hc1.own hc2 (Nat.le_of_eq Hg.out.symm)).trans hca)
  have HB1 := Lib.hid hb1
  have HB2 := Lib.hid hb2
  have HR2 := Lib.hid (hr2.chg hca (fun _ _ x => x))
  have k0 : (0 : Int) ≤ (k : Int) := Int.natCast_nonneg _
  have k3 : (k : Int) < 4 := by omega
  clear hr1 hc1 hc2 hr2 hca hb1 hb2 h hx hc
  go_wp2_with fail
  refine (pick_any g _ 8 _ HR2.out (by omega) (by omega) (by omega)).mono ?_
  rintro e w3 ⟨j, rfl, hj, hc3, hr3⟩
  have HC3 := Lib.hid (HC2.out.own hc3 (Nat.le_of_eq Hg.out.symm))
  have hb1 := HB1.out.chg hc3 (by omega)
  have hb2 := HB2.out.chg hc3 (by omega)
  have HR3 := Lib.hid hr3
  have x0 : w3.cell? ⟨w2.heap.size, 0, none⟩ = some (.int .i64 (1 + (k : Int))) := (hb1.cell _).trans rfl
  have x1 : w3.cell? ⟨w2.heap.size, 1, none⟩ = some (.int .i64 12) := (hb1.cell _).trans rfl
  have x2 : w3.cell? ⟨w2.heap.size, 2, none⟩ = some (.int .i64 0) := (hb1.cell _).trans rfl
  have x3 : w3.cell? ⟨w2.heap.size, 3, none⟩ = some (.int .i64 13) := (hb1.cell _).trans rfl
  have y0 : w3.cell? ⟨(w2.heap.size + 1), 0, none⟩ = some (.int .i64 0) := (hb2.cell _).trans rfl
  have y1 : w3.cell? ⟨(w2.heap.size + 1), 1, none⟩ = some (.int .i64 0) := (hb2.cell _).trans rfl
  have y2 : w3.cell? ⟨(w2.heap.size + 1), 2, none⟩ = some (.int .i64 0) := (hb2.cell _).trans rfl
  have y3 : w3.cell? ⟨(w2.heap.size + 1), 3, none⟩ = some (.int .i64 0) := (hb2.cell _).trans rfl
  have y4 : w3.cell? ⟨(w2.heap.size + 1), 4, none⟩ = some (.int .i64 0) := (hb2.cell _).trans rfl
  have y5 : w3.cell? ⟨(w2.heap.size + 1), 5, none⟩ = some (.int .i64 1) := (hb2.cell _).trans rfl
  have y6 : w3.cell? ⟨(w2.heap.size + 1), 6, none⟩ = some (.int .i64 2) := (hb2.cell _).trans rfl
  have y7 : w3.cell? ⟨(w2.heap.size + 1), 7, none⟩ = some (.int .i64 3) := (hb2.cell _).trans rfl
  clear hc3 hr3 HB1 HB2 hb1 hb2
  have hj8 : j = 0 ∨ j = 1 ∨ j = 2 ∨ j = 3 ∨ j = 4 ∨ j = 5 ∨ j = 6 ∨ j = 7 := by omega
  clear hj
  rcases hj8 with rfl | rfl | rfl | rfl | rfl | rfl | rfl | rfl
  all_goals
    go_wp2_with fail
    refine (l20Puts_any g _ 9 _ HR3.out (by omega) (by omega) (by omega)).mono ?_
    rintro e w4 ⟨ad, c', xs, rfl, hrd, hle, h21, hc4, -⟩
    go_wp2_with fail
    (try simp only [Exit.inBlock, Exit.then])
    refine bodyPost_ret (results_tmp2r rfl _ _ _) rfl ?_
    exact ⟨_, ad, c', xs, rfl, hrd.mono (fun i _ hi => by have := HC3.out.size; omega), hle, h21, HC3.out.own hc4 (Nat.le_of_eq Hg.out.symm)⟩
end Go.Proofs.Ytpiojofmflfkkaa
