/- Draws for heat. -/
import Derived.Test.YtdblfcmmeggpdaaDa
namespace Go.Proofs.Ytdblfcmmeggpdaa
open Go.RowKit

theorem lit_cell {w : World} {g : Nat} {t : TypeId} {cs : Array Value} (h : Blk w g t cs) (k : Nat) (hk : k < cs.size) (hi : ∀ v ∈ cs, ∃ x : Int, v = .int .i64 x) : ∃ x : Int, w.cell? ⟨g, k, none⟩ = some (.int .i64 x) := by
  obtain ⟨x, hx⟩ := hi cs[k] (Array.getElem_mem hk)
  exact ⟨x, by rw [h.cell, Array.getElem?_eq_getElem hk, hx]⟩

set_option maxHeartbeats 1000000 in
theorem DrawHeatKind_any (A : Option Addr) (c : Nat) (bs : List Nat) (w : World) (h : Rd (fun i => i < w.heap.size) w A (bs.map fun (b : Nat) => Value.int .u8 (b : Int))) (hx : ∀ b ∈ bs, b < 256) (hc : bs.length ≤ c) :
    Calls Try.prog 27 #[.slice A bs.length c] w fun e w' => ∃ x : Int, e = .returned (.int .i64 x) ∧ Chg NoB w w' := by
  go_enter Try.func27, Try.ntmps27
  go_wp2_with fail
  refine (l20Open_any A c bs w h hx hc).mono ?_
  rintro e w1 ⟨g, rfl, hg, hc1, hr1⟩
  have Hg := Lib.hid hg
  clear hg
  go_wp2_with fail
  refine (pick_any g 0 256 w1 hr1 (by omega) (by omega) (by omega)).mono ?_
  rintro e w2 ⟨k, rfl, hk, hc2, hr2⟩
  go_wp2_with fail
  have hc3 := (Chg.refl NoB w2).alloc (.cells #[.int .i64 k, .int .i64 100, .int .i64 99, .int .i64 10, .int .i64 9, .int .i64 1000, .int .i64 1001, .int .i64 (-1)] 3)
  refine (pick_any g _ 8 _ (hr2.chg hc3 (fun _ _ x => x)) (by omega) (by omega) (by omega)).mono ?_
  rintro e w3 ⟨j, rfl, hj, hc4, hr4⟩
  have hlt := hr2.lt
  have hj8 : j < 8 := by omega
  obtain ⟨x, hcell⟩ := lit_cell ((Blk.new w2 3 #[.int .i64 k, .int .i64 100, .int .i64 99, .int .i64 10, .int .i64 9, .int .i64 1000, .int .i64 1001, .int .i64 (-1)]).chg hc4 (by omega)) j (by simp; omega) (by simp)
  go_wp2_with fail
  go_ret
  exact ⟨x, rfl, ((hc1.own hc2 (by rw [Hg.out]; exact Nat.le_refl _)).alloc _).own hc4 (by rw [Hg.out]; exact Nat.le_refl _)⟩

theorem DrawCoolsIn_any (A : Option Addr) (c : Nat) (bs : List Nat) (w : World) (h : Rd (fun i => i < w.heap.size) w A (bs.map fun (b : Nat) => Value.int .u8 (b : Int))) (hx : ∀ b ∈ bs, b < 256) (hc : bs.length ≤ c) :
    Calls Try.prog 29 #[.slice A bs.length c] w fun e w' => ∃ x : Int, e = .returned (.int .i64 x) ∧ Chg NoB w w' := by
  go_enter Try.func29, Try.ntmps29
  go_wp2_with fail
  refine (DrawHeatKind_any A c bs w h hx hc).mono ?_
  rintro e w1 ⟨x, rfl, hc1⟩
  go_wp2_with fail
  go_ret
  exact ⟨x, rfl, hc1⟩

end Go.Proofs.Ytdblfcmmeggpdaa
