/- Laws on links: FnExactLinksValid, FnExactCloseAll: the walks. -/
import Derived.Test.YtgfhplejdpjgoaaKc
namespace Go.Proofs.Ytgfhplejdpjgoaa
open Go.RowKit

set_option maxHeartbeats 1000000 in
theorem FnExactLinksValid_any (A : Option Addr) (c : Nat) (xs : List Lk) (w : World) (h : Rd (fun i => i < w.heap.size) w A (lcells xs)) (hc : xs.length ≤ c) (hm : c ≤ maxLen) :
    Calls Try.prog 3 #[.slice A xs.length c] w fun e w' => e = .returned (.bool true) ∧ Chg NoB w w' := by
  go_enter Try.func3, Try.ntmps3
  go_wp2_with fail
  refine (szLinksS_any A xs.length c w (by omega)).mono ?_
  rintro e w' ⟨x, rfl, hx, rfl⟩
  by_cases hl : 1048576 < xs.length
  · have hx0 : x < 0 := hx.2 hl
    go_wp2
    go_ret
    exact ⟨rfl, Chg.refl _ _⟩
  have hl' : xs.length ≤ 1048576 := by omega
  have hx0 : ¬ x < 0 := fun hh => hl (hx.1 hh)
  clear hx
  go_wp2_with fail
  refine (toLinksS_any _ A c xs w h hl').mono ?_
  rintro e w1 ⟨g1, rfl, hg1, hc1, hb1⟩
  go_wp2_with fail
  refine (sLinksValid_any _ _ _ xs _ hb1.rd (by omega)).mono ?_
  rintro e w2 ⟨b, rfl, hb, hc2⟩
  go_wp2_with fail
  refine (toLinksS_any _ A c xs w2 (h.chg (hc1.trans hc2) fun _ _ x => x) hl').mono ?_
  rintro e w3 ⟨g3, rfl, hg3, hc3, hb3⟩
  go_wp2_with fail
  refine (iLinksValid_any _ _ _ xs _ hb3.rd).mono ?_
  rintro e w4 ⟨b', rfl, hb', hc4⟩
  obtain rfl : b = b' := by rw [Bool.eq_iff_iff, hb, hb']
  clear hb hb'
  go_wp2_with fail
  refine (toLinksS_any _ A c xs w4 (h.chg (((hc1.trans hc2).trans hc3).trans hc4) fun _ _ x => x) hl').mono ?_
  rintro e w5 ⟨g5, rfl, hg5, hc5, hb5⟩
  go_wp2_with fail
  refine (eqLinksS_t _ _ _ _ _ _ xs _ ((hb3.chg hc4 (fun x => x)).chg hc5 (fun x => x)).rd hb5.rd (by omega)).mono ?_
  rintro e w6 ⟨rfl, hc6⟩
  go_wp2
  go_ret
  exact ⟨rfl, ((((hc1.trans hc2).trans hc3).trans hc4).trans hc5).trans hc6⟩

set_option maxHeartbeats 2000000 in
theorem FnExactCloseAll_any (A : Option Addr) (c : Nat) (xs : List Lk) (w : World) (h : Rd (fun i => i < w.heap.size) w A (lcells xs)) (hc : xs.length ≤ c) (hm : c ≤ maxLen) :
    Calls Try.prog 9 #[.slice A xs.length c] w fun e w' => e = .returned (.bool true) ∧ Chg NoB w w' := by
  go_enter Try.func9, Try.ntmps9
  go_wp2_with fail
  refine (szLinksS_any A xs.length c w (by omega)).mono ?_
  rintro e w' ⟨x, rfl, hx, rfl⟩
  by_cases hl : 1048576 < xs.length
  · have hx0 : x < 0 := hx.2 hl
    go_wp2
    go_ret
    exact ⟨rfl, Chg.refl _ _⟩
  have hl' : xs.length ≤ 1048576 := by omega
  have hx0 : ¬ x < 0 := fun hh => hl (hx.1 hh)
  clear hx
  go_wp2_with fail
  refine (toLinksS_any _ A c xs w h hl').mono ?_
  rintro e w1 ⟨g1, rfl, hg1, hc1, hb1⟩
  go_wp2_with fail
  refine (sCloseAll_any _ _ _ xs _ hb1.rd (by omega)).mono ?_
  rintro e w2 ⟨A2, c2, ys, rfl, ho2, hy, hc2⟩
  go_wp2_with fail
  refine (toLinksS_any _ A c xs w2 (h.chg (hc1.trans hc2) fun _ _ x => x) hl').mono ?_
  rintro e w3 ⟨g3, rfl, hg3, hc3, hb3⟩
  go_wp2_with fail
  refine (iCloseAll_any _ _ _ xs _ hb3.rd).mono ?_
  rintro e w4 ⟨A4, c4, ys', rfl, ho4, hy', hc4⟩
  obtain rfl : ys' = ys := by
    by_cases hok : linksOk xs
    · rw [hy.1 hok, hy'.1 hok]
    · rw [hy.2 hok, hy'.2 hok]
  have hyl : ys'.length ≤ 1048576 := by
    by_cases hok : linksOk xs
    · rw [hy.1 hok, List.length_map]; exact hl'
    · rw [hy.2 hok]; simp
  have HY := Lib.hid hy
  clear hy hy'
  have hcA := ((hc1.trans hc2).trans hc3).trans hc4
  have ho2' := (ho2.new hc3).new hc4
  have hb3' := hb3.chg hc4 (fun x => x)
  -- g0 against w0
  go_wp2_with fail
  refine (eqLinksS_t _ _ _ _ _ _ ys' _ ho4.rd ho2'.rd (by omega)).mono ?_
  rintro e w5 ⟨rfl, hc5⟩
  go_wp2_with fail
  refine (toLinksS_any _ A c xs w5 (h.chg (hcA.trans hc5) fun _ _ x => x) hl').mono ?_
  rintro e w6 ⟨g6, rfl, hg6, hc6, hb6⟩
  go_wp2_with fail
  refine (eqLinksS_t _ _ _ _ _ _ xs _ ((hb3'.chg hc5 (fun x => x)).chg hc6 (fun x => x)).rd hb6.rd (by omega)).mono ?_
  rintro e w7 ⟨rfl, hc7⟩
  have hc57 := (hc5.trans hc6).trans hc7
  have hb3'' := hb3'.chg hc57 (fun x => x)
  have ho2'' := ho2'.new hc57
  have ho4' := ho4.new hc57
  have hcB := hcA.trans hc57
  -- marks in the argument
  go_wp2_with fail
  refine (markLinksS_any w2.heap.size w3.heap.size _ _ xs 1 _ (OwnS.of_blk hb3'' hg3 hb3.lt (Nat.le_refl _)) hl' (by omega) (by omega)).mono ?_
  rintro e w8 ⟨rfl, hc8, _⟩
  have ho2m := ho2''.chg hc8 (fun i h1 h2 => by omega)
  have ho4m := ho4'.chg hc8 (fun i h1 h2 => by omega)
  have hcC : Chg NoB w w8 := hcB.trans' hc8 (fun i hi => .inr (by have := hc1.size; have := hc2.size; omega))
  have hk0 : ¬ ((1 : Int) + 2 * (xs.length : Int) < 0) := by omega
  go_wp2_with fail
  refine (eqLinksS_t _ _ _ _ _ _ ys' _ ho4m.rd ho2m.rd (by omega)).mono ?_
  rintro e w9 ⟨rfl, hc9⟩
  -- marks in the result
  have ho4n := ho4m.new hc9
  have ho2n := ho2m.new hc9
  go_wp2_with fail
  refine (markLinksS_any _ _ _ _ ys' 1 _ ho4n hyl (by omega) (by omega)).mono ?_
  rintro e w10 ⟨rfl, hc10, ho4k⟩
  have ho2k := ho2n.chg hc10 (fun i h1 h2 => by have := hc3.size; omega)
  have hcD : Chg NoB w w10 := (hcC.trans hc9).trans' hc10 (fun i hi => .inr (by have := hc1.size; have := hc2.size; have := hc3.size; omega))
  go_wp2_with fail
  refine (heldLinksS_any _ _ _ ys'.length 1 _ ho4k.rd hyl (by omega) (by omega)).mono ?_
  rintro e w' ⟨rfl, rfl⟩
  have hm0 : ¬ ((1 : Int) + 2 * (ys'.length : Int) < 0) := by omega
  go_wp2_with fail
  refine (toLinksS_any _ A c xs w10 (h.chg hcD fun _ _ x => x) hl').mono ?_
  rintro e w11 ⟨g11, rfl, hg11, hc11, hb11⟩
  go_wp2_with fail
  refine (iCloseAll_any _ _ _ xs _ hb11.rd).mono ?_
  rintro e w12 ⟨A12, c12, ys2, rfl, ho12, hy2, hc12⟩
  obtain rfl : ys2 = ys' := by
    by_cases hok : linksOk xs
    · rw [HY.out.1 hok, hy2.1 hok]
    · rw [HY.out.2 hok, hy2.2 hok]
  clear hy2
  go_wp2_with fail
  refine (eqLinksS_t _ _ _ _ _ _ ys2 _ ho12.rd ((ho2k.new hc11).new hc12).rd (by omega)).mono ?_
  rintro e w13 ⟨rfl, hc13⟩
  go_wp2_with fail
  refine (heldLinksS_any _ _ _ ys2.length 1 _ (((ho4k.new hc11).new hc12).new hc13).rd hyl (by omega) (by omega)).mono ?_
  rintro e w' ⟨rfl, rfl⟩
  go_wp2
  go_ret
  exact ⟨rfl, ((hcD.trans hc11).trans hc12).trans hc13⟩
end Go.Proofs.Ytgfhplejdpjgoaa
