/- Laws on links: FnExactOrphans, FnExactLinkFile: the walks. -/
import Derived.Test.YtgfhplejdpjgoaaKd
import Derived.Test.YtgfhplejdpjgoaaKe
import Derived.Test.YtgfhplejdpjgoaaKf
import Derived.Test.YtgfhplejdpjgoaaIm
namespace Go.Proofs.Ytgfhplejdpjgoaa
open Go.RowKit

theorem LFile.det {xs ys zs : List Lk} {f n o : Int} {a b : Bool} (h : LFile xs f n o ys a) (h' : LFile xs f n o zs b) : zs = ys ∧ b = a := by
  by_cases ha : LArgs xs f n o
  · by_cases hl : linksOk (linked xs f.toNat n o)
    · obtain ⟨r1, r2⟩ := (h.2 ha).1 hl
      obtain ⟨q1, q2⟩ := (h'.2 ha).1 hl
      exact ⟨by rw [r1, q1], by rw [r2, q2]⟩
    · obtain ⟨r1, r2⟩ := (h.2 ha).2 hl
      obtain ⟨q1, q2⟩ := (h'.2 ha).2 hl
      exact ⟨by rw [r1, q1], by rw [r2, q2]⟩
  · obtain ⟨r1, r2⟩ := h.1 ha
    obtain ⟨q1, q2⟩ := h'.1 ha
    exact ⟨by rw [r1, q1], by rw [r2, q2]⟩
theorem LFile.len {xs ys : List Lk} {f n o : Int} {a : Bool} (h : LFile xs f n o ys a) (hl : xs.length ≤ 1048576) : ys.length ≤ 1048576 := by
  by_cases ha : LArgs xs f n o
  · have hf : f.toNat < xs.length := by have := ha.1.1; have := ha.2.1; have := ha.2.2.1; omega
    by_cases hk : linksOk (linked xs f.toNat n o)
    · rw [((h.2 ha).1 hk).1, linked_len hf]; exact hl
    · rw [((h.2 ha).2 hk).1]; exact hl
  · rw [(h.1 ha).1]; simp

set_option maxHeartbeats 2000000 in
theorem FnExactOrphans_any (A : Option Addr) (c : Nat) (xs : List Lk) (w : World) (h : Rd (fun i => i < w.heap.size) w A (lcells xs)) (hc : xs.length ≤ c) (hm : c ≤ maxLen) :
    Calls Try.prog 11 #[.slice A xs.length c] w fun e w' => e = .returned (.bool true) ∧ Chg NoB w w' := by
  go_enter Try.func11, Try.ntmps11
  go_wp2_with fail
  refine (szLinksS_any A xs.length c w (by omega)).mono ?_
  rintro e w' ⟨x, rfl, hx, rfl⟩
  by_cases hl : 1048576 < xs.length
  · have hx0 : x < 0 := hx.2 hl
    go_wp2
    go_ret
    exact ⟨rfl, Chg.refl _ _⟩
  have hl' : xs.length ≤ 1048576 := by omega
  have hx0 : ¬ x < 0 := fun hh => hl (hx.1 hh)
  clear hx
  go_wp2_with fail
  refine (toLinksS_any _ A c xs w h hl').mono ?_
  rintro e w1 ⟨g1, rfl, hg1, hc1, hb1⟩
  go_wp2_with fail
  refine (sOrphans_any _ _ _ xs _ hb1.rd (by omega)).mono ?_
  rintro e w2 ⟨A2, c2, ys, rfl, ho2, hy, hc2⟩
  go_wp2_with fail
  refine (toLinksS_any _ A c xs w2 (h.chg (hc1.trans hc2) fun _ _ x => x) hl').mono ?_
  rintro e w3 ⟨g3, rfl, hg3, hc3, hb3⟩
  go_wp2_with fail
  refine (iOrphans_any _ _ _ xs _ hb3.rd).mono ?_
  rintro e w4 ⟨A4, c4, ys', rfl, ho4, hy', hc4⟩
  obtain rfl : ys' = ys := by
    by_cases hok : linksOk xs
    · rw [hy.1 hok, hy'.1 hok]
    · rw [hy.2 hok, hy'.2 hok]
  have hyl : ys'.length ≤ 1048576 := by
    by_cases hok : linksOk xs
    · rw [hy.1 hok]; exact Nat.le_trans (orphN_len _ _) hl'
    · rw [hy.2 hok]; simp
  have HY := Lib.hid hy
  clear hy hy'
  have hcA := ((hc1.trans hc2).trans hc3).trans hc4
  have ho2' := (ho2.new hc3).new hc4
  have hb3' := hb3.chg hc4 (fun x => x)
  -- g0 against w0
  go_wp2_with fail
  refine (eqIntS_t _ _ _ _ _ _ ys' _ ho4.rd ho2'.rd (by omega)).mono ?_
  rintro e w5 ⟨rfl, m5, hw5⟩
  have hc5 : Chg NoB w4 w5 := by rw [hw5]; exact (Chg.refl _ _).drewN _
  clear hw5
  go_wp2_with fail
  refine (toLinksS_any _ A c xs w5 (h.chg (hcA.trans hc5) fun _ _ x => x) hl').mono ?_
  rintro e w6 ⟨g6, rfl, hg6, hc6, hb6⟩
  go_wp2_with fail
  refine (eqLinksS_t _ _ _ _ _ _ xs _ ((hb3'.chg hc5 (fun x => x)).chg hc6 (fun x => x)).rd hb6.rd (by omega)).mono ?_
  rintro e w7 ⟨rfl, hc7⟩
  have hc57 := (hc5.trans hc6).trans hc7
  have hb3'' := hb3'.chg hc57 (fun x => x)
  have ho2'' := ho2'.new hc57
  have ho4' := ho4.new hc57
  have hcB := hcA.trans hc57
  -- marks in the argument
  go_wp2_with fail
  refine (markLinksS_any w2.heap.size w3.heap.size _ _ xs 1 _ (OwnS.of_blk hb3'' hg3 hb3.lt (Nat.le_refl _)) hl' (by omega) (by omega)).mono ?_
  rintro e w8 ⟨rfl, hc8, _⟩
  have ho2m := ho2''.chg hc8 (fun i h1 h2 => by omega)
  have ho4m := ho4'.chg hc8 (fun i h1 h2 => by omega)
  have hcC : Chg NoB w w8 := hcB.trans' hc8 (fun i hi => .inr (by have := hc1.size; have := hc2.size; omega))
  have hk0 : ¬ ((1 : Int) + 2 * (xs.length : Int) < 0) := by omega
  go_wp2_with fail
  refine (eqIntS_t _ _ _ _ _ _ ys' _ ho4m.rd ho2m.rd (by omega)).mono ?_
  rintro e w9 ⟨rfl, m9, hw9⟩
  have hc9 : Chg NoB w8 w9 := by rw [hw9]; exact (Chg.refl _ _).drewN _
  clear hw9
  -- marks in the result
  have ho4n := ho4m.new hc9
  have ho2n := ho2m.new hc9
  go_wp2_with fail
  refine (markIntS_any _ _ _ _ ys' 1 _ ho4n hyl (by omega) (by omega)).mono ?_
  rintro e w10 ⟨rfl, hc10, ho4k⟩
  have ho2k := ho2n.chg hc10 (fun i h1 h2 => by have := hc3.size; omega)
  have hcD : Chg NoB w w10 := (hcC.trans hc9).trans' hc10 (fun i hi => .inr (by have := hc1.size; have := hc2.size; have := hc3.size; omega))
  go_wp2_with fail
  refine (heldIntS_any _ _ _ ys'.length 1 _ ho4k.rd hyl (by omega) (by omega)).mono ?_
  rintro e w' ⟨rfl, rfl⟩
  have hm0 : ¬ ((1 : Int) + (ys'.length : Int) < 0) := by omega
  go_wp2_with fail
  refine (toLinksS_any _ A c xs w10 (h.chg hcD fun _ _ x => x) hl').mono ?_
  rintro e w11 ⟨g11, rfl, hg11, hc11, hb11⟩
  go_wp2_with fail
  refine (iOrphans_any _ _ _ xs _ hb11.rd).mono ?_
  rintro e w12 ⟨A12, c12, ys2, rfl, ho12, hy2, hc12⟩
  obtain rfl : ys2 = ys' := by
    by_cases hok : linksOk xs
    · rw [HY.out.1 hok, hy2.1 hok]
    · rw [HY.out.2 hok, hy2.2 hok]
  clear hy2
  go_wp2_with fail
  refine (eqIntS_t _ _ _ _ _ _ ys2 _ ho12.rd ((ho2k.new hc11).new hc12).rd (by omega)).mono ?_
  rintro e w13 ⟨rfl, m13, hw13⟩
  have hc13 : Chg NoB w12 w13 := by rw [hw13]; exact (Chg.refl _ _).drewN _
  clear hw13
  go_wp2_with fail
  refine (heldIntS_any _ _ _ ys2.length 1 _ (((ho4k.new hc11).new hc12).new hc13).rd hyl (by omega) (by omega)).mono ?_
  rintro e w' ⟨rfl, rfl⟩
  go_wp2
  go_ret
  exact ⟨rfl, ((hcD.trans hc11).trans hc12).trans hc13⟩

set_option maxHeartbeats 2000000 in
theorem FnExactLinkFile_any (A : Option Addr) (c : Nat) (xs : List Lk) (f nn oo : Int) (w : World) (h : Rd (fun i => i < w.heap.size) w A (lcells xs)) (hc : xs.length ≤ c) (hm : c ≤ maxLen) :
    Calls Try.prog 12 #[.slice A xs.length c, .int .i64 f, .int .i64 nn, .int .i64 oo] w fun e w' => e = .returned (.bool true) ∧ Chg NoB w w' := by
  go_enter Try.func12, Try.ntmps12
  go_wp2_with fail
  refine (szLinksS_any A xs.length c w (by omega)).mono ?_
  rintro e w' ⟨x, rfl, hx, rfl⟩
  by_cases hl : 1048576 < xs.length
  · have hx0 : x < 0 := hx.2 hl
    go_wp2
    go_ret
    exact ⟨rfl, Chg.refl _ _⟩
  have hl' : xs.length ≤ 1048576 := by omega
  have hx0 : ¬ x < 0 := fun hh => hl (hx.1 hh)
  clear hx
  go_wp2_with fail
  refine (toLinksS_any _ A c xs w h hl').mono ?_
  rintro e w1 ⟨g1, rfl, hg1, hc1, hb1⟩
  go_wp2_with fail
  refine (sLinkFile_any _ _ _ xs f nn oo _ hb1.rd (by omega)).mono ?_
  rintro e w2 ⟨A2, c2, ys, b2, rfl, ho2, hy, hc2⟩
  go_wp2_with fail
  refine (toLinksS_any _ A c xs w2 (h.chg (hc1.trans hc2) fun _ _ x => x) hl').mono ?_
  rintro e w3 ⟨g3, rfl, hg3, hc3, hb3⟩
  go_wp2_with fail
  refine (iLinkFile_any _ _ _ xs f nn oo _ hb3.rd).mono ?_
  rintro e w4 ⟨A4, c4, ys, b4, rfl, ho4, hy', hc4⟩
  obtain ⟨rfl, rfl⟩ := LFile.det hy hy'
  have hyl : ys.length ≤ 1048576 := hy.len hl'
  have HY := Lib.hid hy
  clear hy hy'
  have hcA := ((hc1.trans hc2).trans hc3).trans hc4
  have ho2' := (ho2.new hc3).new hc4
  have hb3' := hb3.chg hc4 (fun x => x)
  -- g0 against w0
  go_wp2_with fail
  refine (eqLinksS_t _ _ _ _ _ _ ys _ ho4.rd ho2'.rd (by omega)).mono ?_
  rintro e w5 ⟨rfl, hc5⟩
  go_wp2_with fail
  refine (toLinksS_any _ A c xs w5 (h.chg (hcA.trans hc5) fun _ _ x => x) hl').mono ?_
  rintro e w6 ⟨g6, rfl, hg6, hc6, hb6⟩
  go_wp2_with fail
  refine (eqLinksS_t _ _ _ _ _ _ xs _ ((hb3'.chg hc5 (fun x => x)).chg hc6 (fun x => x)).rd hb6.rd (by omega)).mono ?_
  rintro e w7 ⟨rfl, hc7⟩
  have hc57 := (hc5.trans hc6).trans hc7
  have hb3'' := hb3'.chg hc57 (fun x => x)
  have ho2'' := ho2'.new hc57
  have ho4' := ho4.new hc57
  have hcB := hcA.trans hc57
  -- marks in the argument
  go_wp2_with fail
  refine (markLinksS_any w2.heap.size w3.heap.size _ _ xs 1 _ (OwnS.of_blk hb3'' hg3 hb3.lt (Nat.le_refl _)) hl' (by omega) (by omega)).mono ?_
  rintro e w8 ⟨rfl, hc8, _⟩
  have ho2m := ho2''.chg hc8 (fun i h1 h2 => by omega)
  have ho4m := ho4'.chg hc8 (fun i h1 h2 => by omega)
  have hcC : Chg NoB w w8 := hcB.trans' hc8 (fun i hi => .inr (by have := hc1.size; have := hc2.size; omega))
  have hk0 : ¬ ((1 : Int) + 2 * (xs.length : Int) < 0) := by omega
  go_wp2_with fail
  refine (eqLinksS_t _ _ _ _ _ _ ys _ ho4m.rd ho2m.rd (by omega)).mono ?_
  rintro e w9 ⟨rfl, hc9⟩
  -- marks in the result
  have ho4n := ho4m.new hc9
  have ho2n := ho2m.new hc9
  go_wp2_with fail
  refine (markLinksS_any _ _ _ _ ys 1 _ ho4n hyl (by omega) (by omega)).mono ?_
  rintro e w10 ⟨rfl, hc10, ho4k⟩
  have ho2k := ho2n.chg hc10 (fun i h1 h2 => by have := hc3.size; omega)
  have hcD : Chg NoB w w10 := (hcC.trans hc9).trans' hc10 (fun i hi => .inr (by have := hc1.size; have := hc2.size; have := hc3.size; omega))
  go_wp2_with fail
  refine (heldLinksS_any _ _ _ ys.length 1 _ ho4k.rd hyl (by omega) (by omega)).mono ?_
  rintro e w' ⟨rfl, rfl⟩
  have hm0 : ¬ ((1 : Int) + 2 * (ys.length : Int) < 0) := by omega
  go_wp2_with fail
  refine (toLinksS_any _ A c xs w10 (h.chg hcD fun _ _ x => x) hl').mono ?_
  rintro e w11 ⟨g11, rfl, hg11, hc11, hb11⟩
  go_wp2_with fail
  refine (iLinkFile_any _ _ _ xs f nn oo _ hb11.rd).mono ?_
  rintro e w12 ⟨A12, c12, ys2, b12, rfl, ho12, hy2, hc12⟩
  obtain ⟨rfl, rfl⟩ := LFile.det hy2 HY.out
  clear hy2
  go_wp2_with fail
  refine (eqLinksS_t _ _ _ _ _ _ ys _ ho12.rd ((ho2k.new hc11).new hc12).rd (by omega)).mono ?_
  rintro e w13 ⟨rfl, hc13⟩
  go_wp2_with fail
  refine (heldLinksS_any _ _ _ ys.length 1 _ (((ho4k.new hc11).new hc12).new hc13).rd hyl (by omega) (by omega)).mono ?_
  rintro e w' ⟨rfl, rfl⟩
  go_wp2
  go_ret
  exact ⟨rfl, ((hcD.trans hc11).trans hc12).trans hc13⟩
end Go.Proofs.Ytgfhplejdpjgoaa
