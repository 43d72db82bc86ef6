/- The draw for HeatRun. -/
import Derived.Test.YtdblfcmmeggpdaaDa
import Derived.Test.YtdblfcmmeggpdaaI
import Derived.Test.YtdblfcmmeggpdaaO
import Derived.Maps.AppendAt
namespace Go.Proofs.Ytdblfcmmeggpdaa
open Go.RowKit

set_option maxRecDepth 100000 in
set_option maxHeartbeats 2000000 in
theorem DrawHeatRun_any (A : Option Addr) (c : Nat) (bs : List Nat) (w : World) (h : Rd (fun i => i < w.heap.size) w A (bs.map fun (b : Nat) => Value.int .u8 (b : Int))) (hx : ∀ b ∈ bs, b < 256) (hc : bs.length ≤ c) :
    Calls Try.prog 28 #[.slice A bs.length c] w fun e w' => ∃ (A' : Option Addr) (c' : Nat) (ys : List Int), e = .returned (.slice A' ys.length c') ∧ Chg NoB w w' ∧ Rd (fun i => w.heap.size ≤ i) w' A' (icells ys) ∧ ys.length ≤ c' ∧ ys.length ≤ 50 := by
  obtain ⟨i0, hi, hz0, hz1, hz2⟩ := info_parts info_int
  have hmk : ∀ W, (Instr.makeSlice 31 (.int .i64 41) (.int .i64 41)).run Try.prog W = .ok (.slice (some ⟨W.heap.size, 0, none⟩) 41 41) (W.alloc (.cells (reps 41 [.int .i64 0]).toArray 3)) :=
    fun W => run_make_reps (P := Try.prog) 31 3 i0 (.int .i64 0) [.int .i64 0] Try.underlying31 hi hz0 rfl hz1 41 (by rw [hz2]; omega) (by omega) W
  go_enter Try.func28, Try.ntmps28
  go_wp2_with fail
  refine (l20Open_any A c bs w h hx hc).mono ?_
  rintro e w1 ⟨g, rfl, hg, hc1, hr1⟩
  have Hg := Lib.hid hg
  clear hg
  go_wp2_with fail
  have hc2 := hc1.alloc (.cells #[] 3)
  have hl1 := hr1.lt
  refine (pick_any g 0 9 _ (hr1.alloc _) (by omega) (by omega) (by omega)).mono ?_
  rintro e w2 ⟨k, rfl, hk, hc3, hr3⟩
  have hc4 := hc2.own hc3 (by rw [Hg.out]; exact Nat.le_refl _)
  have hw0 := own_chg (own_empty w1 3 1 (g + 1) hl1) hc3 (fun i hi => by omega)
  go_wp2_with fail
  have hk9 : k ≤ 8 := by omega
  clear hc2 hc3
  go_loopw [4, 5] (fun v i wr => ∃ (k N : Nat) (ys : List Int), i = .int .i64 k ∧ k ≤ 8 ∧ Rdr wr g N ∧ N + 2 * k ≤ 100 ∧ Chg NoB w wr ∧ wr.ownsRow (g + 1) 3 1 v ys.length (icells ys) ∧ ys.length + k ≤ 8) (fun _ i _ => (intOf i).toNat)
  case atStart => exact ⟨k, 1, [], rfl, hk9, hr3, by omega, hc4, hw0, by simpa using hk9⟩
  case round =>
    obtain ⟨k, N, ys, rfl, hk, hr, hN, hch, how, hys⟩ := hrel
    by_cases hlt : 0 < k
    · have HC := Lib.hid hch
      have HO := Lib.hid how
      clear hch how
      go_wp2_with fail
      refine (pick_any g N 20 _ hr (by omega) (by omega) (by omega)).mono ?_
      rintro e w3 ⟨j, rfl, hj, hd1, hr'⟩
      have HD1 := Lib.hid hd1
      clear hd1
      go_wp2_with fail
      obtain ⟨hO1, hO2, hcb⟩ := lit2 w3 3 3 #[.int .i64 j, .int .i64 0, .int .i64 100, .int .i64 (-1)] #[.int .i64 0, .int .i64 0, .int .i64 0, .int .i64 0, .int .i64 0, .int .i64 0, .int .i64 1, .int .i64 1, .int .i64 1, .int .i64 2, .int .i64 3]
      have hlt3 := hr'.lt
      refine (pick_any g (N + 1) 11 _ ((hr'.alloc _).alloc _) (by omega) (by omega) (by omega)).mono ?_
      rintro e w4 ⟨l, rfl, hl, hd2, hr4⟩
      obtain ⟨x, hx1, hx4⟩ := lit_nat (hO2.chg hd2 (by omega)) 4 l (by simp; omega) (by simp)
      obtain ⟨y, hy1⟩ := lit_cell (hO1.chg hd2 (by omega)) x (by simp; omega) (by simp)
      have hO3 := own_chg (own_chg (own_chg HO.out HD1.out (fun i hi => by omega)) hcb (fun _ _ x => x)) hd2 (fun i hi => by omega)
      have hch4 := (((HC.out.own HD1.out (by rw [Hg.out]; exact Nat.le_refl _)).trans' hcb (fun _ h => h.elim)).own hd2 (by rw [Hg.out]; exact Nat.le_refl _))
      have HCH := Lib.hid hch4
      have hlt4 := hr4.lt
      clear hd2 hO1 hO2 hcb hch4
      go_wp2_with (at_builtin; refine wpList_append_own _ rfl (.tmp 15) (.tmp 26) _ rfl (g + 1) 3 i0 (.int .i64 0) 1 8 Try.underlying31 hi hz0 hz1 hz2 rfl (by decide) _ _ _ rfl (hO3.alloc _) ⟨w4.heap.size, 0, none⟩ 1 1 [.int .i64 y] rfl rfl (cell_one_new _ _ _) (by simp [Value.oneCell']) (by simp only [maxLen]; omega) (by omega) (by simp; omega) ?_; intro v' w5 hown' hgrow _)
      have hN5 : N + 1 + 1 + 2 * (k - 1) ≤ 100 := by omega
      have hrd5 : Rdr w5 g (N + 1 + 1) := (hr4.alloc _).grown hgrow (fun k hk => (hO3.lt k hk).1)
      go_roundw
      case rel =>
        refine ⟨k - 1, N + 1 + 1, ys ++ [y], by go_num, by omega, hrd5, hN5, chg_grown (hO3.alloc _) hgrow (HCH.out.alloc _) (by rw [Hg.out]; omega), ?_, by simp; omega⟩
        have : icells (ys ++ [y]) = icells ys ++ [Value.int .i64 y] := by simp [icells]
        rw [List.length_append, this]
        exact hown'
      case measure => simp [intOf]; omega
    · have HC := Lib.hid hch
      have HO := Lib.hid how
      clear hch how
      go_wp2_with fail
      refine (odd_any g N 24 _ hr (by omega) (by omega) (by omega)).mono ?_
      rintro e w3 ⟨b, rfl, _, hd1, hr'⟩
      have hch3 := HC.out.own hd1 (by rw [Hg.out]; exact Nat.le_refl _)
      have how3 := own_chg HO.out hd1 (fun i hi => by omega)
      obtain ⟨A', c', hv, hle, hrd⟩ := own_rd how3
      subst hv
      have HB := Lib.hid (hrd.mono (G := fun i => w.heap.size ≤ i) (fun i _ hi => by have := Hg.out; omega))
      have HC3 := Lib.hid hch3
      clear hch3 how3 hrd hd1 HC HO
      cases b
      · go_wp2
        go_ret
        exact ⟨A', c', ys, rfl, HC3.out, HB.out, hle, by omega⟩
      · go_wp2
        go_ret
        have hnew := (Blk.new w3 3 (reps 41 [.int .i64 0]).toArray).rd
        refine ⟨some ⟨w3.heap.size, 0, none⟩, 41, List.replicate 41 0, rfl, HC3.out.alloc _, ?_, by simp, by simp⟩
        rw [icells_zeros]
        exact hnew.mono fun i _ hi => by subst hi; exact HC3.out.size
end Go.Proofs.Ytdblfcmmeggpdaa
