/- Draws of links. -/
import Derived.Test.YtbgepefdfioljaaKf
namespace Go.Proofs.Ytbgepefdfioljaa
open Go.RowKit

/-- Links that were drawn: they lie in blocks from B on. -/
def LDrawn (g N : Nat) (w : World) (e : Ending) (w' : World) : Prop :=
  ∃ A c xs, e = .returned (.slice A xs.length c) ∧ Rd (fun i => w.heap.size ≤ i) w' A (lcells xs) ∧ xs.length ≤ c ∧ xs.length ≤ 8 ∧ Chg (· = g) w w' ∧ Rdr w' g N

set_option maxRecDepth 100000 in
set_option maxHeartbeats 4000000 in
theorem l20Links_any (g N : Nat) (n : Int) (w : World) (h : Rdr w g N) (hN : N ≤ 1000000) (hn0 : 0 ≤ n) (hn : n ≤ 1000000) :
    Calls Try.prog 68 #[.pointer (some ⟨g, 0, none⟩), .int .i64 n] w (LDrawn g (N + 50) w) := by
  obtain ⟨i0, hi, hz0, hz1, hz2⟩ := info_parts info_links
  have hlt0 := h.lt
  go_enter Try.func68, Try.ntmps68
  go_wp2
  go_loopw [5, 6] (fun v i wr => ∃ (k : Nat) (ys : List Lk), i = .int .i64 k ∧ k ≤ 8 ∧ ys.length = k ∧ Rdr wr g (N + 2 * k) ∧ Chg (· = g) w wr ∧ wr.ownsRow w.heap.size 64 2 v k (lcells ys)) (fun _ i _ => 8 - (intOf i).toNat)
  case atStart => exact ⟨0, [], rfl, by omega, rfl, h.alloc _, (Chg.refl _ _).alloc _, own_empty w _ 2 _ (Nat.le_refl _)⟩
  case round =>
    obtain ⟨k, ys, rfl, hk, hys, hr, hch, how⟩ := hrel
    have HC := Lib.hid hch
    have HO := Lib.hid how
    have HY := Lib.hid hys
    clear hch how hys
    by_cases hlt : k < 8
    · go_wp2_with fail
      refine (pick_any g _ 3 _ hr (by omega) (by omega) (by omega)).mono ?_
      rintro e w1 ⟨a, rfl, ha, hc1, hr1⟩
      have HC1 := Lib.hid (HC.out.trans hc1)
      have HO1 := Lib.hid (own_chg HO.out hc1 (fun i hi => by omega))
      clear hc1
      go_wp2_with fail
      refine (pick_any g _ 3 _ hr1 (by omega) (by omega) (by omega)).mono ?_
      rintro e w2 ⟨b, rfl, hb, hc2, hr2⟩
      have HC2 := Lib.hid (HC1.out.trans hc2)
      have hO3 := own_chg HO1.out hc2 (fun i hi => by omega)
      have hsz := HC2.out.size
      clear hc2
      go_wp2_with (at_builtin; refine wpList_append_own _ rfl (.tmp 12) (.tmp 18) _ rfl w.heap.size 64 i0 (.agg #[.int .i64 0, .int .i64 0]) 2 16 Try.underlying57 hi hz0 hz1 hz2 rfl (by decide) _ _ _ rfl (hO3.alloc _) ⟨w2.heap.size, 0, none⟩ 1 1 [.int .i64 a, .int .i64 b] rfl rfl (cells_new _ _ _) (by simp [Value.oneCell']) (by simp only [maxLen]; omega) (by omega) (by simp; omega) ?_; intro v' w5 hown' hgrow _)
      have hR5 := (hr2.alloc _).grown hgrow (fun j hj => Nat.lt_of_lt_of_le hlt0 (hO3.lt j hj).1)
      go_roundw
      case rel =>
        refine ⟨k + 1, ys ++ [⟨(a : Int), (b : Int)⟩], by go_num, by omega, by rw [List.length_append, HY.out]; rfl, hR5.more (by omega), chg_grown (hO3.alloc _) hgrow (HC2.out.alloc _) (Nat.le_refl _), ?_⟩
        have e1 : lcells (ys ++ [⟨(a : Int), (b : Int)⟩]) = lcells ys ++ [Value.int .i64 a, Value.int .i64 b] := by unfold lcells; rw [List.flatMap_append]; rfl
        rw [e1]
        exact hown'
      case measure => simp [intOf]; omega
    · obtain rfl : k = 8 := by omega
      obtain ⟨gg, c, rest, hv, hc8, hg, hgE, hb⟩ := row_blk (n := 8) (by simpa using HO.out) (by omega)
      subst hv
      have HB := Lib.hid hb
      have hgne : gg ≠ g := by omega
      clear hb
      go_wp2_with fail
      refine (odd_any g _ 14 _ hr (by omega) (by omega) (by omega)).mono ?_
      rintro e w1 ⟨b1, rfl, _, hc1, hr1⟩
      have hB1 := HB.out.chg hc1 (fun e => hgne e)
      have HC1 := Lib.hid (HC.out.trans hc1)
      match ys, HY.out with
      | y :: yt, hyl =>
      have hB1' : Blk w1 gg 64 (.int .i64 y.names :: .int .i64 y.opens :: (lcells yt ++ rest)).toArray := hB1
      have hroom : w1.cell? ⟨gg, 0, none⟩ = some (.int .i64 y.names) := Blk.room (A := []) hB1' rfl
      have hfr : w1.frozen? ⟨gg, 0, none⟩ = false := hB1'.frozen 0
      have hF := Lib.hid (Blk.fill1 (A := []) hB1' rfl (.int .i64 5))
      have HB1 := Lib.hid hB1'
      clear hB1' hB1 hc1
      have hR1 : Rdr (w1.setCell ⟨gg, 0, none⟩ (.int .i64 5)) g (N + 2 * 8 + 1) := hr1.chg ((Chg.refl (· = gg) w1).setCell (p := ⟨gg, 0, none⟩) (.inl rfl) _) (fun i hi he => by omega)
      have hC1' : Chg (· = g) w (w1.setCell ⟨gg, 0, none⟩ (.int .i64 5)) := HC1.out.setCell (p := ⟨gg, 0, none⟩) (.inr hg) _
      have HC1' := Lib.hid hC1'
      clear hC1'
      cases b1
      case' false =>
        go_wp2_with fail
        obtain ⟨zs, hzl, hBz⟩ : ∃ zs : List Lk, zs.length = 8 ∧ Blk w1 gg 64 (lcells zs ++ rest).toArray := ⟨y :: yt, hyl, HB1.out⟩
        have hRz := hr1
        have HCz := HC1
      case' true =>
        go_wp2_with fail
        obtain ⟨zs, hzl, hBz⟩ : ∃ zs : List Lk, zs.length = 8 ∧ Blk (w1.setCell ⟨gg, 0, none⟩ (.int .i64 5)) gg 64 (lcells zs ++ rest).toArray := ⟨⟨5, y.opens⟩ :: yt, hyl, hF.out⟩
        have hRz := hR1
        have HCz := HC1'
      all_goals
        have HZ := Lib.hid hBz
        have HZL := Lib.hid hzl
        clear hBz hzl hr1 hR1 HC1 HC1' HB1 hF hroom hfr
        refine (odd_any g _ n _ hRz (by omega) hn0 hn).mono ?_
        rintro e w3 ⟨b3, rfl, _, hc3, hr3⟩
        have hZ3 := HZ.out.chg hc3 (fun e => hgne e)
        have hch3 := HCz.out.trans hc3
        have HC3 := Lib.hid hch3
        have HZ3 := Lib.hid hZ3
        clear hZ3 hc3 hch3
        cases b3
        · go_wp2
          go_ret
          refine ⟨some ⟨gg, 0, none⟩, c, zs, by rw [HZL.out]; rfl, ?_, by rw [HZL.out]; exact hc8, by rw [HZL.out]; exact Nat.le_refl _, HC3.out, hr3.more (by omega)⟩
          exact OwnS.rd (E := w3.heap.size) (n := 8) (c := c) ⟨hc8, .inr ⟨gg, rest, rfl, hg, HZ3.out.lt, HZ3.out⟩⟩ |>.mono fun _ _ hx => hx.1
        · go_wp2_with fail
          refine (pick_any g _ 2 _ hr3 (by omega) (by omega) (by omega)).mono ?_
          rintro e w4 ⟨k4, rfl, hk4, hc4, hr4⟩
          have hZ4 := HZ3.out.chg hc4 (fun e => hgne e)
          have HC4 := Lib.hid (HC3.out.trans hc4)
          have HZ4 := Lib.hid hZ4
          clear hZ4 hc4
          by_cases hk40 : k4 = 0
          · subst hk40
            have hcne : ¬ c = 1 := by omega
            have hc1 : 1 ≤ c := by omega
            go_wp2
            go_ret
            refine ⟨some ⟨gg, 2, none⟩, c - 1, zs.drop 1, by rw [List.length_drop, HZL.out]; rfl, ?_, by rw [List.length_drop, HZL.out]; omega, by rw [List.length_drop, HZL.out]; omega, HC4.out, hr4.more (by omega)⟩
            have hrd := OwnS.rd (E := w4.heap.size) (n := 8) (c := c) ⟨hc8, .inr ⟨gg, rest, rfl, hg, HZ4.out.lt, HZ4.out⟩⟩ |>.mono (G := fun i => w.heap.size ≤ i) fun _ _ hx => hx.1
            have hz0 : 0 < zs.length := by rw [HZL.out]; omega
            intro q u hq
            obtain ⟨ad, e, hf, hcell⟩ := hrd (2 + q) u (by rw [← hq, show lcells zs = _ from lcells_drop zs 0 hz0, Nat.add_comm 2 q]; rfl)
            cases e
            exact ⟨_, rfl, hf, by rw [← hcell]; congr 1; rw [← add_add']; congr 1⟩
          · have hkne : ((k4 : Int) == 0) = false := beq_eq_false_iff_ne.2 (by omega)
            clear hk40
            go_wp2_with fail
            refine (pick_any g _ 8 _ hr4 (by omega) (by omega) (by omega)).mono ?_
            rintro e w5 ⟨j, rfl, hj, hc5, hr5⟩
            have HC5 := Lib.hid (HC4.out.trans hc5)
            have HZ5 := Lib.hid (HZ4.out.chg hc5 (fun e => hgne e))
            clear hc5
            go_wp2_with fail
            have hca := (Chg.refl NoB w5).alloc (.cells #[.int .i64 (-1), .int .i64 0, .int .i64 0, .int .i64 6] 64)
            have hlit := Blk.new w5 64 #[.int .i64 (-1), .int .i64 0, .int .i64 0, .int .i64 6]
            have hlt5 := hr5.lt
            refine (pick_any g _ 2 _ (hr5.alloc _) (by omega) (by omega) (by omega)).mono ?_
            rintro e w6 ⟨l, rfl, hl, hc6, hr6⟩
            have hlit6 := hlit.chg hc6 (by omega)
            have HC6 := Lib.hid ((HC5.out.alloc (.cells #[.int .i64 (-1), .int .i64 0, .int .i64 0, .int .i64 6] 64)).trans hc6)
            have hZ6 := (HZ5.out.chg hca (fun x => x)).chg hc6 (fun e => hgne e)
            clear hca hc6 hlit
            have hjz : j < zs.length := by rw [HZL.out]; omega
            rw [lcells_split hjz, List.append_assoc] at hZ6
            have hlen : (lcells (zs.take j)).length = j * 2 := by rw [lcells_len, List.length_take]; congr 1; omega
            have hroom := hZ6.room hlen
            have hroom2 := Blk.roomAt (B := [.int .i64 zs[j].names]) (j := 1) hZ6 hlen rfl
            have hfr := hZ6.frozen (j * 2)
            have hfr2 := hZ6.frozen (j * 2 + 1)
            obtain ⟨u, v, hcell1, hcell2⟩ : ∃ u v : Int, w6.cell? ⟨w5.heap.size, l * 2, none⟩ = some (.int .i64 u) ∧ w6.cell? ⟨w5.heap.size, l * 2 + 1, none⟩ = some (.int .i64 v) := by
              obtain rfl | rfl : l = 0 ∨ l = 1 := by omega
              · exact ⟨-1, 0, by rw [hlit6.cell]; rfl, by rw [hlit6.cell]; rfl⟩
              · exact ⟨0, 6, by rw [hlit6.cell]; rfl, by rw [hlit6.cell]; rfl⟩
            have HF6 := Lib.hid (hZ6.fill2 hlen (.int .i64 u) (.int .i64 v))
            clear hZ6 hlen hlit6
            go_wp2
            go_ret
            refine ⟨some ⟨gg, 0, none⟩, c, zs.take j ++ ⟨u, v⟩ :: zs.drop (j + 1), ?_, ?_, ?_, ?_, (HC6.out.setCell (p := ⟨gg, j * 2, none⟩) (.inr hg) _).setCell (p := ⟨gg, j * 2 + 1, none⟩) (.inr hg) _, ?_⟩
            · have : (zs.take j ++ ⟨u, v⟩ :: zs.drop (j + 1)).length = 8 := by have := HZL.out; simp; omega
              rw [this]; rfl
            · have hlc : lcells (zs.take j ++ ⟨u, v⟩ :: zs.drop (j + 1)) ++ rest = lcells (zs.take j) ++ .int .i64 u :: .int .i64 v :: (lcells (zs.drop (j + 1)) ++ rest) := by
                unfold lcells; rw [List.flatMap_append, List.flatMap_cons]; simp [Lk.enc]
              have hfin := HF6.out
              have hfin' : Blk _ gg 64 (lcells (zs.take j) ++ .int .i64 u :: .int .i64 v :: (lcells (zs.drop (j + 1)) ++ rest)).toArray := hfin
              rw [← hlc] at hfin'
              exact OwnS.rd (n := 8) (c := c) ⟨hc8, .inr ⟨gg, rest, rfl, hg, hfin'.lt, hfin'⟩⟩ |>.mono fun _ _ hx => hx.1
            · have := HZL.out; simp; omega
            · have := HZL.out; simp; omega
            · exact (hr6.chg (((Chg.refl (· = gg) _).setCell (p := ⟨gg, j * 2, none⟩) (.inl rfl) _).setCell (p := ⟨gg, j * 2 + 1, none⟩) (.inl rfl) _) (fun i hi he => by omega)).more (by omega)
end Go.Proofs.Ytbgepefdfioljaa
