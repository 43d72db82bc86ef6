/- The law FnExactLoadTable: the walk. -/
import Derived.Test.YtbgepefdfioljaaTm
import Derived.Test.YtbgepefdfioljaaTu
import Derived.Deep.RegionHeld3
namespace Go.Proofs.Ytbgepefdfioljaa
open Go.RowKit
theorem load_total {n s : Int} {xs : List Int} {X : List (List Int)} {b : Bool} (h : LoadIs n xs s X b) : total X ≤ 1048576 ∧ X.length ≤ 9223372036854775807 ∧ ∀ r ∈ X, r.length ≤ 9223372036854775807 := by
  by_cases ha : loadArgs n xs s
  · obtain ⟨rfl, -⟩ := h.1 ha
    have h48 := ha.1
    have hr : ∀ r ∈ chunks xs, r.length = 6 := fun r hr => by
      obtain ⟨k, hk, rfl⟩ := List.getElem_of_mem hr
      rw [chunks_len] at hk
      rw [chunks_get, chunk_len h48 hk]
    have hl := chunks_len xs
    have ht : total (chunks xs) ≤ 1048576 := by
      have : ∀ (l : List (List Int)), (∀ r ∈ l, r.length = 6) → (l.map List.length).sum = 6 * l.length := by
        intro l
        induction l with
        | nil => intro _; rfl
        | cons x l ih => intro h; rw [List.map_cons, List.sum_cons, ih (fun r hr => h r (List.mem_cons_of_mem _ hr)), h x (List.mem_cons_self), List.length_cons]; omega
      unfold total
      have h3 := this _ hr
      omega
    exact ⟨ht, by omega, fun r h => by rw [hr r h]; omega⟩
  · obtain ⟨rfl, -⟩ := h.2 ha
    exact ⟨by simp [total], by simp, by simp⟩
set_option maxRecDepth 100000 in
set_option maxHeartbeats 4000000 in
theorem FnExactLoadTable_any (v : Value) (x : SvA) (w : World) (hx : SavIn w v x) :
    Calls Try.prog 6 #[v] w fun e w' => e = .returned (.bool true) ∧ Chg NoB w w' := by
  obtain ⟨n, A, c, xs, s⟩ := x
  obtain ⟨rfl, h, hlc, hcm⟩ := hx
  simp only at h hlc hcm
  go_enter Try.func6, Try.ntmps6
  go_wp2_with fail
  have HCH := Lib.hid (Chg.refl NoB w)
  have HX := Lib.hid h
  clear h
  obtain ⟨w1, hw1⟩ : ∃ w1, w.alloc (.cells #[.int .i64 n, .slice A xs.length c, .int .i64 s] 46) = w1 := ⟨_, rfl⟩
  try rw [hw1]
  have q2 : Chg NoB w w1 := by rw [← hw1]; exact (Chg.refl _ _).alloc _
  have bq2 : Blk w1 w.heap.size 46 #[.int .i64 n, .slice A xs.length c, .int .i64 s] := by rw [← hw1]; exact Blk.new _ _ _
  have sq2 : w1.heap.size = w.heap.size + 1 := by rw [← hw1]; exact World.size_alloc ..
  clear hw1
  replace HCH := Lib.hid (HCH.out.trans q2)
  replace HX := Lib.hid (HX.out.new q2)
  have S3 := Lib.hid q2.size
  have S4 := Lib.hid sq2
  have HB_in := Lib.hid bq2
  have z_in_0 : w1.cell? ⟨w.heap.size, 0, none⟩ = some (.int .i64 n) := (HB_in.out.cell _).trans rfl
  have z_in_1 : w1.cell? ⟨w.heap.size, 1, none⟩ = some (.slice A xs.length c) := (HB_in.out.cell _).trans rfl
  have z_in_2 : w1.cell? ⟨w.heap.size, 2, none⟩ = some (.int .i64 s) := (HB_in.out.cell _).trans rfl
  clear q2 sq2 bq2
  refine (szSave_g n s A xs.length c 1048576 _ (by omega) (by omega) (by omega)).mono ?_
  rintro e w5 ⟨rfl, hc6⟩
  replace HCH := Lib.hid (HCH.out.trans hc6)
  replace HB_in := Lib.hid (HB_in.out.chg hc6 (fun x => x))
  replace z_in_0 := Chg.cell hc6 z_in_0 (fun x => x)
  replace z_in_1 := Chg.cell hc6 z_in_1 (fun x => x)
  replace z_in_2 := Chg.cell hc6 z_in_2 (fun x => x)
  replace HX := Lib.hid (HX.out.new hc6)
  have S7 := Lib.hid hc6.size
  by_cases hl : 1048576 < xs.length
  · have hs : szOf 1048576 xs.length = -1 := by unfold szOf; rw [if_pos (by omega)]
    rw [hs]
    go_wp2
    go_ret
    exact ⟨rfl, HCH.out⟩
  have hl' : xs.length ≤ 1048576 := by omega
  have hs : szOf 1048576 xs.length = 1048576 - (xs.length : Int) := by unfold szOf; rw [if_neg (by omega)]
  rw [hs]
  have hnn : ¬ (1048576 - (xs.length : Int) < 0) := by omega
  have HL := Lib.hid hl'
  clear hs hl hlc hcm hl' 
  go_wp2_with fail
  refine (toSave_any _ n s A c xs _ HX.out HL.out).mono ?_
  rintro e w8 ⟨g1, rfl, hO1, hc9⟩
  replace HCH := Lib.hid (HCH.out.trans hc9)
  replace HB_in := Lib.hid (HB_in.out.chg hc9 (fun x => x))
  replace z_in_0 := Chg.cell hc9 z_in_0 (fun x => x)
  replace z_in_1 := Chg.cell hc9 z_in_1 (fun x => x)
  replace z_in_2 := Chg.cell hc9 z_in_2 (fun x => x)
  replace HX := Lib.hid (HX.out.new hc9)
  have S10 := Lib.hid hc9.size
  have O1 := Lib.hid hO1
  clear hO1 hc9
  go_wp2_with fail
  refine (sLoadTable_any _ n s _ xs.length xs _ O1.out.rd (by omega) (by have := HL.out; omega)).mono ?_
  rintro e w11 ⟨A0, c0, T0, b0, rfl, hO0, hI0, hc12⟩
  replace HCH := Lib.hid (HCH.out.trans hc12)
  replace HB_in := Lib.hid (HB_in.out.chg hc12 (fun x => x))
  replace z_in_0 := Chg.cell hc12 z_in_0 (fun x => x)
  replace z_in_1 := Chg.cell hc12 z_in_1 (fun x => x)
  replace z_in_2 := Chg.cell hc12 z_in_2 (fun x => x)
  replace HX := Lib.hid (HX.out.new hc12)
  replace O1 := Lib.hid (O1.out.new hc12)
  have S13 := Lib.hid hc12.size
  clear O1
  obtain ⟨X, hX⟩ : ∃ X, listsOf T0 = X := ⟨_, rfl⟩
  rw [hX] at hI0
  have hX0 := Lib.hid hX
  clear hX
  have HTT := Lib.hid (load_total hI0.out)
  have hlen0 : T0.length = X.length := by rw [← hX0.out, listsOf_length]
  rw [hlen0]
  have HLN0 := Lib.hid hlen0
  clear hlen0
  have hR0 := hO0.reads
  rw [hX0.out] at hR0
  have R0 := Lib.hid hR0
  clear hR0 hO0 hc12
  have zz_in_0 := Chg.cell ((Chg.refl NoB w11).alloc (.cells #[.slice A0 X.length c0] 39)) z_in_0 (fun x => x)
  have zz_in_1 := Chg.cell ((Chg.refl NoB w11).alloc (.cells #[.slice A0 X.length c0] 39)) z_in_1 (fun x => x)
  have zz_in_2 := Chg.cell ((Chg.refl NoB w11).alloc (.cells #[.slice A0 X.length c0] 39)) z_in_2 (fun x => x)
  go_wp2_with fail
  clear zz_in_0 zz_in_1 zz_in_2
  obtain ⟨w14, hw14⟩ : ∃ w14, w11.alloc (.cells #[.slice A0 X.length c0] 39) = w14 := ⟨_, rfl⟩
  try rw [hw14]
  have q15 : Chg NoB w11 w14 := by rw [← hw14]; exact (Chg.refl _ _).alloc _
  have bq15 : Blk w14 w11.heap.size 39 #[.slice A0 X.length c0] := by rw [← hw14]; exact Blk.new _ _ _
  have sq15 : w14.heap.size = w11.heap.size + 1 := by rw [← hw14]; exact World.size_alloc ..
  clear hw14
  replace HCH := Lib.hid (HCH.out.trans q15)
  replace HB_in := Lib.hid (HB_in.out.chg q15 (fun x => x))
  replace z_in_0 := Chg.cell q15 z_in_0 (fun x => x)
  replace z_in_1 := Chg.cell q15 z_in_1 (fun x => x)
  replace z_in_2 := Chg.cell q15 z_in_2 (fun x => x)
  replace HX := Lib.hid (HX.out.new q15)
  replace R0 := Lib.hid (R0.out.new q15)
  have S16 := Lib.hid q15.size
  have S17 := Lib.hid sq15
  have HB_w0 := Lib.hid bq15
  have z_w0_0 : w14.cell? ⟨w11.heap.size, 0, none⟩ = some (.slice A0 X.length c0) := (HB_w0.out.cell _).trans rfl
  clear q15 sq15 bq15
  refine (toSave_any _ n s A c xs _ HX.out HL.out).mono ?_
  rintro e w18 ⟨g2, rfl, hO2, hc19⟩
  replace HCH := Lib.hid (HCH.out.trans hc19)
  replace HB_in := Lib.hid (HB_in.out.chg hc19 (fun x => x))
  replace z_in_0 := Chg.cell hc19 z_in_0 (fun x => x)
  replace z_in_1 := Chg.cell hc19 z_in_1 (fun x => x)
  replace z_in_2 := Chg.cell hc19 z_in_2 (fun x => x)
  replace HB_w0 := Lib.hid (HB_w0.out.chg hc19 (fun x => x))
  replace z_w0_0 := Chg.cell hc19 z_w0_0 (fun x => x)
  replace HX := Lib.hid (HX.out.new hc19)
  replace R0 := Lib.hid (R0.out.new hc19)
  have S20 := Lib.hid hc19.size
  have O2 := Lib.hid hO2
  clear hO2 hc19
  have zz_in_0 := Chg.cell ((Chg.refl NoB w18).alloc (.cells #[.int .i64 n, .slice (some ⟨g2, 0, none⟩) xs.length xs.length, .int .i64 s] 37)) z_in_0 (fun x => x)
  have zz_in_1 := Chg.cell ((Chg.refl NoB w18).alloc (.cells #[.int .i64 n, .slice (some ⟨g2, 0, none⟩) xs.length xs.length, .int .i64 s] 37)) z_in_1 (fun x => x)
  have zz_in_2 := Chg.cell ((Chg.refl NoB w18).alloc (.cells #[.int .i64 n, .slice (some ⟨g2, 0, none⟩) xs.length xs.length, .int .i64 s] 37)) z_in_2 (fun x => x)
  have zz_w0_0 := Chg.cell ((Chg.refl NoB w18).alloc (.cells #[.int .i64 n, .slice (some ⟨g2, 0, none⟩) xs.length xs.length, .int .i64 s] 37)) z_w0_0 (fun x => x)
  go_wp2_with fail
  clear zz_in_0 zz_in_1 zz_in_2 zz_w0_0
  obtain ⟨w21, hw21⟩ : ∃ w21, w18.alloc (.cells #[.int .i64 n, .slice (some ⟨g2, 0, none⟩) xs.length xs.length, .int .i64 s] 37) = w21 := ⟨_, rfl⟩
  try rw [hw21]
  have q22 : Chg NoB w18 w21 := by rw [← hw21]; exact (Chg.refl _ _).alloc _
  have bq22 : Blk w21 w18.heap.size 37 #[.int .i64 n, .slice (some ⟨g2, 0, none⟩) xs.length xs.length, .int .i64 s] := by rw [← hw21]; exact Blk.new _ _ _
  have sq22 : w21.heap.size = w18.heap.size + 1 := by rw [← hw21]; exact World.size_alloc ..
  clear hw21
  replace HCH := Lib.hid (HCH.out.trans q22)
  replace HB_in := Lib.hid (HB_in.out.chg q22 (fun x => x))
  replace z_in_0 := Chg.cell q22 z_in_0 (fun x => x)
  replace z_in_1 := Chg.cell q22 z_in_1 (fun x => x)
  replace z_in_2 := Chg.cell q22 z_in_2 (fun x => x)
  replace HB_w0 := Lib.hid (HB_w0.out.chg q22 (fun x => x))
  replace z_w0_0 := Chg.cell q22 z_w0_0 (fun x => x)
  replace HX := Lib.hid (HX.out.new q22)
  replace R0 := Lib.hid (R0.out.new q22)
  replace O2 := Lib.hid (O2.out.new q22)
  have S23 := Lib.hid q22.size
  have S24 := Lib.hid sq22
  have HB_x0 := Lib.hid bq22
  have z_x0_0 : w21.cell? ⟨w18.heap.size, 0, none⟩ = some (.int .i64 n) := (HB_x0.out.cell _).trans rfl
  have z_x0_1 : w21.cell? ⟨w18.heap.size, 1, none⟩ = some (.slice (some ⟨g2, 0, none⟩) xs.length xs.length) := (HB_x0.out.cell _).trans rfl
  have z_x0_2 : w21.cell? ⟨w18.heap.size, 2, none⟩ = some (.int .i64 s) := (HB_x0.out.cell _).trans rfl
  clear q22 sq22 bq22
  refine (iLoadTable_any _ n s _ xs.length xs _ O2.out.rd (by omega) (by have := HL.out; omega)).mono ?_
  rintro e w25 ⟨A1, c1, T1, b1, rfl, hO1, hI1, hc26⟩
  replace HCH := Lib.hid (HCH.out.trans hc26)
  replace HB_in := Lib.hid (HB_in.out.chg hc26 (fun x => x))
  replace z_in_0 := Chg.cell hc26 z_in_0 (fun x => x)
  replace z_in_1 := Chg.cell hc26 z_in_1 (fun x => x)
  replace z_in_2 := Chg.cell hc26 z_in_2 (fun x => x)
  replace HB_w0 := Lib.hid (HB_w0.out.chg hc26 (fun x => x))
  replace z_w0_0 := Chg.cell hc26 z_w0_0 (fun x => x)
  replace HB_x0 := Lib.hid (HB_x0.out.chg hc26 (fun x => x))
  replace z_x0_0 := Chg.cell hc26 z_x0_0 (fun x => x)
  replace z_x0_1 := Chg.cell hc26 z_x0_1 (fun x => x)
  replace z_x0_2 := Chg.cell hc26 z_x0_2 (fun x => x)
  replace HX := Lib.hid (HX.out.new hc26)
  replace R0 := Lib.hid (R0.out.new hc26)
  replace O2 := Lib.hid (O2.out.new hc26)
  have S27 := Lib.hid hc26.size
  obtain ⟨hXX, hbb⟩ := hI1.out.det hI0.out
  subst hbb
  have hX1 := Lib.hid hXX
  clear hXX
  have hlen1 : T1.length = X.length := by rw [← hX1.out, listsOf_length]
  rw [hlen1]
  have HLN1 := Lib.hid hlen1
  clear hlen1
  have hR1 := hO1.reads
  rw [hX1.out] at hR1
  have R1 := Lib.hid hR1
  have OT1 := Lib.hid hO1
  clear hR1 hO1 hc26
  have hbn : (b1 != b1) = false := by cases b1 <;> rfl
  have zz_in_0 := Chg.cell ((Chg.refl NoB w25).alloc (.cells #[.slice A1 X.length c1] 39)) z_in_0 (fun x => x)
  have zz_in_1 := Chg.cell ((Chg.refl NoB w25).alloc (.cells #[.slice A1 X.length c1] 39)) z_in_1 (fun x => x)
  have zz_in_2 := Chg.cell ((Chg.refl NoB w25).alloc (.cells #[.slice A1 X.length c1] 39)) z_in_2 (fun x => x)
  have zz_w0_0 := Chg.cell ((Chg.refl NoB w25).alloc (.cells #[.slice A1 X.length c1] 39)) z_w0_0 (fun x => x)
  have zz_x0_0 := Chg.cell ((Chg.refl NoB w25).alloc (.cells #[.slice A1 X.length c1] 39)) z_x0_0 (fun x => x)
  have zz_x0_1 := Chg.cell ((Chg.refl NoB w25).alloc (.cells #[.slice A1 X.length c1] 39)) z_x0_1 (fun x => x)
  have zz_x0_2 := Chg.cell ((Chg.refl NoB w25).alloc (.cells #[.slice A1 X.length c1] 39)) z_x0_2 (fun x => x)
  go_wp2_with fail
  clear zz_in_0 zz_in_1 zz_in_2 zz_w0_0 zz_x0_0 zz_x0_1 zz_x0_2
  obtain ⟨w28, hw28⟩ : ∃ w28, w25.alloc (.cells #[.slice A1 X.length c1] 39) = w28 := ⟨_, rfl⟩
  try rw [hw28]
  have q29 : Chg NoB w25 w28 := by rw [← hw28]; exact (Chg.refl _ _).alloc _
  have bq29 : Blk w28 w25.heap.size 39 #[.slice A1 X.length c1] := by rw [← hw28]; exact Blk.new _ _ _
  have sq29 : w28.heap.size = w25.heap.size + 1 := by rw [← hw28]; exact World.size_alloc ..
  clear hw28
  replace HCH := Lib.hid (HCH.out.trans q29)
  replace HB_in := Lib.hid (HB_in.out.chg q29 (fun x => x))
  replace z_in_0 := Chg.cell q29 z_in_0 (fun x => x)
  replace z_in_1 := Chg.cell q29 z_in_1 (fun x => x)
  replace z_in_2 := Chg.cell q29 z_in_2 (fun x => x)
  replace HB_w0 := Lib.hid (HB_w0.out.chg q29 (fun x => x))
  replace z_w0_0 := Chg.cell q29 z_w0_0 (fun x => x)
  replace HB_x0 := Lib.hid (HB_x0.out.chg q29 (fun x => x))
  replace z_x0_0 := Chg.cell q29 z_x0_0 (fun x => x)
  replace z_x0_1 := Chg.cell q29 z_x0_1 (fun x => x)
  replace z_x0_2 := Chg.cell q29 z_x0_2 (fun x => x)
  replace HX := Lib.hid (HX.out.new q29)
  replace R0 := Lib.hid (R0.out.new q29)
  replace O2 := Lib.hid (O2.out.new q29)
  replace R1 := Lib.hid (R1.out.new q29)
  replace OT1 := Lib.hid (OT1.out.new q29)
  have S30 := Lib.hid q29.size
  have S31 := Lib.hid sq29
  have HB_g0 := Lib.hid bq29
  have z_g0_0 : w28.cell? ⟨w25.heap.size, 0, none⟩ = some (.slice A1 X.length c1) := (HB_g0.out.cell _).trans rfl
  clear q29 sq29 bq29
  refine (eqTable_t _ _ _ _ _ _ X _ R1.out R0.out HTT.out.2.1 HTT.out.2.2).mono ?_
  rintro e w32 ⟨rfl, hc33⟩
  replace HCH := Lib.hid (HCH.out.trans hc33)
  replace HB_in := Lib.hid (HB_in.out.chg hc33 (fun x => x))
  replace z_in_0 := Chg.cell hc33 z_in_0 (fun x => x)
  replace z_in_1 := Chg.cell hc33 z_in_1 (fun x => x)
  replace z_in_2 := Chg.cell hc33 z_in_2 (fun x => x)
  replace HB_w0 := Lib.hid (HB_w0.out.chg hc33 (fun x => x))
  replace z_w0_0 := Chg.cell hc33 z_w0_0 (fun x => x)
  replace HB_x0 := Lib.hid (HB_x0.out.chg hc33 (fun x => x))
  replace z_x0_0 := Chg.cell hc33 z_x0_0 (fun x => x)
  replace z_x0_1 := Chg.cell hc33 z_x0_1 (fun x => x)
  replace z_x0_2 := Chg.cell hc33 z_x0_2 (fun x => x)
  replace HB_g0 := Lib.hid (HB_g0.out.chg hc33 (fun x => x))
  replace z_g0_0 := Chg.cell hc33 z_g0_0 (fun x => x)
  replace HX := Lib.hid (HX.out.new hc33)
  replace R0 := Lib.hid (R0.out.new hc33)
  replace O2 := Lib.hid (O2.out.new hc33)
  replace R1 := Lib.hid (R1.out.new hc33)
  replace OT1 := Lib.hid (OT1.out.new hc33)
  have S34 := Lib.hid hc33.size
  clear hc33
  go_wp2_with fail
  go_region_held3 (fun w' => w'.cell? ⟨w.heap.size, 0, none⟩ = some (.int .i64 n) ∧ w'.cell? ⟨w.heap.size, 1, none⟩ = some (.slice A xs.length c) ∧ w'.cell? ⟨w.heap.size, 2, none⟩ = some (.int .i64 s) ∧ w'.cell? ⟨w18.heap.size, 0, none⟩ = some (.int .i64 n) ∧ w'.cell? ⟨w18.heap.size, 1, none⟩ = some (.slice (some ⟨g2, 0, none⟩) xs.length xs.length) ∧ w'.cell? ⟨w18.heap.size, 2, none⟩ = some (.int .i64 s))
    (first | go_keep | exact ⟨hcc.cell (by assumption) (fun x => x), hcc.cell (by assumption) (fun x => x), hcc.cell (by assumption) (fun x => x), hcc.cell (by assumption) (fun x => x), hcc.cell (by assumption) (fun x => x), hcc.cell (by assumption) (fun x => x)⟩ | exact ⟨(HK.out.trans hcc).cell (by assumption) (fun x => x), (HK.out.trans hcc).cell (by assumption) (fun x => x), (HK.out.trans hcc).cell (by assumption) (fun x => x), (HK.out.trans hcc).cell (by assumption) (fun x => x), (HK.out.trans hcc).cell (by assumption) (fun x => x), (HK.out.trans hcc).cell (by assumption) (fun x => x)⟩)
    (first
      | (go_at_call 30; refine (toSave_any _ n s A c xs _ (HX.out.new (Chg.refl NoB w32).drew) HL.out).mono ?_; rintro e' wt ⟨gt, rfl, hOt, hcc⟩; have HK := Lib.hid hcc; have HOt := Lib.hid hOt)
      | (go_at_call 23; refine (eqSave_t _ _ n s _ _ _ _ xs _ ((O2.out.new (Chg.refl NoB w32).drew).new HK.out).rd HOt.out.rd (by have := HL.out; omega)).mono ?_; rintro e' we ⟨rfl, hcc⟩))
  have hrg : Chg NoB w32 we := ((Chg.refl NoB w32).drew.trans HK.out).trans hcc
  replace HCH := Lib.hid (HCH.out.trans hrg)
  replace HB_in := Lib.hid (HB_in.out.chg hrg (fun x => x))
  replace z_in_0 := Chg.cell hrg z_in_0 (fun x => x)
  replace z_in_1 := Chg.cell hrg z_in_1 (fun x => x)
  replace z_in_2 := Chg.cell hrg z_in_2 (fun x => x)
  replace HB_w0 := Lib.hid (HB_w0.out.chg hrg (fun x => x))
  replace z_w0_0 := Chg.cell hrg z_w0_0 (fun x => x)
  replace HB_x0 := Lib.hid (HB_x0.out.chg hrg (fun x => x))
  replace z_x0_0 := Chg.cell hrg z_x0_0 (fun x => x)
  replace z_x0_1 := Chg.cell hrg z_x0_1 (fun x => x)
  replace z_x0_2 := Chg.cell hrg z_x0_2 (fun x => x)
  replace HB_g0 := Lib.hid (HB_g0.out.chg hrg (fun x => x))
  replace z_g0_0 := Chg.cell hrg z_g0_0 (fun x => x)
  replace HX := Lib.hid (HX.out.new hrg)
  replace R0 := Lib.hid (R0.out.new hrg)
  replace O2 := Lib.hid (O2.out.new hrg)
  replace R1 := Lib.hid (R1.out.new hrg)
  replace OT1 := Lib.hid (OT1.out.new hrg)
  have S35 := Lib.hid hrg.size
  clear hrg hcc HK HOt
  go_wp2_with fail
  refine (markSave_any _ _ n s _ _ xs 1 _ O2.out (by have := HL.out; omega) (by omega) (by omega)).mono ?_
  rintro e w36 ⟨rfl, hc37, -⟩
  replace HCH := Lib.hid (HCH.out.trans' hc37 (fun i hi => .inr (by have := S3.out; have := S4.out; have := S7.out; have := S10.out; have := S13.out; have := S16.out; have := S17.out; have := S20.out; have := S23.out; have := S24.out; have := S27.out; have := S30.out; have := S31.out; have := S34.out; have := S35.out; omega)))
  replace HB_in := Lib.hid (HB_in.out.chg hc37 (by have := S3.out; have := S4.out; have := S7.out; have := S10.out; have := S13.out; have := S16.out; have := S17.out; have := S20.out; have := S23.out; have := S24.out; have := S27.out; have := S30.out; have := S31.out; have := S34.out; have := S35.out; omega))
  replace z_in_0 := Chg.cell hc37 z_in_0 (by simp only; have := S3.out; have := S4.out; have := S7.out; have := S10.out; have := S13.out; have := S16.out; have := S17.out; have := S20.out; have := S23.out; have := S24.out; have := S27.out; have := S30.out; have := S31.out; have := S34.out; have := S35.out; omega)
  replace z_in_1 := Chg.cell hc37 z_in_1 (by simp only; have := S3.out; have := S4.out; have := S7.out; have := S10.out; have := S13.out; have := S16.out; have := S17.out; have := S20.out; have := S23.out; have := S24.out; have := S27.out; have := S30.out; have := S31.out; have := S34.out; have := S35.out; omega)
  replace z_in_2 := Chg.cell hc37 z_in_2 (by simp only; have := S3.out; have := S4.out; have := S7.out; have := S10.out; have := S13.out; have := S16.out; have := S17.out; have := S20.out; have := S23.out; have := S24.out; have := S27.out; have := S30.out; have := S31.out; have := S34.out; have := S35.out; omega)
  replace HB_w0 := Lib.hid (HB_w0.out.chg hc37 (by have := S3.out; have := S4.out; have := S7.out; have := S10.out; have := S13.out; have := S16.out; have := S17.out; have := S20.out; have := S23.out; have := S24.out; have := S27.out; have := S30.out; have := S31.out; have := S34.out; have := S35.out; omega))
  replace z_w0_0 := Chg.cell hc37 z_w0_0 (by simp only; have := S3.out; have := S4.out; have := S7.out; have := S10.out; have := S13.out; have := S16.out; have := S17.out; have := S20.out; have := S23.out; have := S24.out; have := S27.out; have := S30.out; have := S31.out; have := S34.out; have := S35.out; omega)
  replace HB_x0 := Lib.hid (HB_x0.out.chg hc37 (by have := S3.out; have := S4.out; have := S7.out; have := S10.out; have := S13.out; have := S16.out; have := S17.out; have := S20.out; have := S23.out; have := S24.out; have := S27.out; have := S30.out; have := S31.out; have := S34.out; have := S35.out; omega))
  replace z_x0_0 := Chg.cell hc37 z_x0_0 (by simp only; have := S3.out; have := S4.out; have := S7.out; have := S10.out; have := S13.out; have := S16.out; have := S17.out; have := S20.out; have := S23.out; have := S24.out; have := S27.out; have := S30.out; have := S31.out; have := S34.out; have := S35.out; omega)
  replace z_x0_1 := Chg.cell hc37 z_x0_1 (by simp only; have := S3.out; have := S4.out; have := S7.out; have := S10.out; have := S13.out; have := S16.out; have := S17.out; have := S20.out; have := S23.out; have := S24.out; have := S27.out; have := S30.out; have := S31.out; have := S34.out; have := S35.out; omega)
  replace z_x0_2 := Chg.cell hc37 z_x0_2 (by simp only; have := S3.out; have := S4.out; have := S7.out; have := S10.out; have := S13.out; have := S16.out; have := S17.out; have := S20.out; have := S23.out; have := S24.out; have := S27.out; have := S30.out; have := S31.out; have := S34.out; have := S35.out; omega)
  replace HB_g0 := Lib.hid (HB_g0.out.chg hc37 (by have := S3.out; have := S4.out; have := S7.out; have := S10.out; have := S13.out; have := S16.out; have := S17.out; have := S20.out; have := S23.out; have := S24.out; have := S27.out; have := S30.out; have := S31.out; have := S34.out; have := S35.out; omega))
  replace z_g0_0 := Chg.cell hc37 z_g0_0 (by simp only; have := S3.out; have := S4.out; have := S7.out; have := S10.out; have := S13.out; have := S16.out; have := S17.out; have := S20.out; have := S23.out; have := S24.out; have := S27.out; have := S30.out; have := S31.out; have := S34.out; have := S35.out; omega)
  replace HX := Lib.hid (HX.out.chg hc37 (fun i h1 h2 => by have := S3.out; have := S4.out; have := S7.out; have := S10.out; have := S13.out; have := S16.out; have := S17.out; have := S20.out; have := S23.out; have := S24.out; have := S27.out; have := S30.out; have := S31.out; have := S34.out; have := S35.out; omega))
  replace R0 := Lib.hid (R0.out.chg hc37 (fun i h1 h2 => by have := S3.out; have := S4.out; have := S7.out; have := S10.out; have := S13.out; have := S16.out; have := S17.out; have := S20.out; have := S23.out; have := S24.out; have := S27.out; have := S30.out; have := S31.out; have := S34.out; have := S35.out; omega))
  replace R1 := Lib.hid (R1.out.chg hc37 (fun i h1 h2 => by have := S3.out; have := S4.out; have := S7.out; have := S10.out; have := S13.out; have := S16.out; have := S17.out; have := S20.out; have := S23.out; have := S24.out; have := S27.out; have := S30.out; have := S31.out; have := S34.out; have := S35.out; omega))
  replace OT1 := Lib.hid (OT1.out.chg hc37 (fun i h1 h2 h3 => by have := S3.out; have := S4.out; have := S7.out; have := S10.out; have := S13.out; have := S16.out; have := S17.out; have := S20.out; have := S23.out; have := S24.out; have := S27.out; have := S30.out; have := S31.out; have := S34.out; have := S35.out; omega))
  have S38 := Lib.hid hc37.size
  clear O2 hc37
  have hk0 : ¬ ((1 : Int) + (xs.length : Int) < 0) := by omega
  go_wp2_with fail
  refine (eqTable_t _ _ _ _ _ _ X _ R1.out R0.out HTT.out.2.1 HTT.out.2.2).mono ?_
  rintro e w39 ⟨rfl, hc40⟩
  replace HCH := Lib.hid (HCH.out.trans hc40)
  replace HB_in := Lib.hid (HB_in.out.chg hc40 (fun x => x))
  replace z_in_0 := Chg.cell hc40 z_in_0 (fun x => x)
  replace z_in_1 := Chg.cell hc40 z_in_1 (fun x => x)
  replace z_in_2 := Chg.cell hc40 z_in_2 (fun x => x)
  replace HB_w0 := Lib.hid (HB_w0.out.chg hc40 (fun x => x))
  replace z_w0_0 := Chg.cell hc40 z_w0_0 (fun x => x)
  replace HB_x0 := Lib.hid (HB_x0.out.chg hc40 (fun x => x))
  replace z_x0_0 := Chg.cell hc40 z_x0_0 (fun x => x)
  replace z_x0_1 := Chg.cell hc40 z_x0_1 (fun x => x)
  replace z_x0_2 := Chg.cell hc40 z_x0_2 (fun x => x)
  replace HB_g0 := Lib.hid (HB_g0.out.chg hc40 (fun x => x))
  replace z_g0_0 := Chg.cell hc40 z_g0_0 (fun x => x)
  replace HX := Lib.hid (HX.out.new hc40)
  replace R0 := Lib.hid (R0.out.new hc40)
  replace R1 := Lib.hid (R1.out.new hc40)
  replace OT1 := Lib.hid (OT1.out.new hc40)
  have S41 := Lib.hid hc40.size
  clear hc40
  go_wp2_with fail
  have hmk := markTable_any _ _ _ _ T1 1 w39 OT1.out (by rw [hX1.out]; exact HTT.out.1) (by omega) (by omega)
  rw [HLN1.out, hX1.out] at hmk
  have HMK := Lib.hid hmk
  clear hmk
  refine (HMK.out).mono ?_
  rintro e w42 ⟨T1m, rfl, hc43, hTm, hTml, hOm⟩
  clear R1
  replace HCH := Lib.hid (HCH.out.trans' hc43 (fun i hi => .inr (by have := S3.out; have := S4.out; have := S7.out; have := S10.out; have := S13.out; have := S16.out; have := S17.out; have := S20.out; have := S23.out; have := S24.out; have := S27.out; have := S30.out; have := S31.out; have := S34.out; have := S35.out; have := S38.out; have := S41.out; omega)))
  replace HB_in := Lib.hid (HB_in.out.chg hc43 (by have := S3.out; have := S4.out; have := S7.out; have := S10.out; have := S13.out; have := S16.out; have := S17.out; have := S20.out; have := S23.out; have := S24.out; have := S27.out; have := S30.out; have := S31.out; have := S34.out; have := S35.out; have := S38.out; have := S41.out; omega))
  replace z_in_0 := Chg.cell hc43 z_in_0 (by simp only; have := S3.out; have := S4.out; have := S7.out; have := S10.out; have := S13.out; have := S16.out; have := S17.out; have := S20.out; have := S23.out; have := S24.out; have := S27.out; have := S30.out; have := S31.out; have := S34.out; have := S35.out; have := S38.out; have := S41.out; omega)
  replace z_in_1 := Chg.cell hc43 z_in_1 (by simp only; have := S3.out; have := S4.out; have := S7.out; have := S10.out; have := S13.out; have := S16.out; have := S17.out; have := S20.out; have := S23.out; have := S24.out; have := S27.out; have := S30.out; have := S31.out; have := S34.out; have := S35.out; have := S38.out; have := S41.out; omega)
  replace z_in_2 := Chg.cell hc43 z_in_2 (by simp only; have := S3.out; have := S4.out; have := S7.out; have := S10.out; have := S13.out; have := S16.out; have := S17.out; have := S20.out; have := S23.out; have := S24.out; have := S27.out; have := S30.out; have := S31.out; have := S34.out; have := S35.out; have := S38.out; have := S41.out; omega)
  replace HB_w0 := Lib.hid (HB_w0.out.chg hc43 (by have := S3.out; have := S4.out; have := S7.out; have := S10.out; have := S13.out; have := S16.out; have := S17.out; have := S20.out; have := S23.out; have := S24.out; have := S27.out; have := S30.out; have := S31.out; have := S34.out; have := S35.out; have := S38.out; have := S41.out; omega))
  replace z_w0_0 := Chg.cell hc43 z_w0_0 (by simp only; have := S3.out; have := S4.out; have := S7.out; have := S10.out; have := S13.out; have := S16.out; have := S17.out; have := S20.out; have := S23.out; have := S24.out; have := S27.out; have := S30.out; have := S31.out; have := S34.out; have := S35.out; have := S38.out; have := S41.out; omega)
  replace HB_x0 := Lib.hid (HB_x0.out.chg hc43 (by have := S3.out; have := S4.out; have := S7.out; have := S10.out; have := S13.out; have := S16.out; have := S17.out; have := S20.out; have := S23.out; have := S24.out; have := S27.out; have := S30.out; have := S31.out; have := S34.out; have := S35.out; have := S38.out; have := S41.out; omega))
  replace z_x0_0 := Chg.cell hc43 z_x0_0 (by simp only; have := S3.out; have := S4.out; have := S7.out; have := S10.out; have := S13.out; have := S16.out; have := S17.out; have := S20.out; have := S23.out; have := S24.out; have := S27.out; have := S30.out; have := S31.out; have := S34.out; have := S35.out; have := S38.out; have := S41.out; omega)
  replace z_x0_1 := Chg.cell hc43 z_x0_1 (by simp only; have := S3.out; have := S4.out; have := S7.out; have := S10.out; have := S13.out; have := S16.out; have := S17.out; have := S20.out; have := S23.out; have := S24.out; have := S27.out; have := S30.out; have := S31.out; have := S34.out; have := S35.out; have := S38.out; have := S41.out; omega)
  replace z_x0_2 := Chg.cell hc43 z_x0_2 (by simp only; have := S3.out; have := S4.out; have := S7.out; have := S10.out; have := S13.out; have := S16.out; have := S17.out; have := S20.out; have := S23.out; have := S24.out; have := S27.out; have := S30.out; have := S31.out; have := S34.out; have := S35.out; have := S38.out; have := S41.out; omega)
  replace HB_g0 := Lib.hid (HB_g0.out.chg hc43 (by have := S3.out; have := S4.out; have := S7.out; have := S10.out; have := S13.out; have := S16.out; have := S17.out; have := S20.out; have := S23.out; have := S24.out; have := S27.out; have := S30.out; have := S31.out; have := S34.out; have := S35.out; have := S38.out; have := S41.out; omega))
  replace z_g0_0 := Chg.cell hc43 z_g0_0 (by simp only; have := S3.out; have := S4.out; have := S7.out; have := S10.out; have := S13.out; have := S16.out; have := S17.out; have := S20.out; have := S23.out; have := S24.out; have := S27.out; have := S30.out; have := S31.out; have := S34.out; have := S35.out; have := S38.out; have := S41.out; omega)
  replace HX := Lib.hid (HX.out.chg hc43 (fun i h1 h2 => by have := S3.out; have := S4.out; have := S7.out; have := S10.out; have := S13.out; have := S16.out; have := S17.out; have := S20.out; have := S23.out; have := S24.out; have := S27.out; have := S30.out; have := S31.out; have := S34.out; have := S35.out; have := S38.out; have := S41.out; omega))
  replace R0 := Lib.hid (R0.out.chg hc43 (fun i h1 h2 => by have := S3.out; have := S4.out; have := S7.out; have := S10.out; have := S13.out; have := S16.out; have := S17.out; have := S20.out; have := S23.out; have := S24.out; have := S27.out; have := S30.out; have := S31.out; have := S34.out; have := S35.out; have := S38.out; have := S41.out; omega))
  have S44 := Lib.hid hc43.size
  clear hc43
  clear OT1
  have hRm := hOm.reads
  rw [hTm] at hRm
  have RM := Lib.hid hRm
  clear hRm hOm hTm hTml
  have hm0 : ¬ ((1 : Int) + ((lens X : Nat) : Int) < 0) := by omega
  have hmm : (((1 : Int) + ((lens X : Nat) : Int)) != ((1 : Int) + ((lens X : Nat) : Int))) = false := by simp
  go_wp2_with fail
  refine (heldTable_any _ _ _ X 1 _ RM.out HTT.out.1 (by omega) (by omega)).mono ?_
  rintro e w45 ⟨rfl, hc46⟩
  replace HCH := Lib.hid (HCH.out.trans hc46)
  replace HB_in := Lib.hid (HB_in.out.chg hc46 (fun x => x))
  replace z_in_0 := Chg.cell hc46 z_in_0 (fun x => x)
  replace z_in_1 := Chg.cell hc46 z_in_1 (fun x => x)
  replace z_in_2 := Chg.cell hc46 z_in_2 (fun x => x)
  replace HB_w0 := Lib.hid (HB_w0.out.chg hc46 (fun x => x))
  replace z_w0_0 := Chg.cell hc46 z_w0_0 (fun x => x)
  replace HB_x0 := Lib.hid (HB_x0.out.chg hc46 (fun x => x))
  replace z_x0_0 := Chg.cell hc46 z_x0_0 (fun x => x)
  replace z_x0_1 := Chg.cell hc46 z_x0_1 (fun x => x)
  replace z_x0_2 := Chg.cell hc46 z_x0_2 (fun x => x)
  replace HB_g0 := Lib.hid (HB_g0.out.chg hc46 (fun x => x))
  replace z_g0_0 := Chg.cell hc46 z_g0_0 (fun x => x)
  replace HX := Lib.hid (HX.out.new hc46)
  replace R0 := Lib.hid (R0.out.new hc46)
  replace RM := Lib.hid (RM.out.new hc46)
  have S47 := Lib.hid hc46.size
  clear hc46
  go_wp2_with fail
  refine (toSave_any _ n s A c xs _ HX.out HL.out).mono ?_
  rintro e w48 ⟨g3, rfl, hO3, hc49⟩
  replace HCH := Lib.hid (HCH.out.trans hc49)
  replace HB_in := Lib.hid (HB_in.out.chg hc49 (fun x => x))
  replace z_in_0 := Chg.cell hc49 z_in_0 (fun x => x)
  replace z_in_1 := Chg.cell hc49 z_in_1 (fun x => x)
  replace z_in_2 := Chg.cell hc49 z_in_2 (fun x => x)
  replace HB_w0 := Lib.hid (HB_w0.out.chg hc49 (fun x => x))
  replace z_w0_0 := Chg.cell hc49 z_w0_0 (fun x => x)
  replace HB_x0 := Lib.hid (HB_x0.out.chg hc49 (fun x => x))
  replace z_x0_0 := Chg.cell hc49 z_x0_0 (fun x => x)
  replace z_x0_1 := Chg.cell hc49 z_x0_1 (fun x => x)
  replace z_x0_2 := Chg.cell hc49 z_x0_2 (fun x => x)
  replace HB_g0 := Lib.hid (HB_g0.out.chg hc49 (fun x => x))
  replace z_g0_0 := Chg.cell hc49 z_g0_0 (fun x => x)
  replace HX := Lib.hid (HX.out.new hc49)
  replace R0 := Lib.hid (R0.out.new hc49)
  replace RM := Lib.hid (RM.out.new hc49)
  have S50 := Lib.hid hc49.size
  have O3 := Lib.hid hO3
  clear hO3 hc49
  go_wp2_with fail
  clear hbn
  refine (iLoadTable_any _ n s _ xs.length xs _ O3.out.rd (by omega) (by have := HL.out; omega)).mono ?_
  rintro e w51 ⟨A2, c2, T2, b2, rfl, hO2, hI2, hc52⟩
  replace HCH := Lib.hid (HCH.out.trans hc52)
  replace HB_in := Lib.hid (HB_in.out.chg hc52 (fun x => x))
  replace z_in_0 := Chg.cell hc52 z_in_0 (fun x => x)
  replace z_in_1 := Chg.cell hc52 z_in_1 (fun x => x)
  replace z_in_2 := Chg.cell hc52 z_in_2 (fun x => x)
  replace HB_w0 := Lib.hid (HB_w0.out.chg hc52 (fun x => x))
  replace z_w0_0 := Chg.cell hc52 z_w0_0 (fun x => x)
  replace HB_x0 := Lib.hid (HB_x0.out.chg hc52 (fun x => x))
  replace z_x0_0 := Chg.cell hc52 z_x0_0 (fun x => x)
  replace z_x0_1 := Chg.cell hc52 z_x0_1 (fun x => x)
  replace z_x0_2 := Chg.cell hc52 z_x0_2 (fun x => x)
  replace HB_g0 := Lib.hid (HB_g0.out.chg hc52 (fun x => x))
  replace z_g0_0 := Chg.cell hc52 z_g0_0 (fun x => x)
  replace HX := Lib.hid (HX.out.new hc52)
  replace R0 := Lib.hid (R0.out.new hc52)
  replace RM := Lib.hid (RM.out.new hc52)
  replace O3 := Lib.hid (O3.out.new hc52)
  have S53 := Lib.hid hc52.size
  obtain ⟨hXX, hbb⟩ := hI2.out.det hI0.out
  subst hbb
  have hX2 := Lib.hid hXX
  clear hXX
  have hlen2 : T2.length = X.length := by rw [← hX2.out, listsOf_length]
  rw [hlen2]
  have HLN2 := Lib.hid hlen2
  clear hlen2
  have hR2 := hO2.reads
  rw [hX2.out] at hR2
  have R2 := Lib.hid hR2
  have OT2 := Lib.hid hO2
  clear hR2 hO2 hc52
  have hbn : (b2 != b2) = false := by cases b2 <;> rfl
  have zz_in_0 := Chg.cell ((Chg.refl NoB w51).alloc (.cells #[.slice A2 X.length c2] 39)) z_in_0 (fun x => x)
  have zz_in_1 := Chg.cell ((Chg.refl NoB w51).alloc (.cells #[.slice A2 X.length c2] 39)) z_in_1 (fun x => x)
  have zz_in_2 := Chg.cell ((Chg.refl NoB w51).alloc (.cells #[.slice A2 X.length c2] 39)) z_in_2 (fun x => x)
  have zz_w0_0 := Chg.cell ((Chg.refl NoB w51).alloc (.cells #[.slice A2 X.length c2] 39)) z_w0_0 (fun x => x)
  have zz_x0_0 := Chg.cell ((Chg.refl NoB w51).alloc (.cells #[.slice A2 X.length c2] 39)) z_x0_0 (fun x => x)
  have zz_x0_1 := Chg.cell ((Chg.refl NoB w51).alloc (.cells #[.slice A2 X.length c2] 39)) z_x0_1 (fun x => x)
  have zz_x0_2 := Chg.cell ((Chg.refl NoB w51).alloc (.cells #[.slice A2 X.length c2] 39)) z_x0_2 (fun x => x)
  have zz_g0_0 := Chg.cell ((Chg.refl NoB w51).alloc (.cells #[.slice A2 X.length c2] 39)) z_g0_0 (fun x => x)
  go_wp2_with fail
  clear zz_in_0 zz_in_1 zz_in_2 zz_w0_0 zz_x0_0 zz_x0_1 zz_x0_2 zz_g0_0
  obtain ⟨w54, hw54⟩ : ∃ w54, w51.alloc (.cells #[.slice A2 X.length c2] 39) = w54 := ⟨_, rfl⟩
  try rw [hw54]
  have q55 : Chg NoB w51 w54 := by rw [← hw54]; exact (Chg.refl _ _).alloc _
  have bq55 : Blk w54 w51.heap.size 39 #[.slice A2 X.length c2] := by rw [← hw54]; exact Blk.new _ _ _
  have sq55 : w54.heap.size = w51.heap.size + 1 := by rw [← hw54]; exact World.size_alloc ..
  clear hw54
  replace HCH := Lib.hid (HCH.out.trans q55)
  replace HB_in := Lib.hid (HB_in.out.chg q55 (fun x => x))
  replace z_in_0 := Chg.cell q55 z_in_0 (fun x => x)
  replace z_in_1 := Chg.cell q55 z_in_1 (fun x => x)
  replace z_in_2 := Chg.cell q55 z_in_2 (fun x => x)
  replace HB_w0 := Lib.hid (HB_w0.out.chg q55 (fun x => x))
  replace z_w0_0 := Chg.cell q55 z_w0_0 (fun x => x)
  replace HB_x0 := Lib.hid (HB_x0.out.chg q55 (fun x => x))
  replace z_x0_0 := Chg.cell q55 z_x0_0 (fun x => x)
  replace z_x0_1 := Chg.cell q55 z_x0_1 (fun x => x)
  replace z_x0_2 := Chg.cell q55 z_x0_2 (fun x => x)
  replace HB_g0 := Lib.hid (HB_g0.out.chg q55 (fun x => x))
  replace z_g0_0 := Chg.cell q55 z_g0_0 (fun x => x)
  replace HX := Lib.hid (HX.out.new q55)
  replace R0 := Lib.hid (R0.out.new q55)
  replace RM := Lib.hid (RM.out.new q55)
  replace O3 := Lib.hid (O3.out.new q55)
  replace R2 := Lib.hid (R2.out.new q55)
  replace OT2 := Lib.hid (OT2.out.new q55)
  have S56 := Lib.hid q55.size
  have S57 := Lib.hid sq55
  have HB_h0 := Lib.hid bq55
  have z_h0_0 : w54.cell? ⟨w51.heap.size, 0, none⟩ = some (.slice A2 X.length c2) := (HB_h0.out.cell _).trans rfl
  clear q55 sq55 bq55
  refine (eqTable_t _ _ _ _ _ _ X _ R2.out R0.out HTT.out.2.1 HTT.out.2.2).mono ?_
  rintro e w58 ⟨rfl, hc59⟩
  replace HCH := Lib.hid (HCH.out.trans hc59)
  replace HB_in := Lib.hid (HB_in.out.chg hc59 (fun x => x))
  replace z_in_0 := Chg.cell hc59 z_in_0 (fun x => x)
  replace z_in_1 := Chg.cell hc59 z_in_1 (fun x => x)
  replace z_in_2 := Chg.cell hc59 z_in_2 (fun x => x)
  replace HB_w0 := Lib.hid (HB_w0.out.chg hc59 (fun x => x))
  replace z_w0_0 := Chg.cell hc59 z_w0_0 (fun x => x)
  replace HB_x0 := Lib.hid (HB_x0.out.chg hc59 (fun x => x))
  replace z_x0_0 := Chg.cell hc59 z_x0_0 (fun x => x)
  replace z_x0_1 := Chg.cell hc59 z_x0_1 (fun x => x)
  replace z_x0_2 := Chg.cell hc59 z_x0_2 (fun x => x)
  replace HB_g0 := Lib.hid (HB_g0.out.chg hc59 (fun x => x))
  replace z_g0_0 := Chg.cell hc59 z_g0_0 (fun x => x)
  replace HB_h0 := Lib.hid (HB_h0.out.chg hc59 (fun x => x))
  replace z_h0_0 := Chg.cell hc59 z_h0_0 (fun x => x)
  replace HX := Lib.hid (HX.out.new hc59)
  replace R0 := Lib.hid (R0.out.new hc59)
  replace RM := Lib.hid (RM.out.new hc59)
  replace O3 := Lib.hid (O3.out.new hc59)
  replace R2 := Lib.hid (R2.out.new hc59)
  replace OT2 := Lib.hid (OT2.out.new hc59)
  have S60 := Lib.hid hc59.size
  clear hc59
  go_wp2_with fail
  refine (heldTable_any _ _ _ X 1 _ RM.out HTT.out.1 (by omega) (by omega)).mono ?_
  rintro e w61 ⟨rfl, hc62⟩
  replace HCH := Lib.hid (HCH.out.trans hc62)
  replace HB_in := Lib.hid (HB_in.out.chg hc62 (fun x => x))
  replace z_in_0 := Chg.cell hc62 z_in_0 (fun x => x)
  replace z_in_1 := Chg.cell hc62 z_in_1 (fun x => x)
  replace z_in_2 := Chg.cell hc62 z_in_2 (fun x => x)
  replace HB_w0 := Lib.hid (HB_w0.out.chg hc62 (fun x => x))
  replace z_w0_0 := Chg.cell hc62 z_w0_0 (fun x => x)
  replace HB_x0 := Lib.hid (HB_x0.out.chg hc62 (fun x => x))
  replace z_x0_0 := Chg.cell hc62 z_x0_0 (fun x => x)
  replace z_x0_1 := Chg.cell hc62 z_x0_1 (fun x => x)
  replace z_x0_2 := Chg.cell hc62 z_x0_2 (fun x => x)
  replace HB_g0 := Lib.hid (HB_g0.out.chg hc62 (fun x => x))
  replace z_g0_0 := Chg.cell hc62 z_g0_0 (fun x => x)
  replace HB_h0 := Lib.hid (HB_h0.out.chg hc62 (fun x => x))
  replace z_h0_0 := Chg.cell hc62 z_h0_0 (fun x => x)
  replace HX := Lib.hid (HX.out.new hc62)
  replace R0 := Lib.hid (R0.out.new hc62)
  replace RM := Lib.hid (RM.out.new hc62)
  replace O3 := Lib.hid (O3.out.new hc62)
  replace R2 := Lib.hid (R2.out.new hc62)
  replace OT2 := Lib.hid (OT2.out.new hc62)
  have S63 := Lib.hid hc62.size
  clear hc62
  go_wp2
  go_ret
  exact ⟨rfl, HCH.out⟩
end Go.Proofs.Ytbgepefdfioljaa
