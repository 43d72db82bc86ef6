/- New tables and copies of tables. -/
import Derived.Test.YtbgepefdfioljaaTa
import Derived.Test.YtbgepefdfioljaaCp
import Derived.Test.YtbgepefdfioljaaAp
import Derived.Test.YtbgepefdfioljaaRb
import Derived.BigRegion
namespace Go.Proofs.Ytbgepefdfioljaa
open Go.RowKit
theorem info_ints' : (Try.prog.info? 22).map (fun i => (i.zero, i.size, i.bytes)) = some (some (.slice none 0 0), 1, 24) := by kernel_rfl
def emptyRows (f : Nat) : List (List Int) := List.replicate f (List.replicate 6 (-1))
theorem cells_snoc' (T : List RowO) (r : RowO) : (T ++ [r]).map RowO.cell = T.map RowO.cell ++ [r.cell] := by simp
theorem lists_snoc (T : List RowO) (r : RowO) : listsOf (T ++ [r]) = listsOf T ++ [r.xs] := by simp [listsOf]
theorem icells_snoc' (ys : List Int) (y : Int) : icells (ys ++ [y]) = icells ys ++ [Value.int .i64 y] := by simp [icells]
set_option maxRecDepth 100000 in
set_option maxHeartbeats 4000000 in
theorem emptyTable_any (w : World) :
    Calls Try.prog 64 #[] w fun e w' => ∃ g T, e = .returned (.agg #[.slice (some ⟨g, 0, none⟩) 8 8]) ∧ listsOf T = emptyRows 8 ∧ Chg NoB w w' ∧ TabO w.heap.size w'.heap.size w' (some ⟨g, 0, none⟩) 8 T := by
  obtain ⟨i0, hi, hz0, hz1, hz2⟩ := info_parts info_ints'
  obtain ⟨j0, hj, hy0, hy1, hy2⟩ := info_parts info_int
  have hmk : ∀ W, (Instr.makeSlice 32 (.int .i64 8) (.int .i64 8)).run Try.prog W = .ok (.slice (some ⟨W.heap.size, 0, none⟩) 8 8) (W.alloc (.cells (reps 8 [.slice none 0 0]).toArray 22)) :=
    fun W => run_make_reps (P := Try.prog) 32 22 i0 (.slice none 0 0) [.slice none 0 0] Try.underlying32 hi hz0 rfl hz1 8 (by rw [hz2]; omega) (by omega) W
  have hmk6 : ∀ W, (Instr.makeSlice 22 (.int .i64 6) (.int .i64 6)).run Try.prog W = .ok (.slice (some ⟨W.heap.size, 0, none⟩) 6 6) (W.alloc (.cells (reps 6 [.int .i64 0]).toArray 3)) :=
    fun W => run_make_reps (P := Try.prog) 22 3 j0 (.int .i64 0) [.int .i64 0] Try.underlying22 hj hy0 rfl hy1 6 (by rw [hy2]; omega) (by omega) W
  obtain ⟨q1, q2, q3⟩ := lit2 (w.alloc (.cells #[.slice none 0 0] 39)) 22 39 (reps 8 [.slice none 0 0]).toArray #[.slice (some ⟨w.heap.size + 1, 0, none⟩) 8 8]
  rw [World.size_alloc] at q1 q2
  have Q0 := Lib.hid ((Blk.new w 39 #[.slice none 0 0]).chg q3 (fun x => x))
  have Q1 := Lib.hid q1
  have Q2 := Lib.hid q2
  have Q3 := Lib.hid (((Chg.refl NoB w).alloc (.cells #[.slice none 0 0] 39)).trans q3)
  clear q1 q2 q3
  go_enter Try.func64, Try.ntmps64
  go_wp2
  go_loopw [9] (fun i wr => ∃ (f : Nat) (T : List RowO), f ≤ 8 ∧ i = .int .i64 f ∧ Chg NoB w wr ∧ Blk wr w.heap.size 39 #[.slice none 0 0] ∧ Blk wr (w.heap.size + 1 + 1) 39 #[.slice (some ⟨w.heap.size + 1, 0, none⟩) 8 8] ∧ Hid (listsOf T = emptyRows f) ∧ RowsO (w.heap.size + 1 + 1 + 1) wr.heap.size wr T ∧ Blk wr (w.heap.size + 1) 22 (T.map RowO.cell ++ reps (8 - f) [.slice none 0 0]).toArray) (fun i _ => 8 - (intOf i).toNat)
  case atStart => exact ⟨0, [], Nat.zero_le _, rfl, Q3.out, Q0.out, Q2.out, Lib.hid rfl, RowsO.nil _ _ _, Q1.out⟩
  case round =>
    obtain ⟨wo, rfl⟩ : ∃ wo, wo = wr := ⟨_, rfl⟩
    obtain ⟨f, T, hf8, rfl, hch, hbr, hbv, hT, hrows, hb⟩ := hrel
    have hTl : T.length = f := by have := congrArg List.length hT.out; rw [listsOf_length, emptyRows, List.length_replicate] at this; exact this
    have v0 : wo.cell? ⟨w.heap.size + 1 + 1, 0, none⟩ = some (.slice (some ⟨w.heap.size + 1, 0, none⟩) 8 8) := (hbv.cell _).trans rfl
    have HC := Lib.hid hch
    have HBR := Lib.hid hbr
    have HBV := Lib.hid hbv
    have HRW := Lib.hid hrows
    by_cases hlt : f < 8
    · obtain ⟨r, hr⟩ : ∃ r, 8 - f = r + 1 := ⟨8 - f - 1, by omega⟩
      rw [hr, reps_succ] at hb
      have hlenT : (T.map RowO.cell).length = f := by rw [List.length_map, hTl]
      have hroom := hb.room hlenT
      have hfr := hb.frozen f
      have HB := Lib.hid hb
      have HR := Lib.hid hr
      have hi0 : (0 : Int) ≤ (f : Int) := Int.natCast_nonneg _
      have hi1 : (f : Int) < 8 := by omega
      have hGl := hb.lt
      have HGL := Lib.hid hGl
      clear hch hbr hbv hrows hb hr
      have hca := (Chg.refl NoB wo).alloc (.cells (reps 6 [.int .i64 0]).toArray 3)
      have v0a := hca.cell v0 (fun x => x)
      have hrooma := hca.cell hroom (fun x => x)
      have hfra := (HB.out.chg hca (fun x => x)).frozen f
      have hbn := Lib.hid (Blk.new wo 3 (reps 6 [.int .i64 0]).toArray)
      have HCA := Lib.hid hca
      clear hca
      go_wp2
      go_region
      obtain ⟨w5, hw5⟩ : ∃ w5, ((wo.setCell ⟨w.heap.size + 1, f, none⟩ (.slice (some ⟨wo.heap.size, 0, none⟩) 6 6)).alloc (.cells (reps 6 [.int .i64 0]).toArray 3)).drew = w5 := ⟨_, rfl⟩
      rw [hw5]
      have hss : (wo.setCell ⟨w.heap.size + 1, f, none⟩ (.slice (some ⟨wo.heap.size, 0, none⟩) 6 6)).heap.size = wo.heap.size := by simp [World.setCell]
      have hc5 : Chg (· = w.heap.size + 1) wo w5 := by rw [← hw5]; exact (((Chg.refl (· = w.heap.size + 1) wo).setCell (p := ⟨w.heap.size + 1, f, none⟩) (.inl rfl) _).alloc _).drew
      have hb5 : Blk w5 (w.heap.size + 1) 22 (T.map RowO.cell ++ Value.slice (some ⟨wo.heap.size, 0, none⟩) 6 6 :: ([].append (reps r [.slice none 0 0]))).toArray := by
        rw [← hw5]
        exact ((HB.out.fill1 hlenT (.slice (some ⟨wo.heap.size, 0, none⟩) 6 6)).chg ((Chg.refl NoB _).alloc _) (fun x => x)).chg ((Chg.refl NoB _).drew) (fun x => x)
      have hn5 : Blk w5 wo.heap.size 3 (reps 6 [.int .i64 0]).toArray := by
        have h1 := Blk.new (wo.setCell ⟨w.heap.size + 1, f, none⟩ (.slice (some ⟨wo.heap.size, 0, none⟩) 6 6)) 3 (reps 6 [.int .i64 0]).toArray
        rw [hss] at h1
        rw [← hw5]
        exact h1.chg (F := NoB) ((Chg.refl NoB _).drew) (fun x => x)
      have hsz5 : w5.heap.size = wo.heap.size + 1 := by rw [← hw5]; simp [World.drew, World.setCell]
      clear hw5 hss
      have v5 := hc5.cell v0 (by simp)
      have hhd : w5.cell? ⟨w.heap.size + 1, f, none⟩ = some (.slice (some ⟨wo.heap.size, 0, none⟩) 6 6) := hb5.room hlenT
      have HC5 := Lib.hid (HC.out.trans' hc5 (fun i hi => .inr (by omega)))
      have HD5 := Lib.hid hc5
      have HB5 := Lib.hid hb5
      have HN5 := Lib.hid hn5
      have HS5 := Lib.hid hsz5
      have HBR5 := Lib.hid (HBR.out.chg hc5 (by omega))
      have HBV5 := Lib.hid (HBV.out.chg hc5 (by omega))
      clear hc5 hb5 hn5 hsz5 v0a hrooma hfra v0 hroom hfr
      go_wp2
      go_loopw [23] (fun i w6 => ∃ k : Nat, k ≤ 6 ∧ i = .int .i64 k ∧ Chg (· = wo.heap.size) w5 w6 ∧ Blk w6 wo.heap.size 3 (icells (List.replicate k (-1)) ++ reps (6 - k) [.int .i64 0]).toArray) (fun i _ => 6 - (intOf i).toNat)
      case atStart => exact ⟨0, Nat.zero_le _, rfl, Chg.refl _ _, HN5.out⟩
      case round =>
        obtain ⟨k, hk6, rfl, hch, hb⟩ := hrel
        have y0 := hch.cell v5 (by simp; have := HBV.out.lt; omega)
        have y1 := hch.cell hhd (by simp; have := HGL.out; omega)
        have HCH := Lib.hid hch
        by_cases hk : k < 6
        · obtain ⟨r', hr'⟩ : ∃ r', 6 - k = r' + 1 := ⟨6 - k - 1, by omega⟩
          rw [hr', reps_succ] at hb
          have hlk : (icells (List.replicate k (-1))).length = k := by rw [icells_length, List.length_replicate]
          have hroom := hb.room hlk
          have hfr := hb.frozen k
          have HF := Lib.hid (hb.fill1 hlk (.int .i64 (-1)))
          have HR' := Lib.hid hr'
          have hk0 : (0 : Int) ≤ (k : Int) := Int.natCast_nonneg _
          clear hb hch hr' hlk
          go_wp2
          go_roundw
          case rel =>
            refine ⟨k + 1, by omega, by go_num, HCH.out.setCell (.inl rfl) _, ?_⟩
            have e1 : icells (List.replicate (k + 1) (-1)) = icells (List.replicate k (-1)) ++ [.int .i64 (-1)] := by rw [List.replicate_succ', ← icells_snoc']
            rw [e1, List.append_assoc, show 6 - (k + 1) = r' by have := HR'.out; omega]
            exact HF.out
          case measure => simp [intOf]; omega
        · obtain rfl : k = 6 := by omega
          have HB6 := Lib.hid hb
          clear hb hch
          go_wp2
          go_roundw
          case rel =>
            have hb6 := HB6.out
            rw [Nat.sub_self, reps_zero] at hb6
            have hok : RowO.ok (w.heap.size + 1 + 1 + 1) wo.heap.size.succ _ ⟨wo.heap.size, 6, List.replicate 6 (-1), []⟩ := ⟨by show w.heap.size + 1 + 1 + 1 ≤ wo.heap.size; have := HBV.out.lt; omega, Nat.lt_succ_self _, hb6, by simp⟩
            have hsz6 := HCH.out.size
            refine ⟨f + 1, T ++ [⟨wo.heap.size, 6, List.replicate 6 (-1), []⟩], by omega, by go_num, HC5.out.own HCH.out HC.out.size, HBR5.out.chg HCH.out (by have := HBR.out.lt; omega), HBV5.out.chg HCH.out (by have := HBV.out.lt; omega), Lib.hid ?_, ?_, ?_⟩
            · rw [lists_snoc, hT.out]
              unfold emptyRows
              rw [← List.replicate_succ']
            · have h1 := (((HRW.out.chg HD5.out (fun i h1 h2 => by omega)).chg HCH.out (fun i h1 h2 => by omega)).snoc hok (Nat.le_refl _))
              exact h1.more (Nat.le_refl _) (by have := HS5.out; omega)
            · rw [cells_snoc', List.append_assoc, show 8 - (f + 1) = r by have := HR.out; omega]
              exact HB5.out.chg HCH.out (by omega)
          case measure => simp [intOf]; omega
    · obtain rfl : f = 8 := by omega
      have hr0 : wo.cell? ⟨w.heap.size, 0, none⟩ = some (.slice none 0 0) := (hbr.cell _).trans rfl
      have hrf := hbr.frozen 0
      rw [Nat.sub_self, reps_zero, List.append_nil] at hb
      have HB := Lib.hid hb
      have hlt1 := hbv.lt
      clear hch hbr hbv hrows hb
      go_wp2_with fail
      (try simp only [Exit.inBlock, Exit.then])
      refine bodyPost_ret (v := .agg #[.slice (some ⟨w.heap.size + 1, 0, none⟩) 8 8]) (by simp [results, Try.results64, go_sem, *]) rfl ?_
      have hcs : Chg (· = w.heap.size) wo (wo.setCell ⟨w.heap.size, 0, none⟩ (.slice (some ⟨w.heap.size + 1, 0, none⟩) 8 8)) := (Chg.refl (· = w.heap.size) wo).setCell (p := ⟨w.heap.size, 0, none⟩) (.inl rfl) _
      have hss : (wo.setCell ⟨w.heap.size, 0, none⟩ (.slice (some ⟨w.heap.size + 1, 0, none⟩) 8 8)).heap.size = wo.heap.size := by simp [World.setCell]
      refine ⟨w.heap.size + 1, T, rfl, hT.out, HC.out.own hcs (Nat.le_refl _), ?_, ?_⟩
      · rw [hTl, hss]
        exact OwnS.of_blk (HB.out.chg hcs (by omega)) (by omega) (by omega) (Nat.le_refl _)
      · rw [hss]
        exact (HRW.out.chg hcs (fun i h1 h2 h3 => by omega)).more (by omega) (Nat.le_refl _)
set_option maxRecDepth 100000 in
set_option maxHeartbeats 4000000 in
theorem cloneTable_any (F : Nat → Prop) (A : Option Addr) (c : Nat) (X : List (List Int)) (w : World) (h : TabR F w A X) (hX : tabOk X) :
    Calls Try.prog 69 #[.agg #[.slice A X.length c]] w fun e w' => ∃ g T, e = .returned (.agg #[.slice (some ⟨g, 0, none⟩) 8 8]) ∧ listsOf T = X ∧ Chg NoB w w' ∧ TabO w.heap.size w'.heap.size w' (some ⟨g, 0, none⟩) 8 T := by
  obtain ⟨i0, hi, hz0, hz1, hz2⟩ := info_parts info_ints'
  obtain ⟨j0, hj, hy0, hy1, hy2⟩ := info_parts info_int
  have hmk : ∀ W, (Instr.makeSlice 32 (.int .i64 8) (.int .i64 8)).run Try.prog W = .ok (.slice (some ⟨W.heap.size, 0, none⟩) 8 8) (W.alloc (.cells (reps 8 [.slice none 0 0]).toArray 22)) :=
    fun W => run_make_reps (P := Try.prog) 32 22 i0 (.slice none 0 0) [.slice none 0 0] Try.underlying32 hi hz0 rfl hz1 8 (by rw [hz2]; omega) (by omega) W
  have hmk6 : ∀ W, (Instr.makeSlice 22 (.int .i64 6) (.int .i64 6)).run Try.prog W = .ok (.slice (some ⟨W.heap.size, 0, none⟩) 6 6) (W.alloc (.cells (reps 6 [.int .i64 0]).toArray 3)) :=
    fun W => run_make_reps (P := Try.prog) 22 3 j0 (.int .i64 0) [.int .i64 0] Try.underlying22 hj hy0 rfl hy1 6 (by rw [hy2]; omega) (by omega) W
  have hsz1 : (Try.prog.info? 3).map (·.size) = some 1 := by rw [hj]; simp [hy1]
  have h8 := hX.1
  obtain ⟨p1, p2, p3⟩ := lit2 w 39 39 #[.slice A X.length c] #[.slice none 0 0]
  obtain ⟨q1, q2, q3⟩ := lit2 ((w.alloc (.cells #[.slice A X.length c] 39)).alloc (.cells #[.slice none 0 0] 39)) 22 39 (reps 8 [.slice none 0 0]).toArray #[.slice (some ⟨w.heap.size + 1 + 1, 0, none⟩) 8 8]
  rw [World.size_alloc, World.size_alloc] at q1 q2
  have Q0 := Lib.hid (p2.chg q3 (fun x => x))
  have QA := Lib.hid (p1.chg q3 (fun x => x))
  have Q1 := Lib.hid q1
  have Q2 := Lib.hid q2
  have Q3 := Lib.hid (p3.trans q3)
  rw [h8] at QA Q0 Q1 Q2 Q3
  clear p1 p2 p3 q1 q2 q3
  have HX := Lib.hid hX
  clear hX
  rw [h8]
  go_enter Try.func69, Try.ntmps69
  go_wp2
  go_loopw [14] (fun i wr => ∃ (f : Nat) (T : List RowO), f ≤ 8 ∧ i = .int .i64 f ∧ Chg NoB w wr ∧ Blk wr (w.heap.size + 1) 39 #[.slice none 0 0] ∧ Blk wr (w.heap.size + 1 + 1 + 1) 39 #[.slice (some ⟨w.heap.size + 1 + 1, 0, none⟩) 8 8] ∧ Hid (listsOf T = X.take f) ∧ RowsO (w.heap.size + 1 + 1 + 1 + 1) wr.heap.size wr T ∧ Blk wr (w.heap.size + 1 + 1) 22 (T.map RowO.cell ++ reps (8 - f) [.slice none 0 0]).toArray) (fun i _ => 8 - (intOf i).toNat)
  case atStart => exact ⟨0, [], Nat.zero_le _, rfl, Q3.out, Q0.out, Q2.out, Lib.hid rfl, RowsO.nil _ _ _, Q1.out⟩
  case round =>
    obtain ⟨wo, rfl⟩ : ∃ wo, wo = wr := ⟨_, rfl⟩
    obtain ⟨f, T, hf8, rfl, hch, hbr, hbv, hT, hrows, hb⟩ := hrel
    have hTl : f ≤ 8 → T.length = f := fun _ => by have := congrArg List.length hT.out; rw [listsOf_length, List.length_take, h8] at this; omega
    have hTl := hTl hf8
    have v0 : wo.cell? ⟨w.heap.size + 1 + 1 + 1, 0, none⟩ = some (.slice (some ⟨w.heap.size + 1 + 1, 0, none⟩) 8 8) := (hbv.cell _).trans rfl
    have HC := Lib.hid hch
    have HBR := Lib.hid hbr
    have HBV := Lib.hid hbv
    have HRW := Lib.hid hrows
    by_cases hlt : f < 8
    · obtain ⟨ad, B, c', rfl, hfF, hcell, hrr, hc1⟩ := (h.lt.new hch) f (by omega)
      have h6 : X[f].length = 6 := (HX.out.2 f (by omega)).1
      have HTF := Lib.hid (show X.take (f + 1) = X.take f ++ [X[f]] from List.take_succ_eq_append_getElem (by omega))
      have hcl := Lib.hid (show (icells X[f]).length = 6 by rw [icells_length, h6])
      have hone := Lib.hid (show ∀ u ∈ icells X[f], u.oneCell' = true from fun u hu => by obtain ⟨x, _, rfl⟩ := List.mem_map.1 hu; rfl)
      have H6 := Lib.hid h6
      have HRR := Lib.hid hrr
      rw [h6] at hcell
      obtain ⟨r, hr⟩ : ∃ r, 8 - f = r + 1 := ⟨8 - f - 1, by omega⟩
      rw [hr, reps_succ] at hb
      have hlenT : (T.map RowO.cell).length = f := by rw [List.length_map, hTl]
      have hroom := hb.room hlenT
      have hfr := hb.frozen f
      have HB := Lib.hid hb
      have HR := Lib.hid hr
      have hi0 : (0 : Int) ≤ (f : Int) := Int.natCast_nonneg _
      have hi1 : (f : Int) < 8 := by omega
      have hGl := hb.lt
      have HGL := Lib.hid hGl
      clear hch hbr hbv hrows hb hr hrr h6
      have hca := (Chg.refl NoB wo).alloc (.cells (reps 6 [.int .i64 0]).toArray 3)
      have v0a := hca.cell v0 (fun x => x)
      have hrooma := hca.cell hroom (fun x => x)
      have hfra := (HB.out.chg hca (fun x => x)).frozen f
      clear hca
      go_wp2
      go_region
      obtain ⟨w5, hw5⟩ : ∃ w5, ((wo.setCell ⟨w.heap.size + 1 + 1, f, none⟩ (.slice (some ⟨wo.heap.size, 0, none⟩) 6 6)).alloc (.cells (reps 6 [.int .i64 0]).toArray 3)).drew = w5 := ⟨_, rfl⟩
      rw [hw5]
      have hss : (wo.setCell ⟨w.heap.size + 1 + 1, f, none⟩ (.slice (some ⟨wo.heap.size, 0, none⟩) 6 6)).heap.size = wo.heap.size := by simp [World.setCell]
      have hc5 : Chg (· = w.heap.size + 1 + 1) wo w5 := by rw [← hw5]; exact (((Chg.refl (· = w.heap.size + 1 + 1) wo).setCell (p := ⟨w.heap.size + 1 + 1, f, none⟩) (.inl rfl) _).alloc _).drew
      have hb5 : Blk w5 (w.heap.size + 1 + 1) 22 (T.map RowO.cell ++ Value.slice (some ⟨wo.heap.size, 0, none⟩) 6 6 :: ([].append (reps r [.slice none 0 0]))).toArray := by
        rw [← hw5]
        exact ((HB.out.fill1 hlenT (.slice (some ⟨wo.heap.size, 0, none⟩) 6 6)).chg ((Chg.refl NoB _).alloc _) (fun x => x)).chg ((Chg.refl NoB _).drew) (fun x => x)
      have hn5 : Blk w5 wo.heap.size 3 (reps 6 [.int .i64 0]).toArray := by
        have h1 := Blk.new (wo.setCell ⟨w.heap.size + 1 + 1, f, none⟩ (.slice (some ⟨wo.heap.size, 0, none⟩) 6 6)) 3 (reps 6 [.int .i64 0]).toArray
        rw [hss] at h1
        rw [← hw5]
        exact h1.chg (F := NoB) ((Chg.refl NoB _).drew) (fun x => x)
      have hsz5 : w5.heap.size = wo.heap.size + 1 := by rw [← hw5]; simp [World.drew, World.setCell]
      clear hw5 hss
      have v5 := hc5.cell v0 (by simp)
      have hhd : w5.cell? ⟨w.heap.size + 1 + 1, f, none⟩ = some (.slice (some ⟨wo.heap.size, 0, none⟩) 6 6) := hb5.room hlenT
      have HC5 := Lib.hid (HC.out.trans' hc5 (fun i hi => .inr (by omega)))
      have HD5 := Lib.hid hc5
      have HB5 := Lib.hid hb5
      have HN5 := Lib.hid hn5
      have HS5 := Lib.hid hsz5
      have HRR5 := Lib.hid (HRR.out.chg hc5 (fun i hi he => by have := hi.2; omega))
      have HBR5 := Lib.hid (HBR.out.chg hc5 (by omega))
      have HBV5 := Lib.hid (HBV.out.chg hc5 (by omega))
      clear hc5 hb5 hn5 hsz5 v0a hrooma hfra v0 hroom hfr
      obtain ⟨w6, hr6, hc6, hb6⟩ := run_copy_blk (P := Try.prog) 22 22 3 3 wo.heap.size 6 6 B 6 c' (reps 6 [.int .i64 0]) 3 (icells X[f]) Try.underlying22 hsz1 HN5.out (by rw [hcl.out]; rfl) (by rw [hcl.out]; decide) HRR5.out (by rw [hcl.out, reps_length]; decide) hone.out
      have HC6 := Lib.hid hc6
      have HB6 := Lib.hid hb6
      clear hc6 hb6
      go_wp2
      go_roundw
      case rel =>
        have hb6 := HB6.out
        rw [List.drop_of_length_le (by rw [hcl.out, reps_length]; decide)] at hb6
        have hok : RowO.ok (w.heap.size + 1 + 1 + 1 + 1) wo.heap.size.succ _ ⟨wo.heap.size, 6, X[f], []⟩ := ⟨by show w.heap.size + 1 + 1 + 1 + 1 ≤ wo.heap.size; have := HBV.out.lt; omega, Nat.lt_succ_self _, hb6, by simp [H6.out]⟩
        have hsz6 := HC6.out.size
        refine ⟨f + 1, T ++ [⟨wo.heap.size, 6, X[f], []⟩], by omega, by go_num, HC5.out.own HC6.out HC.out.size, HBR5.out.chg HC6.out (by have := HBR.out.lt; omega), HBV5.out.chg HC6.out (by have := HBV.out.lt; omega), Lib.hid ?_, ?_, ?_⟩
        · rw [lists_snoc, hT.out, HTF.out]
        · have h1 := (((HRW.out.chg HD5.out (fun i h1 h2 => by omega)).chg HC6.out (fun i h1 h2 => by omega)).snoc hok (Nat.le_refl _))
          exact h1.more (Nat.le_refl _) (by have := HS5.out; omega)
        · rw [cells_snoc', List.append_assoc, show 8 - (f + 1) = r by have := HR.out; omega]
          have e1 : RowO.cell ⟨wo.heap.size, 6, X[f], []⟩ = .slice (some ⟨wo.heap.size, 0, none⟩) 6 6 := by simp [RowO.cell, H6.out]
          rw [e1]
          exact HB5.out.chg HC6.out (by omega)
      case measure => simp [intOf]; omega
    · obtain rfl : f = 8 := by omega
      have hr0 : wo.cell? ⟨w.heap.size + 1, 0, none⟩ = some (.slice none 0 0) := (hbr.cell _).trans rfl
      have hrf := hbr.frozen 0
      rw [Nat.sub_self, reps_zero, List.append_nil] at hb
      have HB := Lib.hid hb
      have hlt1 := hbv.lt
      have hTX : listsOf T = X := by have := hT.out; rwa [List.take_of_length_le (by omega)] at this
      have HTX := Lib.hid hTX
      clear hch hbr hbv hrows hb hTX
      go_wp2_with fail
      (try simp only [Exit.inBlock, Exit.then])
      refine bodyPost_ret (v := .agg #[.slice (some ⟨w.heap.size + 1 + 1, 0, none⟩) 8 8]) (by simp [results, Try.results69, go_sem, *]) rfl ?_
      have hcs : Chg (· = w.heap.size + 1) wo (wo.setCell ⟨w.heap.size + 1, 0, none⟩ (.slice (some ⟨w.heap.size + 1 + 1, 0, none⟩) 8 8)) := (Chg.refl (· = w.heap.size + 1) wo).setCell (p := ⟨w.heap.size + 1, 0, none⟩) (.inl rfl) _
      have hss : (wo.setCell ⟨w.heap.size + 1, 0, none⟩ (.slice (some ⟨w.heap.size + 1 + 1, 0, none⟩) 8 8)).heap.size = wo.heap.size := by simp [World.setCell]
      refine ⟨w.heap.size + 1 + 1, T, rfl, HTX.out, HC.out.own hcs (Nat.le_succ _), ?_, ?_⟩
      · rw [hTl, hss]
        exact OwnS.of_blk (HB.out.chg hcs (by omega)) (by omega) (by omega) (Nat.le_refl _)
      · rw [hss]
        exact (HRW.out.chg hcs (fun i h1 h2 h3 => by omega)).more (by omega) (Nat.le_refl _)
end Go.Proofs.Ytbgepefdfioljaa
