/- The laws' helpers on devices: copies, sizes, comparisons. -/
import Derived.Test.YtenbbkmbnpdfaaaVe
import Derived.Test.YtenbbkmbnpdfaaaI
namespace Go.Proofs.Ytenbbkmbnpdfaaa
open Go.RowKit
theorem info_page : (Try.prog.info? 60).map (fun i => (i.zero, i.size, i.bytes)) = some (some (.agg #[.bool false, .int .i64 0, .int .i64 0, .int .i64 0, .int .i64 0]), 5, 40) := by kernel_rfl
theorem info_block : (Try.prog.info? 44).map (fun i => (i.zero, i.size, i.bytes)) = some (some (.agg #[.int .i64 0, .slice none 0 0]), 2, 32) := by kernel_rfl
theorem Blk.room5 {w : World} {g k : Nat} {t : TypeId} {A R : List Value} {z0 z1 z2 z3 z4 : Value} (h : Blk w g t (A ++ z0 :: z1 :: z2 :: z3 :: z4 :: R).toArray) (hk : A.length = k) :
    w.cell? ⟨g, k, none⟩ = some z0 ∧ w.cell? ⟨g, k + 1, none⟩ = some z1 ∧ w.cell? ⟨g, k + 2, none⟩ = some z2 ∧ w.cell? ⟨g, k + 3, none⟩ = some z3 ∧ w.cell? ⟨g, k + 4, none⟩ = some z4 :=
  ⟨h.room hk, Blk.roomAt (B := [z0]) h hk rfl, Blk.roomAt (B := [z0, z1]) h hk rfl, Blk.roomAt (B := [z0, z1, z2]) h hk rfl, Blk.roomAt (B := [z0, z1, z2, z3]) h hk rfl⟩
theorem Blk.room2 {w : World} {g k : Nat} {t : TypeId} {A R : List Value} {z0 z1 : Value} (h : Blk w g t (A ++ z0 :: z1 :: R).toArray) (hk : A.length = k) :
    w.cell? ⟨g, k, none⟩ = some z0 ∧ w.cell? ⟨g, k + 1, none⟩ = some z1 :=
  ⟨h.room hk, Blk.roomAt (B := [z0]) h hk rfl⟩
theorem pgs_reps_succ (r : Nat) : reps (r + 1) (pcells zPg) = .bool false :: .int .i64 0 :: .int .i64 0 :: .int .i64 0 :: .int .i64 0 :: reps r (pcells zPg) := by rw [reps_succ]; rfl
set_option maxRecDepth 100000 in
set_option maxHeartbeats 1000000 in
theorem toPage_any (p : Pg) (w : World) :
    Calls Try.prog 96 #[pval p] w fun e w' => e = .returned (pval p) ∧ Chg NoB w w' := by
  obtain ⟨f, fi, pl, va, st⟩ := p
  go_enter Try.func96, Try.ntmps96
  go_wp2
  refine bodyPost_ret (v := .agg #[.bool f, .int .i64 fi, .int .i64 pl, .int .i64 va, .int .i64 st]) (by simp [results, Try.results96, go_sem]) rfl ⟨rfl, ?_⟩
  repeat (first | exact Chg.refl _ _ | refine Chg.alloc ?_ _)
set_option maxRecDepth 100000 in
set_option maxHeartbeats 1000000 in
theorem toPageS_any (F : Nat → Prop) (A : Option Addr) (c : Nat) (ps : List Pg) (w : World) (h : Rd F w A (pgs ps)) (hl : ps.length ≤ 1048576) :
    Calls Try.prog 85 #[.slice A ps.length c] w fun e w' => ∃ g, e = .returned (.slice (some ⟨g, 0, none⟩) ps.length ps.length) ∧ w.heap.size ≤ g ∧ Chg NoB w w' ∧ Blk w' g 60 (pgs ps).toArray := by
  obtain ⟨i0, hi, hz0, hz1, hz2⟩ := info_parts info_page
  have hmk := fun W => run_make_reps (P := Try.prog) 42 60 i0 _ (pcells zPg) Try.underlying42 hi hz0 rfl hz1 ps.length (by rw [hz2]; omega) (by omega) W
  go_enter Try.func85, Try.ntmps85
  go_wp2
  go_loopw [4] (fun i wr => ∃ k : Nat, k ≤ ps.length ∧ i = .int .i64 k ∧ Chg NoB w wr ∧ Blk wr w.heap.size 60 (pgs (ps.take k) ++ reps (ps.length - k) (pcells zPg)).toArray) (fun i _ => ps.length - (intOf i).toNat)
  case atStart => exact ⟨0, Nat.zero_le _, rfl, (Chg.refl _ _).alloc _, Blk.new _ _ _⟩
  case round =>
    obtain ⟨k, hk, rfl, hch, hb⟩ := hrel
    by_cases hlt : k < ps.length
    · obtain ⟨bb, o, rfl, hf, hbl, c0, c1, c2, c3, c4⟩ := pgs_at (h.new hch) hlt
      obtain ⟨r, hr⟩ : ∃ r, ps.length - k = r + 1 := ⟨ps.length - k - 1, by omega⟩
      have hr1 : ps.length - (k + 1) = r := by omega
      rw [hr, pgs_reps_succ] at hb
      have hlen : (pgs (ps.take k)).length = k * 5 := by rw [pgs_length, List.length_take]; omega
      have hi0 : (0 : Int) ≤ (k : Int) := Int.natCast_nonneg _
      have hi1 : (k : Int) < (ps.length : Int) := by omega
      have HLEN := Lib.hid hlen
      have HT := Lib.hid (pgs_take_succ ps k hlt)
      have HR := Lib.hid hr1
      have HC := Lib.hid hch
      have HB := Lib.hid hb
      clear hr hr1 hlen hb hch
      go_wp2_with fail
      refine (toPage_any ps[k] _).mono ?_
      rintro e w1 ⟨rfl, hc1⟩
      have hb1 := HB.out.chg hc1 (fun x => x)
      obtain ⟨x0, x1, x2, x3, x4⟩ := hb1.room5 HLEN.out
      have f0 := hb1.frozen (k * 5)
      have f1 := hb1.frozen (k * 5 + 1)
      have f2 := hb1.frozen (k * 5 + 2)
      have f3 := hb1.frozen (k * 5 + 3)
      have f4 := hb1.frozen (k * 5 + 4)
      have HF := Lib.hid (hb1.fill5 HLEN.out (.bool ps[k].full) (.int .i64 ps[k].file) (.int .i64 ps[k].place) (.int .i64 ps[k].value) (.int .i64 ps[k].stamp))
      have HCC := Lib.hid (HC.out.trans hc1)
      clear hb1 hc1 c0 c1 c2 c3 c4
      go_wp2
      go_roundw
      case rel =>
        refine ⟨k + 1, by omega, by go_num, (((((HCC.out.setCell (p := ⟨w.heap.size, k * 5, none⟩) (.inr (Nat.le_refl _)) _).setCell (p := ⟨w.heap.size, k * 5 + 1, none⟩) (.inr (Nat.le_refl _)) _).setCell (p := ⟨w.heap.size, k * 5 + 2, none⟩) (.inr (Nat.le_refl _)) _).setCell (p := ⟨w.heap.size, k * 5 + 3, none⟩) (.inr (Nat.le_refl _)) _).setCell (p := ⟨w.heap.size, k * 5 + 4, none⟩) (.inr (Nat.le_refl _)) _), ?_⟩
        rw [HT.out, HR.out, List.append_assoc]
        exact HF.out
      case measure => simp [intOf]; omega
    · obtain rfl : k = ps.length := by omega
      have HB := Lib.hid hb
      have HC := Lib.hid hch
      clear hb hch
      go_wp2
      go_ret
      refine ⟨_, rfl, Nat.le_refl _, HC.out, ?_⟩
      have := HB.out
      rwa [Nat.sub_self, reps_zero, List.append_nil, List.take_length] at this
set_option maxRecDepth 100000 in
set_option maxHeartbeats 1000000 in
theorem toBlock_any (F : Nat → Prop) (A : Option Addr) (c : Nat) (b : Bk) (w : World) (h : Rd F w A (pgs b.pages)) (hl : b.pages.length ≤ 1048576) :
    Calls Try.prog 63 #[.agg #[.int .i64 b.wear, .slice A b.pages.length c]] w fun e w' => ∃ g, e = .returned (.agg #[.int .i64 b.wear, .slice (some ⟨g, 0, none⟩) b.pages.length b.pages.length]) ∧ w.heap.size ≤ g ∧ g < w'.heap.size ∧ Chg NoB w w' ∧ Blk w' g 60 (pgs b.pages).toArray := by
  obtain ⟨we, ps⟩ := b
  simp only at h hl ⊢
  have hca := (Chg.refl NoB w).alloc (.cells #[.int .i64 we, .slice A ps.length c] 73)
  obtain ⟨hb1, hb2, hcb⟩ := lit2 (w.alloc (.cells #[.int .i64 we, .slice A ps.length c] 73)) 44 44 #[.int .i64 0, .slice none 0 0] #[.int .i64 we, .slice none 0 0]
  rw [World.size_alloc] at hb1 hb2
  have HC := Lib.hid (hca.trans hcb)
  have HR0 := Lib.hid (h.new HC.out)
  have HB1 := Lib.hid hb1
  have HB2 := Lib.hid hb2
  clear hca hcb hb1 hb2
  go_enter Try.func63, Try.ntmps63
  go_wp2_with fail
  refine (toPageS_any _ A c ps _ HR0.out hl).mono ?_
  rintro e' w1 ⟨g, rfl, hg, hc1, hb⟩
  have hb1 := HB1.out.chg hc1 (fun x => x)
  have hb2 := HB2.out.chg hc1 (fun x => x)
  have x0 : w1.cell? ⟨(w.heap.size+1), 0, none⟩ = some (.int .i64 0) := (hb1.cell _).trans rfl
  have f0 := hb1.frozen 0
  have x1 : w1.cell? ⟨(w.heap.size+1), 1, none⟩ = some (.slice none 0 0) := (hb1.cell _).trans rfl
  have f1 := hb1.frozen 1
  have y0 : w1.cell? ⟨(w.heap.size+1+1), 0, none⟩ = some (.int .i64 we) := (hb2.cell _).trans rfl
  have h0 := hb2.frozen 0
  have y1 : w1.cell? ⟨(w.heap.size+1+1), 1, none⟩ = some (.slice none 0 0) := (hb2.cell _).trans rfl
  have h1 := hb2.frozen 1
  have hsz : w.heap.size + 1 + 1 < (((w.alloc (.cells #[.int .i64 we, .slice A ps.length c] 73)).alloc (.cells #[.int .i64 0, .slice none 0 0] 44)).alloc (.cells #[.int .i64 we, .slice none 0 0] 44)).heap.size := HB2.out.lt
  have hgg : w.heap.size + 1 + 1 < g := Nat.lt_of_lt_of_le hsz hg
  have HG := Lib.hid hgg
  have HC1 := Lib.hid (HC.out.trans hc1)
  have HBP := Lib.hid hb
  clear hb1 hb2 hc1 hb hsz hg hgg
  go_wp2_with fail
  (try simp only [Exit.inBlock, Exit.then])
  refine bodyPost_ret (v := .agg #[.int .i64 we, .slice (some ⟨g, 0, none⟩) ps.length ps.length]) (by simp [results, Try.results63, go_sem, *]) rfl ?_
  have hcs : Chg (fun i => i = w.heap.size + 1 ∨ i = w.heap.size + 1 + 1) w1 (((w1.setCell ⟨w.heap.size + 1 + 1, 1, none⟩ (.slice (some ⟨g, 0, none⟩) ps.length ps.length)).setCell ⟨w.heap.size + 1, 0, none⟩ (.int .i64 we)).setCell ⟨w.heap.size + 1, 1, none⟩ (.slice (some ⟨g, 0, none⟩) ps.length ps.length)) :=
    (((Chg.refl _ w1).setCell (p := ⟨w.heap.size + 1 + 1, 1, none⟩) (.inl (.inr rfl)) _).setCell (p := ⟨w.heap.size + 1, 0, none⟩) (.inl (.inl rfl)) _).setCell (p := ⟨w.heap.size + 1, 1, none⟩) (.inl (.inl rfl)) _
  have hgl := HBP.out.lt
  have hg := HG.out
  exact ⟨g, rfl, by omega, by simpa [World.setCell] using hgl, HC1.out.trans' hcs (fun i hi => .inr (by omega)), HBP.out.chg hcs (by omega)⟩
set_option maxRecDepth 100000 in
set_option maxHeartbeats 2000000 in
theorem toBlockS_any (F : Nat → Prop) (A : Option Addr) (c : Nat) (D : List Bk) (w : World) (h : DevR F w A D) (hl : D.length ≤ 1048576) (hX : ∀ k (hk : k < D.length), D[k].pages.length ≤ 1048576) :
    Calls Try.prog 25 #[.slice A D.length c] w fun e w' => ∃ g T, e = .returned (.slice (some ⟨g, 0, none⟩) D.length D.length) ∧ bksOf T = D ∧ Chg NoB w w' ∧ DevO w.heap.size w'.heap.size w' (some ⟨g, 0, none⟩) D.length T := by
  obtain ⟨i0, hi, hz0, hz1, hz2⟩ := info_parts info_block
  have hmk := fun W => run_make_reps (P := Try.prog) 24 44 i0 _ [.int .i64 0, .slice none 0 0] Try.underlying24 hi hz0 rfl hz1 D.length (by rw [hz2]; omega) (by omega) W
  have HX := Lib.hid hX
  clear hX
  go_enter Try.func25, Try.ntmps25
  go_wp2
  go_loopw [4] (fun i wr => ∃ (k : Nat) (T : List BkO), k ≤ D.length ∧ i = .int .i64 k ∧ Chg NoB w wr ∧ Hid (bksOf T = D.take k) ∧ BksO (w.heap.size + 1) wr.heap.size wr T ∧ Blk wr w.heap.size 44 (bcells T ++ reps (D.length - k) [.int .i64 0, .slice none 0 0]).toArray) (fun i _ => D.length - (intOf i).toNat)
  case atStart => exact ⟨0, [], Nat.zero_le _, rfl, (Chg.refl _ _).alloc _, Lib.hid rfl, BksO.nil _ _ _, Blk.new _ _ _⟩
  case round =>
    obtain ⟨k, T, hk, rfl, hch, hT, hrows, hb⟩ := hrel
    have hTl : T.length = k := by have := congrArg List.length hT.out; rw [bksOf_length, List.length_take] at this; omega
    by_cases hlt : k < D.length
    · obtain ⟨bb, o, A', c', rfl, hf, c0, c1, hr, hcc⟩ := (h.new hch) k hlt
      have hi0 : (0 : Int) ≤ (k : Int) := Int.natCast_nonneg _
      have hi1 : (k : Int) < (D.length : Int) := by omega
      have HC := Lib.hid hch
      have HB := Lib.hid hb
      have HR := Lib.hid hrows
      have HRD := Lib.hid hr
      have HTL := Lib.hid hTl
      clear hch hb hrows hr hTl
      go_wp2_with fail
      refine (toBlock_any _ A' c' D[k] _ HRD.out (HX.out k hlt)).mono ?_
      rintro e w1 ⟨g1, rfl, hg1, hg2, hc2, hb1⟩
      have hb2 := HB.out.chg hc2 (fun x => x)
      obtain ⟨r, hr⟩ : ∃ r, D.length - k = r + 1 := ⟨D.length - k - 1, by omega⟩
      have hr1 : D.length - (k + 1) = r := by omega
      rw [hr, reps_succ] at hb2
      have hlenT : (bcells T).length = k * 2 := by rw [bcells_length, HTL.out]
      obtain ⟨x0, x1⟩ := hb2.room2 hlenT
      have f0 := hb2.frozen (k * 2)
      have f1 := hb2.frozen (k * 2 + 1)
      have hsz := HC.out.size
      have hws := HB.out.lt
      have HF := Lib.hid (hb2.fill2 hlenT (.int .i64 D[k].wear) (.slice (some ⟨g1, 0, none⟩) D[k].pages.length D[k].pages.length))
      have hcs : Chg (· = w.heap.size) w1 ((w1.setCell ⟨w.heap.size, k * 2, none⟩ (.int .i64 D[k].wear)).setCell ⟨w.heap.size, k * 2 + 1, none⟩ (.slice (some ⟨g1, 0, none⟩) D[k].pages.length D[k].pages.length)) :=
        ((Chg.refl (· = w.heap.size) w1).setCell (p := ⟨w.heap.size, k * 2, none⟩) (.inl rfl) _).setCell (p := ⟨w.heap.size, k * 2 + 1, none⟩) (.inl rfl) _
      have hok : BkO.ok (w.heap.size + 1) w1.heap.size w1 ⟨g1, D[k].pages.length, D[k].wear, D[k].pages, []⟩ := ⟨show w.heap.size + 1 ≤ g1 by omega, hg2, by rw [List.append_nil]; exact hb1, Nat.le_refl _⟩
      have hsz1 : ((w1.setCell ⟨w.heap.size, k * 2, none⟩ (.int .i64 D[k].wear)).setCell ⟨w.heap.size, k * 2 + 1, none⟩ (.slice (some ⟨g1, 0, none⟩) D[k].pages.length D[k].pages.length)).heap.size = w1.heap.size := by simp [World.setCell]
      have HRW := Lib.hid (((HR.out.new hc2).snoc hok hg1).chg hcs (fun i h1 h2 => by omega))
      have HCW := Lib.hid ((HC.out.trans hc2).trans' hcs (fun i hi => .inr (by omega)))
      have HSZ := Lib.hid hsz1
      have HL := Lib.hid (show bksOf (T ++ [⟨g1, D[k].pages.length, D[k].wear, D[k].pages, []⟩]) = D.take (k + 1) by
        unfold bksOf at *
        rw [List.map_append, hT.out, List.take_succ_eq_append_getElem hlt]; rfl)
      have HR1 := Lib.hid hr1
      clear hr hr1 hlenT hb2 hb1 hok hcs hsz1 hc2 hg1 hg2 c0 c1
      go_wp2
      go_roundw
      case rel =>
        refine ⟨k + 1, T ++ [⟨g1, D[k].pages.length, D[k].wear, D[k].pages, []⟩], by omega, by go_num, HCW.out, HL, by rw [HSZ.out]; exact HRW.out, ?_⟩
        rw [HR1.out, bcells_snoc, List.append_assoc]
        exact HF.out
      case measure => simp [intOf]; omega
    · obtain rfl : k = D.length := by omega
      have HB := Lib.hid hb
      have HC := Lib.hid hch
      have HR := Lib.hid hrows
      clear hb hch hrows
      go_wp2
      go_ret
      have hTX : bksOf T = D := by have := hT.out; rwa [List.take_length] at this
      refine ⟨w.heap.size, T, rfl, hTX, HC.out, ?_, HR.out.more (by omega) (Nat.le_refl _)⟩
      have hb := HB.out
      rw [Nat.sub_self, reps_zero, List.append_nil] at hb
      rw [hTl]
      exact OwnS.of_blk hb (Nat.le_refl _) hb.lt (Nat.le_refl _)
def szLeft (left : Int) (n : Nat) : Int := if left < (n : Int) then -1 else left - (n : Int)
def pagesTo (D : List Bk) (k : Nat) : Nat := D.length + ((D.take k).map fun b => b.pages.length).sum
def devSize (D : List Bk) : Nat := D.length + (D.map fun b => b.pages.length).sum
theorem pagesTo_succ (D : List Bk) (k : Nat) (h : k < D.length) : pagesTo D (k + 1) = pagesTo D k + D[k].pages.length := by
  unfold pagesTo; rw [List.take_succ_eq_append_getElem h, List.map_append, List.sum_append]; simp; omega
theorem pagesTo_le (D : List Bk) (k : Nat) : pagesTo D k ≤ devSize D := by
  unfold pagesTo devSize
  have : (D.map fun b => b.pages.length).sum = ((D.take k).map fun b => b.pages.length).sum + ((D.drop k).map fun b => b.pages.length).sum := by
    rw [← List.sum_append, ← List.map_append, List.take_append_drop]
  omega
theorem pagesTo_full (D : List Bk) : pagesTo D D.length = devSize D := by unfold pagesTo devSize; rw [List.take_length]
theorem devSize_page (D : List Bk) (k : Nat) (h : k < D.length) : D[k].pages.length ≤ devSize D := by
  have := pagesTo_succ D k h
  have := pagesTo_le D (k + 1)
  omega
theorem devSize_len (D : List Bk) : D.length ≤ devSize D := by unfold devSize; omega
theorem szPageS_g (A : Option Addr) (n c : Nat) (left : Int) (w : World) (hn : n ≤ maxLen) (h0 : 0 ≤ left) (h1 : left ≤ 1048576) :
    Calls Try.prog 83 #[.slice A n c, .int .i64 left] w fun e w' => e = .returned (.int .i64 (szLeft left n)) ∧ w = w' := by
  unfold maxLen at hn
  unfold szLeft
  by_cases h : left < (n : Int)
  · rw [if_pos h]
    go_enter Try.func83, Try.ntmps83
    go_wp2
    go_ret
    exact ⟨rfl, rfl⟩
  · rw [if_neg h]
    go_enter Try.func83, Try.ntmps83
    go_wp2
    go_ret
    exact ⟨rfl, rfl⟩
theorem szBlock_g (we : Int) (A : Option Addr) (n c : Nat) (left : Int) (w : World) (hn : n ≤ maxLen) (h0 : 0 ≤ left) (h1 : left ≤ 1048576) :
    Calls Try.prog 61 #[.agg #[.int .i64 we, .slice A n c], .int .i64 left] w fun e w' => e = .returned (.int .i64 (szLeft left n)) ∧ Chg NoB w w' := by
  have HC := Lib.hid ((Chg.refl NoB w).alloc (.cells #[.int .i64 we, .slice A n c] 73))
  by_cases h : left < (n : Int)
  · have e : szLeft left n = -1 := if_pos h
    have E := Lib.hid e
    clear e
    go_enter Try.func61, Try.ntmps61
    go_wp2_with fail
    refine (szPageS_g A n c left _ hn h0 h1).mono ?_
    rintro e w1 ⟨rfl, rfl⟩
    rw [E.out]
    go_wp2
    go_ret
    exact ⟨ret_int E.out.symm, HC.out⟩
  · have e : szLeft left n = left - (n : Int) := if_neg h
    have E := Lib.hid e
    clear e
    have hge : ¬ (left - (n : Int) < 0) := by omega
    go_enter Try.func61, Try.ntmps61
    go_wp2_with fail
    refine (szPageS_g A n c left _ hn h0 h1).mono ?_
    rintro e w1 ⟨rfl, rfl⟩
    rw [E.out]
    go_wp2
    go_ret
    exact ⟨ret_int E.out.symm, HC.out⟩
set_option maxRecDepth 100000 in
set_option maxHeartbeats 1000000 in
theorem szBlockS_g (F : Nat → Prop) (A : Option Addr) (c : Nat) (D : List Bk) (left : Int) (w : World) (h : DevR F w A D) (hX : ∀ k (hk : k < D.length), D[k].pages.length ≤ maxLen) (hn : D.length ≤ maxLen) (h0 : 0 ≤ left) (h1 : left ≤ 1048576) :
    Calls Try.prog 23 #[.slice A D.length c, .int .i64 left] w fun e w' => e = .returned (.int .i64 (szLeft left (devSize D))) ∧ Chg NoB w w' := by
  have hn' := hn
  unfold maxLen at hn'
  have HX := Lib.hid hX
  clear hX
  by_cases hlt : left < (D.length : Int)
  · have hs : szLeft left (devSize D) = -1 := by have := devSize_len D; unfold szLeft; rw [if_pos (by omega)]
    rw [hs]
    go_enter Try.func23, Try.ntmps23
    go_wp2
    go_ret
    exact ⟨rfl, Chg.refl _ _⟩
  go_enter Try.func23, Try.ntmps23
  go_wp2
  go_loopw [1, 5] (fun v i wr => ∃ k : Nat, k ≤ D.length ∧ i = .int .i64 k ∧ v = .int .i64 (left - (pagesTo D k : Nat)) ∧ Hid ((pagesTo D k : Int) ≤ left) ∧ Chg NoB w wr) (fun _ i _ => D.length - (intOf i).toNat)
  case atStart => exact ⟨0, Nat.zero_le _, rfl, by simp [pagesTo], Lib.hid (by simp [pagesTo]; omega), Chg.refl _ _⟩
  case round =>
    obtain ⟨k, hk, rfl, rfl, hle, hch⟩ := hrel
    have HC := Lib.hid hch
    by_cases hk1 : k < D.length
    · obtain ⟨bb, o, A', c', rfl, hf, c0, c1, hr, hcc⟩ := (h.new hch) k hk1
      have hlen := HX.out k hk1
      have HL := Lib.hid (pagesTo_succ D k hk1)
      have hle' := hle.out
      clear hch hr
      go_wp2_with fail
      refine (szBlock_g D[k].wear A' D[k].pages.length c' _ _ hlen (by omega) (by omega)).mono ?_
      rintro e w' ⟨rfl, hc1⟩
      have HCC := Lib.hid (HC.out.trans hc1)
      clear hc1
      by_cases hneg : left - (pagesTo D k : Nat) < (D[k].pages.length : Int)
      · have hs : szLeft (left - (pagesTo D k : Nat)) D[k].pages.length = -1 := if_pos hneg
        rw [hs]
        have hs2 : szLeft left (devSize D) = -1 := by have := pagesTo_le D (k + 1); have := HL.out; unfold szLeft; rw [if_pos (by omega)]
        have HS := Lib.hid hs2
        clear hs hs2
        go_wp2
        go_ret
        exact ⟨ret_int HS.out.symm, HCC.out⟩
      · have hs : szLeft (left - (pagesTo D k : Nat)) D[k].pages.length = left - (pagesTo D (k + 1) : Nat) := by have := HL.out; unfold szLeft; rw [if_neg hneg]; omega
        rw [hs]
        have hle2 : (pagesTo D (k + 1) : Int) ≤ left := by have := HL.out; omega
        have hnn : ¬ (left - (pagesTo D (k + 1) : Nat) < 0) := by omega
        go_wp2
        go_roundw
        case rel => exact ⟨k + 1, by omega, by go_num, rfl, Lib.hid hle2, HCC.out⟩
        case measure => simp [intOf]; omega
    · obtain rfl : k = D.length := by omega
      have HT := Lib.hid (pagesTo_full D)
      have hle' := hle.out
      clear hch
      go_wp2
      go_ret
      rw [HT.out] at hle'
      exact ⟨ret_int (by unfold szLeft; rw [if_neg (by omega)]; first | rfl | rw [HT.out]), HC.out⟩
abbrev hval' (a b c : Int) : Value := .agg #[.int .i64 a, .int .i64 b, .int .i64 c]
theorem toHeads_any (a b c : Int) (w : World) :
    Calls Try.prog 32 #[hval' a b c] w fun e w' => e = .returned (hval' a b c) ∧ Chg NoB w w' := by
  go_enter Try.func32, Try.ntmps32
  go_wp2
  refine bodyPost_ret (v := .agg #[.int .i64 a, .int .i64 b, .int .i64 c]) (by simp [results, Try.results32, go_sem]) rfl ⟨rfl, ?_⟩
  repeat (first | exact Chg.refl _ _ | refine Chg.alloc ?_ _)
end Go.Proofs.Ytenbbkmbnpdfaaa
