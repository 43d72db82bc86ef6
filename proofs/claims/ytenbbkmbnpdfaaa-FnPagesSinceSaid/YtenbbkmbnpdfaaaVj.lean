/- Heads: isHead, HeadsValid. -/
import Derived.Test.YtenbbkmbnpdfaaaVi
import Derived.LoopN
namespace Go.Proofs.Ytenbbkmbnpdfaaa
open Go.RowKit

theorem one_round {P : Program} {c : Code} {Q : Exit → Act → World → Prop} {n : Nat} {a : Act} {w : World} (h : c.wp P (Exit.then (Code.rounds P c Q n) Q) a w) : Code.rounds P c Q (n + 1) a w := h
abbrev hval (h : Hd) : Value := .agg #[.int .i64 h.hot, .int .i64 h.warm, .int .i64 h.cold]
theorem isHead_any (h : Hd) (n : Int) (w : World) :
    Calls Try.prog 69 #[hval h, .int .i64 n] w fun e w' => e = .returned (.bool (decide (isHead h n))) ∧ Chg NoB w w' := by
  obtain ⟨a, b, c⟩ := h
  go_enter Try.func69, Try.ntmps69
  by_cases h1 : n = a
  · have h1' : (n == a) = true := by simpa using h1
    have H := Lib.hid h1
    clear h1
    go_wp2
    go_ret
    exact ⟨ret_bool (decide_eq_true (.inl H.out)).symm, (Chg.refl _ _).alloc _⟩
  have h1' : (n == a) = false := by simpa using h1
  have H1 := Lib.hid h1
  clear h1
  by_cases h2 : n = b
  · have h2' : (n == b) = true := by simpa using h2
    have H := Lib.hid h2
    clear h2
    go_wp2
    go_ret
    exact ⟨ret_bool (decide_eq_true (.inr (.inl H.out))).symm, (Chg.refl _ _).alloc _⟩
  have h2' : (n == b) = false := by simpa using h2
  have H2 := Lib.hid h2
  clear h2
  go_wp2
  go_ret
  refine ⟨ret_bool (bool_dec ?_), (Chg.refl _ _).alloc _⟩
  unfold isHead
  simp only [beq_iff_eq]
  exact ⟨fun hh => .inr (.inr hh), fun hh => hh.elim (fun h => absurd h H1.out) (fun h => h.elim (fun h => absurd h H2.out) id)⟩
set_option maxRecDepth 100000 in
set_option maxHeartbeats 1000000 in
theorem iHeadsValid_any (F : Nat → Prop) (A : Option Addr) (c : Nat) (D : List Bk) (h : Hd) (w : World) (hr : DevR F w A D) :
    Calls Try.prog 68 #[.slice A D.length c, hval h] w fun e w' => e = .returned (.bool (decide (HeadsOk D h))) ∧ Chg NoB w w' := by
  obtain ⟨x, y, z⟩ := h
  have hca := (Chg.refl NoB w).alloc (.cells #[.int .i64 x, .int .i64 y, .int .i64 z] 38)
  have HB := Lib.hid (Blk.new w 38 #[.int .i64 x, .int .i64 y, .int .i64 z])
  have HC := Lib.hid hca
  have HR := Lib.hid (hr.new hca)
  clear hca hr
  by_cases hd : DvOk D
  case neg =>
    have HD := Lib.hid hd
    clear hd
    go_enter Try.func68, Try.ntmps68
    go_wp2_with fail
    refine (iDeviceValid_f _ A c D _ HR.out HD.out).mono ?_
    rintro e w1 ⟨rfl, hc1⟩
    have HCC := Lib.hid (HC.out.trans hc1)
    clear hc1
    go_wp2
    go_ret
    exact ⟨ret_bool (decide_eq_false fun hh => HD.out hh.1).symm, HCC.out⟩
  have HD := Lib.hid hd
  have h1 := hd.1.1
  have h2 := hd.1.2
  clear hd
  go_enter Try.func68, Try.ntmps68
  go_wp2_with fail
  refine (iDeviceValid_t _ A c D _ HR.out HD.out).mono ?_
  rintro e w1 ⟨rfl, hc1⟩
  have HCC := Lib.hid (HC.out.trans hc1)
  have hb := HB.out.chg hc1 (fun x => x)
  have x0 : w1.cell? ⟨w.heap.size, 0, none⟩ = some (.int .i64 x) := (hb.cell _).trans rfl
  have x1 : w1.cell? ⟨w.heap.size, 1, none⟩ = some (.int .i64 y) := (hb.cell _).trans rfl
  have x2 : w1.cell? ⟨w.heap.size, 2, none⟩ = some (.int .i64 z) := (hb.cell _).trans rfl
  clear hc1 hb
  --LEAVES
  have i0 : ∀ w, (Instr.index 91 (.agg #[.int .i64 x, .int .i64 y, .int .i64 z]) (.int .i64 0)).run Try.prog w = .ok (.int .i64 x) w := fun _ => by kernel_rfl
  have i1 : ∀ w, (Instr.index 91 (.agg #[.int .i64 x, .int .i64 y, .int .i64 z]) (.int .i64 1)).run Try.prog w = .ok (.int .i64 y) w := fun _ => by kernel_rfl
  have i2 : ∀ w, (Instr.index 91 (.agg #[.int .i64 x, .int .i64 y, .int .i64 z]) (.int .i64 2)).run Try.prog w = .ok (.int .i64 z) w := fun _ => by kernel_rfl
  by_cases a0 : -1 ≤ x
  case neg =>
    have HO : Hid (¬ HdOk D.length ⟨x, y, z⟩) := Lib.hid (fun hh => by obtain ⟨⟨p1, p2⟩, ⟨p3, p4⟩, ⟨p5, p6⟩, p7, p8, p9⟩ := hh; simp only at p1 p2 p3 p4 p5 p6 p7 p8 p9; omega)
    go_wp2
    refine wp_loop_rounds 4 ?_
    repeat (first | (refine one_round ?_; go_wp2) | (refine wp_loop_rounds 3 ?_; refine one_round ?_; go_wp2))
    go_ret
    exact ⟨ret_bool (decide_eq_false fun hh => HO.out hh.2).symm, HCC.out.alloc _⟩
  by_cases a1 : x < (D.length : Int)
  case neg =>
    have HO : Hid (¬ HdOk D.length ⟨x, y, z⟩) := Lib.hid (fun hh => by obtain ⟨⟨p1, p2⟩, ⟨p3, p4⟩, ⟨p5, p6⟩, p7, p8, p9⟩ := hh; simp only at p1 p2 p3 p4 p5 p6 p7 p8 p9; omega)
    go_wp2
    refine wp_loop_rounds 4 ?_
    repeat (first | (refine one_round ?_; go_wp2) | (refine wp_loop_rounds 3 ?_; refine one_round ?_; go_wp2))
    go_ret
    exact ⟨ret_bool (decide_eq_false fun hh => HO.out hh.2).symm, HCC.out.alloc _⟩
  by_cases b0 : -1 ≤ y
  case neg =>
    have HO : Hid (¬ HdOk D.length ⟨x, y, z⟩) := Lib.hid (fun hh => by obtain ⟨⟨p1, p2⟩, ⟨p3, p4⟩, ⟨p5, p6⟩, p7, p8, p9⟩ := hh; simp only at p1 p2 p3 p4 p5 p6 p7 p8 p9; omega)
    go_wp2
    refine wp_loop_rounds 4 ?_
    repeat (first | (refine one_round ?_; go_wp2) | (refine wp_loop_rounds 3 ?_; refine one_round ?_; go_wp2))
    go_ret
    exact ⟨ret_bool (decide_eq_false fun hh => HO.out hh.2).symm, HCC.out.alloc _⟩
  by_cases b1 : y < (D.length : Int)
  case neg =>
    have HO : Hid (¬ HdOk D.length ⟨x, y, z⟩) := Lib.hid (fun hh => by obtain ⟨⟨p1, p2⟩, ⟨p3, p4⟩, ⟨p5, p6⟩, p7, p8, p9⟩ := hh; simp only at p1 p2 p3 p4 p5 p6 p7 p8 p9; omega)
    go_wp2
    refine wp_loop_rounds 4 ?_
    repeat (first | (refine one_round ?_; go_wp2) | (refine wp_loop_rounds 3 ?_; refine one_round ?_; go_wp2))
    go_ret
    exact ⟨ret_bool (decide_eq_false fun hh => HO.out hh.2).symm, HCC.out.alloc _⟩
  by_cases b2 : 0 ≤ y
  case neg =>
    by_cases c0 : -1 ≤ z
    case neg =>
      have HO : Hid (¬ HdOk D.length ⟨x, y, z⟩) := Lib.hid (fun hh => by obtain ⟨⟨p1, p2⟩, ⟨p3, p4⟩, ⟨p5, p6⟩, p7, p8, p9⟩ := hh; simp only at p1 p2 p3 p4 p5 p6 p7 p8 p9; omega)
      go_wp2
      refine wp_loop_rounds 4 ?_
      repeat (first | (refine one_round ?_; go_wp2) | (refine wp_loop_rounds 3 ?_; refine one_round ?_; go_wp2))
      go_ret
      exact ⟨ret_bool (decide_eq_false fun hh => HO.out hh.2).symm, HCC.out.alloc _⟩
    by_cases c1 : z < (D.length : Int)
    case neg =>
      have HO : Hid (¬ HdOk D.length ⟨x, y, z⟩) := Lib.hid (fun hh => by obtain ⟨⟨p1, p2⟩, ⟨p3, p4⟩, ⟨p5, p6⟩, p7, p8, p9⟩ := hh; simp only at p1 p2 p3 p4 p5 p6 p7 p8 p9; omega)
      go_wp2
      refine wp_loop_rounds 4 ?_
      repeat (first | (refine one_round ?_; go_wp2) | (refine wp_loop_rounds 3 ?_; refine one_round ?_; go_wp2))
      go_ret
      exact ⟨ret_bool (decide_eq_false fun hh => HO.out hh.2).symm, HCC.out.alloc _⟩
    by_cases c2 : 0 ≤ z
    case neg =>
      have HO : Hid (HdOk D.length ⟨x, y, z⟩) := Lib.hid ⟨⟨a0, a1⟩, ⟨b0, b1⟩, ⟨c0, c1⟩, fun h => absurd h b2, fun h => absurd h c2, fun h => absurd h c2⟩
      go_wp2
      refine wp_loop_rounds 4 ?_
      repeat (first | (refine one_round ?_; go_wp2) | (refine wp_loop_rounds 3 ?_; refine one_round ?_; go_wp2))
      go_ret
      exact ⟨ret_bool (decide_eq_true ⟨HD.out, HO.out⟩).symm, HCC.out.alloc _⟩
    by_cases c3 : z = x
    case pos =>
      have c3' : (z == x) = true := by simpa using c3
      have C3 := Lib.hid c3
      have HO : Hid (¬ HdOk D.length ⟨x, y, z⟩) := Lib.hid (fun hh => by obtain ⟨⟨p1, p2⟩, ⟨p3, p4⟩, ⟨p5, p6⟩, p7, p8, p9⟩ := hh; simp only at p1 p2 p3 p4 p5 p6 p7 p8 p9; omega)
      clear c3
      go_wp2
      refine wp_loop_rounds 4 ?_
      repeat (first | (refine one_round ?_; go_wp2) | (refine wp_loop_rounds 3 ?_; refine one_round ?_; go_wp2))
      go_ret
      exact ⟨ret_bool (decide_eq_false fun hh => HO.out hh.2).symm, HCC.out.alloc _⟩
    have c3' : (z == x) = false := by simpa using c3
    have C3 := Lib.hid c3
    clear c3
    by_cases c4 : z = y
    case pos =>
      have c4' : (z == y) = true := by simpa using c4
      have C4 := Lib.hid c4
      have HO : Hid (¬ HdOk D.length ⟨x, y, z⟩) := Lib.hid (fun hh => by obtain ⟨⟨p1, p2⟩, ⟨p3, p4⟩, ⟨p5, p6⟩, p7, p8, p9⟩ := hh; simp only at p1 p2 p3 p4 p5 p6 p7 p8 p9; omega)
      clear c4
      go_wp2
      refine wp_loop_rounds 4 ?_
      repeat (first | (refine one_round ?_; go_wp2) | (refine wp_loop_rounds 3 ?_; refine one_round ?_; go_wp2))
      go_ret
      exact ⟨ret_bool (decide_eq_false fun hh => HO.out hh.2).symm, HCC.out.alloc _⟩
    have c4' : (z == y) = false := by simpa using c4
    have C4 := Lib.hid c4
    clear c4
    have HO : Hid (HdOk D.length ⟨x, y, z⟩) := Lib.hid ⟨⟨a0, a1⟩, ⟨b0, b1⟩, ⟨c0, c1⟩, fun h => absurd h b2, fun _ => C3.out, fun _ => C4.out⟩
    go_wp2
    refine wp_loop_rounds 4 ?_
    repeat (first | (refine one_round ?_; go_wp2) | (refine wp_loop_rounds 3 ?_; refine one_round ?_; go_wp2))
    go_ret
    exact ⟨ret_bool (decide_eq_true ⟨HD.out, HO.out⟩).symm, HCC.out.alloc _⟩
  by_cases b3 : y = x
  case pos =>
    have b3' : (y == x) = true := by simpa using b3
    have HO : Hid (¬ HdOk D.length ⟨x, y, z⟩) := Lib.hid (fun hh => by obtain ⟨⟨p1, p2⟩, ⟨p3, p4⟩, ⟨p5, p6⟩, p7, p8, p9⟩ := hh; simp only at p1 p2 p3 p4 p5 p6 p7 p8 p9; omega)
    clear b3
    go_wp2
    refine wp_loop_rounds 4 ?_
    repeat (first | (refine one_round ?_; go_wp2) | (refine wp_loop_rounds 3 ?_; refine one_round ?_; go_wp2))
    go_ret
    exact ⟨ret_bool (decide_eq_false fun hh => HO.out hh.2).symm, HCC.out.alloc _⟩
  have b3' : (y == x) = false := by simpa using b3
  have B3 := Lib.hid b3
  clear b3
  by_cases c0 : -1 ≤ z
  case neg =>
    have HO : Hid (¬ HdOk D.length ⟨x, y, z⟩) := Lib.hid (fun hh => by obtain ⟨⟨p1, p2⟩, ⟨p3, p4⟩, ⟨p5, p6⟩, p7, p8, p9⟩ := hh; simp only at p1 p2 p3 p4 p5 p6 p7 p8 p9; omega)
    go_wp2
    refine wp_loop_rounds 4 ?_
    repeat (first | (refine one_round ?_; go_wp2) | (refine wp_loop_rounds 3 ?_; refine one_round ?_; go_wp2))
    go_ret
    exact ⟨ret_bool (decide_eq_false fun hh => HO.out hh.2).symm, HCC.out.alloc _⟩
  by_cases c1 : z < (D.length : Int)
  case neg =>
    have HO : Hid (¬ HdOk D.length ⟨x, y, z⟩) := Lib.hid (fun hh => by obtain ⟨⟨p1, p2⟩, ⟨p3, p4⟩, ⟨p5, p6⟩, p7, p8, p9⟩ := hh; simp only at p1 p2 p3 p4 p5 p6 p7 p8 p9; omega)
    go_wp2
    refine wp_loop_rounds 4 ?_
    repeat (first | (refine one_round ?_; go_wp2) | (refine wp_loop_rounds 3 ?_; refine one_round ?_; go_wp2))
    go_ret
    exact ⟨ret_bool (decide_eq_false fun hh => HO.out hh.2).symm, HCC.out.alloc _⟩
  by_cases c2 : 0 ≤ z
  case neg =>
    have HO : Hid (HdOk D.length ⟨x, y, z⟩) := Lib.hid ⟨⟨a0, a1⟩, ⟨b0, b1⟩, ⟨c0, c1⟩, fun _ => B3.out, fun h => absurd h c2, fun h => absurd h c2⟩
    go_wp2
    refine wp_loop_rounds 4 ?_
    repeat (first | (refine one_round ?_; go_wp2) | (refine wp_loop_rounds 3 ?_; refine one_round ?_; go_wp2))
    go_ret
    exact ⟨ret_bool (decide_eq_true ⟨HD.out, HO.out⟩).symm, HCC.out.alloc _⟩
  by_cases c3 : z = x
  case pos =>
    have c3' : (z == x) = true := by simpa using c3
    have C3 := Lib.hid c3
    have HO : Hid (¬ HdOk D.length ⟨x, y, z⟩) := Lib.hid (fun hh => by obtain ⟨⟨p1, p2⟩, ⟨p3, p4⟩, ⟨p5, p6⟩, p7, p8, p9⟩ := hh; simp only at p1 p2 p3 p4 p5 p6 p7 p8 p9; omega)
    clear c3
    go_wp2
    refine wp_loop_rounds 4 ?_
    repeat (first | (refine one_round ?_; go_wp2) | (refine wp_loop_rounds 3 ?_; refine one_round ?_; go_wp2))
    go_ret
    exact ⟨ret_bool (decide_eq_false fun hh => HO.out hh.2).symm, HCC.out.alloc _⟩
  have c3' : (z == x) = false := by simpa using c3
  have C3 := Lib.hid c3
  clear c3
  by_cases c4 : z = y
  case pos =>
    have c4' : (z == y) = true := by simpa using c4
    have C4 := Lib.hid c4
    have HO : Hid (¬ HdOk D.length ⟨x, y, z⟩) := Lib.hid (fun hh => by obtain ⟨⟨p1, p2⟩, ⟨p3, p4⟩, ⟨p5, p6⟩, p7, p8, p9⟩ := hh; simp only at p1 p2 p3 p4 p5 p6 p7 p8 p9; omega)
    clear c4
    go_wp2
    refine wp_loop_rounds 4 ?_
    repeat (first | (refine one_round ?_; go_wp2) | (refine wp_loop_rounds 3 ?_; refine one_round ?_; go_wp2))
    go_ret
    exact ⟨ret_bool (decide_eq_false fun hh => HO.out hh.2).symm, HCC.out.alloc _⟩
  have c4' : (z == y) = false := by simpa using c4
  have C4 := Lib.hid c4
  clear c4
  have HO : Hid (HdOk D.length ⟨x, y, z⟩) := Lib.hid ⟨⟨a0, a1⟩, ⟨b0, b1⟩, ⟨c0, c1⟩, fun _ => B3.out, fun _ => C3.out, fun _ => C4.out⟩
  go_wp2
  refine wp_loop_rounds 4 ?_
  repeat (first | (refine one_round ?_; go_wp2) | (refine wp_loop_rounds 3 ?_; refine one_round ?_; go_wp2))
  go_ret
  exact ⟨ret_bool (decide_eq_true ⟨HD.out, HO.out⟩).symm, HCC.out.alloc _⟩
end Go.Proofs.Ytenbbkmbnpdfaaa
