/- The draw for HeatStep. -/
import Derived.Test.YtdblfcmmeggpdaaRh
import Derived.Test.YtdblfcmmeggpdaaDa
import Derived.Test.YtdblfcmmeggpdaaH
import Derived.BigFrame
namespace Go.Proofs.Ytdblfcmmeggpdaa
open Go.RowKit
def hsPost (g : Nat) (i : Nat) : Value → World → Prop :=
  match i with
  | 0 | 5 | 11 | 13 => isPtr g
  | 1 => isNat 256
  | 2 => isInt
  | 3 => isLit g 3 4 (intCells 4)
  | 4 => isLit g 3 8 (natCells 8 4)
  | 6 => isNat 8
  | 7 => isLitAt g 3 8 (natCells 8 4)
  | 8 => isNat 4
  | 9 => isLitAt g 3 4 (intCells 4)
  | 12 => isNat 102
  | 14 => isNat 14
  | _ => isInt
theorem hsPost_stab (g i : Nat) (v : Value) (w1 w2 : World) (h : hsPost g i v w1) (hc : Chg (· = g) w1 w2) : hsPost g i v w2 := by
  unfold hsPost at *
  split at h
  all_goals first
    | exact h
    | (obtain ⟨b, cs, h1, h2, h3, h4⟩ := h; exact ⟨b, cs, h1, h2, h3.chg hc h2, h4⟩)
    | (obtain ⟨b, cs, k, h1, h2, h3, h4⟩ := h; exact ⟨b, cs, k, h1, h2, h3.chg hc h2, h4⟩)

theorem results_tmp2' {fn : Func} {t u : Tmp} (h : fn.results = #[.tmp t, .tmp u]) (tmps : Array Value) (P : Program) (w : World) :
    (results fn tmps).run P w = .ok (.tuple #[tmps.getD t undef, tmps.getD u undef]) w := by simp [results, h]
set_option maxRecDepth 100000 in
set_option maxHeartbeats 2000000 in
theorem DrawHeatStep_any (A : Option Addr) (c : Nat) (bs : List Nat) (w : World) (h : Rd (fun i => i < w.heap.size) w A (bs.map fun (b : Nat) => Value.int .u8 (b : Int))) (hx : ∀ b ∈ bs, b < 256) (hc : bs.length ≤ c) :
    Calls Try.prog 19 #[.slice A bs.length c] w fun e w' => ∃ x y : Int, e = .returned (.tuple #[.int .i64 x, .int .i64 y]) ∧ Chg NoB w w' := by
  go_enter Try.func19, Try.ntmps19
  go_wp2_with fail
  refine (l20Open_any A c bs w h hx hc).mono ?_
  rintro e w1 ⟨g, rfl, hg, hc1, hr1⟩
  have Hg := Lib.hid hg
  clear hg
  go_wp2_with fail
  refine wp_region_rg (WInv := fun c m w => Rdr w g c ∧ Chg (· = g) w1 w ∧ c ≤ 19) (R := Chg (· = g)) (Post := hsPost g) (by kernel_rfl) (by kernel_rfl) ?_ (fun i v w1 w2 => hsPost_stab g i v w1 w2) ?_ ?_ ?_
  · rintro c c' m w ⟨h1, h2, _⟩ h3 h4
    exact ⟨h1.more h3, h2, h4⟩
  · exact ⟨hr1.drew, (Chg.refl _ _).drew, by omega⟩
  · refine ⟨?_, ?_, ?_, ?_, ?_, ?_, ?_, ?_, ?_, ?_, ?_, ?_, ?_, ?_, ?_, ?_, ?_, ?_, ?_, trivial⟩
    · rintro c m a w hc ⟨hw, hch, _⟩ hm hn
      have e1 : a.tmps[4]?.getD undef = .pointer (some ⟨g, 0, none⟩) := hn.1
      exact rg_val (v := .pointer (some ⟨g, 0, none⟩)) (by simp [execOp, go_sem, e1]) rfl ⟨hw.more (Nat.le_succ _), hch, hc⟩ (Chg.refl _ _) rfl
    · rintro c m a w hc ⟨hw, hch, _⟩ hm hn
      obtain ⟨⟨_, e1, _, rfl⟩, -⟩ := hn
      refine rg_call (f := 42) (args := #[.pointer (some ⟨g, 0, none⟩), .int .i64 256]) (by simp [go_sem, e1]) rfl ?_
      refine (pick_any g _ 256 _ hw (by simp at hc; omega) (by omega) (by omega)).mono ?_
      rintro e w2 ⟨k, rfl, hk, hc2, hr2⟩
      exact ⟨_, rfl, ⟨hr2, hch.trans hc2, hc⟩, hc2, k, rfl, by omega⟩
    · rintro c m a w hc ⟨hw, hch, _⟩ hm hn
      obtain ⟨⟨_, e1, _, k, rfl, hk⟩, -⟩ := hn
      exact rg_val (v := .int .i64 (IntKind.i64.wrap ((k : Int) * 4))) (by simp [execOp, go_sem, e1]) rfl ⟨hw.more (Nat.le_succ _), hch, hc⟩ (Chg.refl _ _) ⟨_, rfl⟩
    · rintro c m a w hc ⟨hw, hch, _⟩ hm hn
      obtain ⟨⟨_, e1, _, x, rfl⟩, -⟩ := hn
      have hgl := hw.lt
      exact rg_val (v := .slice (some ⟨w.heap.size, 0, none⟩) 4 4) (w' := w.alloc (.cells #[.int .i64 x, .int .i64 1000, .int .i64 1001, .int .i64 (-1)] 3)) (by simp [execOp, go_sem, e1]) rfl ⟨(hw.alloc _).more (Nat.le_succ _), hch.alloc _, hc⟩ ((Chg.refl _ _).alloc _) ⟨_, _, rfl, by omega, Blk.new _ _ _, ⟨rfl, by simp⟩⟩
    · rintro c m a w hc ⟨hw, hch, _⟩ hm hn
      have hgl := hw.lt
      exact rg_val (v := .slice (some ⟨w.heap.size, 0, none⟩) 8 8) (w' := w.alloc (.cells #[.int .i64 0, .int .i64 0, .int .i64 0, .int .i64 0, .int .i64 0, .int .i64 1, .int .i64 2, .int .i64 3] 3)) (by simp [execOp, go_sem]) rfl ⟨(hw.alloc _).more (Nat.le_succ _), hch.alloc _, hc⟩ ((Chg.refl _ _).alloc _) ⟨_, _, rfl, by omega, Blk.new _ _ _, ⟨rfl, by simp⟩⟩
    · rintro c m a w hc ⟨hw, hch, _⟩ hm hn
      have e1 : a.tmps[4]?.getD undef = .pointer (some ⟨g, 0, none⟩) := hn.1
      exact rg_val (v := .pointer (some ⟨g, 0, none⟩)) (by simp [execOp, go_sem, e1]) rfl ⟨hw.more (Nat.le_succ _), hch, hc⟩ (Chg.refl _ _) rfl
    · rintro c m a w hc ⟨hw, hch, _⟩ hm hn
      obtain ⟨⟨_, e1, _, rfl⟩, -⟩ := hn
      refine rg_call (f := 42) (args := #[.pointer (some ⟨g, 0, none⟩), .int .i64 8]) (by simp [go_sem, e1]) rfl ?_
      refine (pick_any g _ 8 _ hw (by simp at hc; omega) (by omega) (by omega)).mono ?_
      rintro e w2 ⟨k, rfl, hk, hc2, hr2⟩
      exact ⟨_, rfl, ⟨hr2, hch.trans hc2, hc⟩, hc2, k, rfl, by omega⟩
    · rintro c m a w hc ⟨hw, hch, _⟩ hm hn
      obtain ⟨⟨_, e1, _, b, cs, rfl, hb, hbl, hcs⟩, ⟨_, e2, _, k, rfl, hk⟩, -⟩ := hn
      have h0 : (0 : Int) ≤ (k : Int) := Int.natCast_nonneg _
      exact rg_val (v := .pointer (some ⟨b, k, none⟩)) (by simp [execOp, go_sem, e1, e2]; intro h9; omega) rfl ⟨hw.more (Nat.le_succ _), hch, hc⟩ (Chg.refl _ _) ⟨b, cs, k, rfl, hb, hbl, hcs, hk⟩
    · rintro c m a w hc ⟨hw, hch, _⟩ hm hn
      obtain ⟨⟨_, e1, _, b, cs, k, rfl, hb, hbl, hcs, hk⟩, -⟩ := hn
      obtain ⟨x, hx1, hx4⟩ := lit_nat hbl 4 k (by rw [hcs.1]; exact hk) hcs.2
      exact rg_val (v := .int .i64 x) (by simp [execOp, go_sem, e1, hx1]) rfl ⟨hw.more (Nat.le_succ _), hch, hc⟩ (Chg.refl _ _) ⟨x, rfl, hx4⟩
    · rintro c m a w hc ⟨hw, hch, _⟩ hm hn
      obtain ⟨⟨_, e1, _, b, cs, rfl, hb, hbl, hcs⟩, ⟨_, e2, _, k, rfl, hk⟩, -⟩ := hn
      have h0 : (0 : Int) ≤ (k : Int) := Int.natCast_nonneg _
      exact rg_val (v := .pointer (some ⟨b, k, none⟩)) (by simp [execOp, go_sem, e1, e2]; intro h9; omega) rfl ⟨hw.more (Nat.le_succ _), hch, hc⟩ (Chg.refl _ _) ⟨b, cs, k, rfl, hb, hbl, hcs, hk⟩
    · rintro c m a w hc ⟨hw, hch, _⟩ hm hn
      obtain ⟨⟨_, e1, _, b, cs, k, rfl, hb, hbl, hcs, hk⟩, -⟩ := hn
      obtain ⟨x, hx1⟩ := lit_cell hbl k (by rw [hcs.1]; exact hk) hcs.2
      exact rg_val (v := .int .i64 x) (by simp [execOp, go_sem, e1, hx1]) rfl ⟨hw.more (Nat.le_succ _), hch, hc⟩ (Chg.refl _ _) ⟨x, rfl⟩
    · rintro c m a w hc ⟨hw, hch, _⟩ hm hn
      have e1 : a.tmps[4]?.getD undef = .pointer (some ⟨g, 0, none⟩) := hn.1
      exact rg_val (v := .pointer (some ⟨g, 0, none⟩)) (by simp [execOp, go_sem, e1]) rfl ⟨hw.more (Nat.le_succ _), hch, hc⟩ (Chg.refl _ _) rfl
    · rintro c m a w hc ⟨hw, hch, _⟩ hm hn
      obtain ⟨⟨_, e1, _, rfl⟩, -⟩ := hn
      refine rg_call (f := 42) (args := #[.pointer (some ⟨g, 0, none⟩), .int .i64 102]) (by simp [go_sem, e1]) rfl ?_
      refine (pick_any g _ 102 _ hw (by simp at hc; omega) (by omega) (by omega)).mono ?_
      rintro e w2 ⟨k, rfl, hk, hc2, hr2⟩
      exact ⟨_, rfl, ⟨hr2, hch.trans hc2, hc⟩, hc2, k, rfl, by omega⟩
    · rintro c m a w hc ⟨hw, hch, _⟩ hm hn
      have e1 : a.tmps[4]?.getD undef = .pointer (some ⟨g, 0, none⟩) := hn.1
      exact rg_val (v := .pointer (some ⟨g, 0, none⟩)) (by simp [execOp, go_sem, e1]) rfl ⟨hw.more (Nat.le_succ _), hch, hc⟩ (Chg.refl _ _) rfl
    · rintro c m a w hc ⟨hw, hch, _⟩ hm hn
      obtain ⟨⟨_, e1, _, rfl⟩, -⟩ := hn
      refine rg_call (f := 42) (args := #[.pointer (some ⟨g, 0, none⟩), .int .i64 14]) (by simp [go_sem, e1]) rfl ?_
      refine (pick_any g _ 14 _ hw (by simp at hc; omega) (by omega) (by omega)).mono ?_
      rintro e w2 ⟨k, rfl, hk, hc2, hr2⟩
      exact ⟨_, rfl, ⟨hr2, hch.trans hc2, hc⟩, hc2, k, rfl, by omega⟩
    · rintro c m a w hc ⟨hw, hch, _⟩ hm hn
      obtain ⟨⟨_, e1, _, k, rfl, hk⟩, -⟩ := hn
      exact rg_val (v := .int .i64 (((k : Int) / 13))) (by simp [execOp, go_sem, e1]; rw [IntKind.wrap_i64]; omega) rfl ⟨hw.more (Nat.le_succ _), hch, hc⟩ (Chg.refl _ _) ⟨_, rfl⟩
    · rintro c m a w hc ⟨hw, hch, _⟩ hm hn
      obtain ⟨⟨_, e1, _, k, rfl, hk⟩, ⟨_, e2, _, l, rfl⟩, -⟩ := hn
      exact rg_val (v := .int .i64 (IntKind.i64.wrap ((k : Int) - l))) (by simp [execOp, go_sem, e1, e2]) rfl ⟨hw.more (Nat.le_succ _), hch, hc⟩ (Chg.refl _ _) ⟨_, rfl⟩
    · rintro c m a w hc ⟨hw, hch, _⟩ hm hn
      obtain ⟨⟨_, e1, _, x, rfl⟩, -⟩ := hn
      exact rg_val (v := .int .i64 x) (by simp [execOp, go_sem, e1]) rfl ⟨hw.more (Nat.le_succ _), hch, hc⟩ (Chg.refl _ _) ⟨_, rfl⟩
    · rintro c m a w hc ⟨hw, hch, _⟩ hm hn
      obtain ⟨⟨_, e1, _, x, rfl⟩, -⟩ := hn
      exact rg_val (v := .int .i64 x) (by simp [execOp, go_sem, e1]) rfl ⟨hw.more (Nat.le_succ _), hch, hc⟩ (Chg.refl _ _) ⟨_, rfl⟩
  · rintro m w' ⟨hw, hch, _⟩
    simp only [AllVals]
    rintro v0 - p0 v1 - p1 v2 - p2 v3 - p3 v4 - p4 v5 - p5 v6 - p6 v7 - p7 v8 - p8 v9 - p9 v10 - p10 v11 - p11 v12 - p12 v13 - p13 v14 - p14 v15 - p15 v16 - p16 v17 - p17 v18 - p18
    clear p0 p1 p2 p3 p4 p5 p6 p7 p8 p9 p10 p11 p12 p13 p14 p15 p16
    obtain ⟨x, rfl⟩ := p17
    obtain ⟨y, rfl⟩ := p18
    simp only [Act.put, List.setIfInBounds_toArray, List.set_cons_succ, List.set_cons_zero]
    go_wp2_with fail
    (try simp only [Exit.inBlock, Exit.then])
    refine bodyPost_ret (results_tmp2' rfl _ _ _) rfl ?_
    exact ⟨x, y, rfl, hc1.own hch (Nat.le_of_eq Hg.out.symm)⟩
end Go.Proofs.Ytdblfcmmeggpdaa
