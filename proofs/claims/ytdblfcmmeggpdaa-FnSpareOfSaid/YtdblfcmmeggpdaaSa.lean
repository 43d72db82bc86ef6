/- The laws' helpers on spares. -/
import Derived.Test.YtdblfcmmeggpdaaS
import Derived.Deep.RegionHeld3
namespace Go.Proofs.Ytdblfcmmeggpdaa
open Go.RowKit
structure Sp where
  b : Int
  e : Int
  A : Option Addr
  c : Nat
  xs : List Int
def SpIn (W : World) (v : Value) (x : Sp) : Prop :=
  v = .agg #[.int .i64 x.b, .int .i64 x.e, .slice x.A x.xs.length x.c] ∧ Rd (fun i => i < W.heap.size) W x.A (icells x.xs) ∧ x.xs.length ≤ x.c ∧ x.c ≤ maxLen
theorem szIntS_any (A : Option Addr) (n c : Nat) (w : World) (hn : n ≤ maxLen) :
    Calls Try.prog 45 #[.slice A n c, .int .i64 1048576] w fun e w' => ∃ x : Int, e = .returned (.int .i64 x) ∧ (x < 0 ↔ 1048576 < n) ∧ w = w' := by
  unfold maxLen at hn
  by_cases h : 1048576 < n
  · go_enter Try.func45, Try.ntmps45
    go_wp2
    go_ret
    exact ⟨-1, rfl, by omega, rfl⟩
  · go_enter Try.func45, Try.ntmps45
    go_wp2
    go_ret
    exact ⟨_, rfl, by omega, rfl⟩
theorem szSpares_any (b e : Int) (A : Option Addr) (n c : Nat) (w : World) (hn : n ≤ maxLen) :
    Calls Try.prog 30 #[.agg #[.int .i64 b, .int .i64 e, .slice A n c], .int .i64 1048576] w fun e w' => ∃ x : Int, e = .returned (.int .i64 x) ∧ (x < 0 ↔ 1048576 < n) ∧ Chg NoB w w' := by
  have HC := Lib.hid ((Chg.refl NoB w).alloc (.cells #[.int .i64 b, .int .i64 e, .slice A n c] 39))
  go_enter Try.func30, Try.ntmps30
  go_wp2_with fail
  refine (szIntS_any A n c _ hn).mono ?_
  rintro e' w' ⟨x, rfl, hx, rfl⟩
  have HX := Lib.hid hx
  clear hx
  by_cases h0 : x < 0
  · go_wp2
    go_ret
    exact ⟨-1, rfl, by rw [← HX.out]; omega, HC.out⟩
  · go_wp2
    go_ret
    exact ⟨x, rfl, HX.out, HC.out⟩
set_option maxRecDepth 100000 in
set_option maxHeartbeats 1000000 in
theorem toSpares_any (F : Nat → Prop) (b e : Int) (A : Option Addr) (c : Nat) (xs : List Int) (w : World) (h : Rd F w A (icells xs)) (hl : xs.length ≤ 1048576) :
    Calls Try.prog 32 #[.agg #[.int .i64 b, .int .i64 e, .slice A xs.length c]] w fun e' w' => ∃ g, e' = .returned (.agg #[.int .i64 b, .int .i64 e, .slice (some ⟨g, 0, none⟩) xs.length xs.length]) ∧ w.heap.size ≤ g ∧ Chg NoB w w' ∧ Blk w' g 3 (icells xs).toArray := by
  have hca := (Chg.refl NoB w).alloc (.cells #[.int .i64 b, .int .i64 e, .slice A xs.length c] 39)
  obtain ⟨hb1, hb2, hcb⟩ := lit2 (w.alloc (.cells #[.int .i64 b, .int .i64 e, .slice A xs.length c] 39)) 42 42 #[.int .i64 0, .int .i64 0, .slice none 0 0] #[.int .i64 b, .int .i64 e, .slice none 0 0]
  rw [World.size_alloc] at hb1 hb2
  have HC := Lib.hid (hca.trans hcb)
  have hrd := h.lt.chg HC.out (fun _ _ x => x)
  have hg : w.heap.size ≤ (((w.alloc (.cells #[.int .i64 b, .int .i64 e, .slice A xs.length c] 39)).alloc (.cells #[.int .i64 0, .int .i64 0, .slice none 0 0] 42)).alloc (.cells #[.int .i64 b, .int .i64 e, .slice none 0 0] 42)).heap.size := HC.out.size
  have hg2 : (((w.alloc (.cells #[.int .i64 b, .int .i64 e, .slice A xs.length c] 39)).alloc (.cells #[.int .i64 0, .int .i64 0, .slice none 0 0] 42)).alloc (.cells #[.int .i64 b, .int .i64 e, .slice none 0 0] 42)).heap.size = w.heap.size + 1 + 1 + 1 := by simp only [World.size_alloc]
  have HB1 := Lib.hid hb1
  have HB2 := Lib.hid hb2
  have HG := Lib.hid hg
  have HG2 := Lib.hid hg2
  clear hca hcb hb1 hb2 hg hg2
  go_enter Try.func32, Try.ntmps32
  go_wp2_with fail
  refine (toIntS_any _ A c xs _ hrd hl).mono ?_
  rintro e' w1 ⟨g, rfl, hgg, hc1, hbg⟩
  have c1 := HB1.out.chg hc1 (fun x => x)
  have c2 := HB2.out.chg hc1 (fun x => x)
  have x0 : w1.cell? ⟨w.heap.size + 1, 0, none⟩ = some (.int .i64 0) := by rw [c1.cell]; rfl
  have x1 : w1.cell? ⟨w.heap.size + 1, 1, none⟩ = some (.int .i64 0) := by rw [c1.cell]; rfl
  have x2 : w1.cell? ⟨w.heap.size + 1, 2, none⟩ = some (.slice none 0 0) := by rw [c1.cell]; rfl
  have y0 : w1.cell? ⟨w.heap.size + 1 + 1, 0, none⟩ = some (.int .i64 b) := by rw [c2.cell]; rfl
  have y1 : w1.cell? ⟨w.heap.size + 1 + 1, 1, none⟩ = some (.int .i64 e) := by rw [c2.cell]; rfl
  have y2 : w1.cell? ⟨w.heap.size + 1 + 1, 2, none⟩ = some (.slice none 0 0) := by rw [c2.cell]; rfl
  have f0 := c1.frozen 0
  have f1 := c1.frozen 1
  have f2 := c1.frozen 2
  have f3 := c2.frozen 2
  have HG1 := Lib.hid hgg
  have HC1 := Lib.hid (HC.out.trans hc1)
  have HBG := Lib.hid hbg
  clear c1 c2 hgg hc1 hbg
  go_wp2_with fail
  (try simp only [Exit.inBlock, Exit.then])
  refine bodyPost_ret (v := .agg #[.int .i64 b, .int .i64 e, .slice (some ⟨g, 0, none⟩) xs.length xs.length]) (by simp [results, Try.results32, go_sem, *]) rfl ?_
  refine ⟨g, rfl, by have := HG1.out; have := HG.out; omega, ?_, ?_⟩
  · exact (((HC1.out.setCell (p := ⟨w.heap.size + 1 + 1, 2, none⟩) (.inr (by simp; omega)) _).setCell (p := ⟨w.heap.size + 1, 0, none⟩) (.inr (by simp)) _).setCell (p := ⟨w.heap.size + 1, 1, none⟩) (.inr (by simp)) _).setCell (p := ⟨w.heap.size + 1, 2, none⟩) (.inr (by simp)) _
  · have hne1 : g ≠ w.heap.size + 1 := by have := HG1.out; have := HG2.out; omega
    have hne2 : g ≠ w.heap.size + 1 + 1 := by have := HG1.out; have := HG2.out; omega
    exact HBG.out.chg (F := fun i => i = w.heap.size + 1 ∨ i = w.heap.size + 1 + 1) (((((Chg.refl _ _).setCell (p := ⟨w.heap.size + 1 + 1, 2, none⟩) (.inl (.inr rfl)) _).setCell (p := ⟨w.heap.size + 1, 0, none⟩) (.inl (.inl rfl)) _).setCell (p := ⟨w.heap.size + 1, 1, none⟩) (.inl (.inl rfl)) _).setCell (p := ⟨w.heap.size + 1, 2, none⟩) (.inl (.inl rfl)) _) (by omega)
theorem eqSpares_t (F G : Nat → Prop) (b e : Int) (A B : Option Addr) (c d : Nat) (xs : List Int) (w : World) (h : Rd F w A (icells xs)) (h' : Rd G w B (icells xs)) (hl : xs.length ≤ 9223372036854775807) :
    Calls Try.prog 34 #[.agg #[.int .i64 b, .int .i64 e, .slice A xs.length c], .agg #[.int .i64 b, .int .i64 e, .slice B xs.length d]] w fun e' w' => e' = .returned (.bool true) ∧ Chg NoB w w' := by
  have h1 : (b != b) = false := by simp
  have h2 : (e != e) = false := by simp
  have HC := Lib.hid (((Chg.refl NoB w).alloc (.cells #[.int .i64 b, .int .i64 e, .slice A xs.length c] 42)).alloc (.cells #[.int .i64 b, .int .i64 e, .slice B xs.length d] 42))
  have hA := h.lt.chg HC.out (fun _ _ x => x)
  have hB := h'.lt.chg HC.out (fun _ _ x => x)
  go_enter Try.func34, Try.ntmps34
  go_wp2_with fail
  refine (eqIntS_t _ _ A B c d xs _ hA hB hl).mono ?_
  rintro e' w' ⟨rfl, m, rfl⟩
  go_wp2
  go_ret
  exact ⟨rfl, HC.out.drewN _⟩
end Go.Proofs.Ytdblfcmmeggpdaa
