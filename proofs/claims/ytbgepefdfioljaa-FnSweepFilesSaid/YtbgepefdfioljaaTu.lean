/- The laws' helpers on saves; tables and saves that came in. -/
import Derived.Test.YtbgepefdfioljaaTb
import Derived.Test.YtbgepefdfioljaaTt
namespace Go.Proofs.Ytbgepefdfioljaa
open Go.RowKit
structure TbA where
  A : Option Addr
  c : Nat
  X : List (List Int)
/-- A table as it came in. -/
def TabIn (W : World) (v : Value) (x : TbA) : Prop :=
  v = .agg #[.slice x.A x.X.length x.c] ∧ TabR (fun i => i < W.heap.size) W x.A x.X ∧ x.X.length ≤ maxLen ∧ ∀ r ∈ x.X, r.length ≤ maxLen
structure SvA where
  n : Int
  A : Option Addr
  c : Nat
  xs : List Int
  s : Int
def SavIn (W : World) (v : Value) (x : SvA) : Prop :=
  v = .agg #[.int .i64 x.n, .slice x.A x.xs.length x.c, .int .i64 x.s] ∧ Rd (fun i => i < W.heap.size) W x.A (icells x.xs) ∧ x.xs.length ≤ x.c ∧ x.c ≤ maxLen
theorem eqSave_t (F G : Nat → Prop) (n s : Int) (A B : Option Addr) (c d : Nat) (xs : List Int) (w : World) (h : Rd F w A (icells xs)) (h' : Rd G w B (icells xs)) (hl : xs.length ≤ 9223372036854775807) :
    Calls Try.prog 23 #[.agg #[.int .i64 n, .slice A xs.length c, .int .i64 s], .agg #[.int .i64 n, .slice B xs.length d, .int .i64 s]] w fun e' w' => e' = .returned (.bool true) ∧ Chg NoB w w' := by
  have h1 : (n != n) = false := by simp
  have h2 : (s != s) = false := by simp
  have HC := Lib.hid (((Chg.refl NoB w).alloc (.cells #[.int .i64 n, .slice A xs.length c, .int .i64 s] 37)).alloc (.cells #[.int .i64 n, .slice B xs.length d, .int .i64 s] 37))
  have hA := h.lt.new HC.out
  have hB := h'.lt.new HC.out
  go_enter Try.func23, Try.ntmps23
  go_wp2_with fail
  refine (eqIntS_t _ _ A B c d xs _ hA hB hl).mono ?_
  rintro e' w' ⟨rfl, m, rfl⟩
  go_wp2
  go_ret
  exact ⟨rfl, HC.out.drewN _⟩
theorem markSave_any (B E : Nat) (n s : Int) (A : Option Addr) (c : Nat) (xs : List Int) (k0 : Int) (w : World) (h : OwnS B E w 3 A xs.length c (icells xs)) (hl : xs.length ≤ 1048576) (hk0 : 0 ≤ k0) (hk1 : k0 ≤ 1000000000000) :
    Calls Try.prog 26 #[.agg #[.int .i64 n, .slice A xs.length c, .int .i64 s], .int .i64 k0] w fun e w' => e = .returned (.int .i64 (k0 + (xs.length : Int))) ∧ Chg (fun i => B ≤ i ∧ i < E) w w' ∧ OwnS B E w' 3 A xs.length c (icells (marksI xs.length k0)) := by
  have HC := Lib.hid ((Chg.refl NoB w).alloc (.cells #[.int .i64 n, .slice A xs.length c, .int .i64 s] 37))
  have h1 := h.new HC.out
  clear h
  go_enter Try.func26, Try.ntmps26
  go_wp2_with fail
  refine (markIntS_any B E A c xs k0 _ h1 hl hk0 hk1).mono ?_
  rintro e w1 ⟨rfl, hc1, ho⟩
  go_wp2
  go_ret
  exact ⟨rfl, (HC.out.mono (fun _ _ x => x.elim)).trans hc1, ho⟩
theorem heldSave_any (F : Nat → Prop) (n s : Int) (A : Option Addr) (c m : Nat) (k0 : Int) (w : World) (h : Rd F w A (icells (marksI m k0))) (hl : m ≤ 1048576) (hk0 : 0 ≤ k0) (hk1 : k0 ≤ 1000000000000) :
    Calls Try.prog 27 #[.agg #[.int .i64 n, .slice A m c, .int .i64 s], .int .i64 k0] w fun e w' => e = .returned (.int .i64 (k0 + (m : Int))) ∧ Chg NoB w w' := by
  have HC := Lib.hid ((Chg.refl NoB w).alloc (.cells #[.int .i64 n, .slice A m c, .int .i64 s] 37))
  have h1 := h.lt.new HC.out
  go_enter Try.func27, Try.ntmps27
  go_wp2_with fail
  refine (heldIntS_any _ A c m k0 _ h1 hl hk0 hk1).mono ?_
  rintro e w' ⟨rfl, rfl⟩
  have hnn : ¬ (k0 + (m : Int) < 0) := by omega
  go_wp2
  go_ret
  exact ⟨rfl, HC.out⟩
theorem szSave_g (n s : Int) (A : Option Addr) (m c : Nat) (left : Int) (w : World) (hn : m ≤ maxLen) (h0 : 0 ≤ left) (h1 : left ≤ 1048576) :
    Calls Try.prog 28 #[.agg #[.int .i64 n, .slice A m c, .int .i64 s], .int .i64 left] w fun e w' => e = .returned (.int .i64 (szOf left m)) ∧ Chg NoB w w' := by
  have HC := Lib.hid ((Chg.refl NoB w).alloc (.cells #[.int .i64 n, .slice A m c, .int .i64 s] 46))
  go_enter Try.func28, Try.ntmps28
  go_wp2_with fail
  refine (szIntS_g A m c left _ hn h0 h1).mono ?_
  rintro e w' ⟨rfl, rfl⟩
  by_cases hlt : szOf left m < 0
  · have hs : szOf left m = -1 := by unfold szOf at hlt ⊢; split <;> omega
    have HS := Lib.hid hs
    clear hs
    go_wp2
    go_ret
    exact ⟨ret_int HS.out.symm, HC.out⟩
  · go_wp2
    go_ret
    exact ⟨rfl, HC.out⟩
theorem hcell0 (w : World) (n s : Int) (A : Option Addr) (m c : Nat) : (((w.alloc (.cells #[.int .i64 n, .slice A m c, .int .i64 s] 46)).alloc (.cells #[.int .i64 0, .slice none 0 0, .int .i64 0] 37)).alloc (.cells #[.int .i64 n, .slice none 0 0, .int .i64 0] 37)).cell? ⟨w.heap.size, 1, none⟩ = some (.slice A m c) :=
  ((((Blk.new w 46 #[.int .i64 n, .slice A m c, .int .i64 s]).chg ((Chg.refl NoB _).alloc _) (fun x => x)).chg ((Chg.refl NoB _).alloc _) (fun x => x)).cell 1).trans rfl
theorem hcell2 (w : World) (n s : Int) (A : Option Addr) (m c : Nat) : (((w.alloc (.cells #[.int .i64 n, .slice A m c, .int .i64 s] 46)).alloc (.cells #[.int .i64 0, .slice none 0 0, .int .i64 0] 37)).alloc (.cells #[.int .i64 n, .slice none 0 0, .int .i64 0] 37)).cell? ⟨w.heap.size, 2, none⟩ = some (.int .i64 s) :=
  ((((Blk.new w 46 #[.int .i64 n, .slice A m c, .int .i64 s]).chg ((Chg.refl NoB _).alloc _) (fun x => x)).chg ((Chg.refl NoB _).alloc _) (fun x => x)).cell 2).trans rfl
set_option maxRecDepth 100000 in
set_option maxHeartbeats 1000000 in
theorem toSave_any (F : Nat → Prop) (n s : Int) (A : Option Addr) (c : Nat) (xs : List Int) (w : World) (h : Rd F w A (icells xs)) (hl : xs.length ≤ 1048576) :
    Calls Try.prog 30 #[.agg #[.int .i64 n, .slice A xs.length c, .int .i64 s]] w fun e' w' => ∃ g, e' = .returned (.agg #[.int .i64 n, .slice (some ⟨g, 0, none⟩) xs.length xs.length, .int .i64 s]) ∧ OwnS w.heap.size w'.heap.size w' 3 (some ⟨g, 0, none⟩) xs.length xs.length (icells xs) ∧ Chg NoB w w' := by
  have hca := (Chg.refl NoB w).alloc (.cells #[.int .i64 n, .slice A xs.length c, .int .i64 s] 46)
  obtain ⟨hb1, hb2, hcb⟩ := lit2 (w.alloc (.cells #[.int .i64 n, .slice A xs.length c, .int .i64 s] 46)) 37 37 #[.int .i64 0, .slice none 0 0, .int .i64 0] #[.int .i64 n, .slice none 0 0, .int .i64 0]
  rw [World.size_alloc] at hb1 hb2
  have HC := Lib.hid (hca.trans hcb)
  have HR := Lib.hid (h.lt.new HC.out)
  have HB1 := Lib.hid hb1
  have HB2 := Lib.hid hb2
  clear hca hcb hb1 hb2
  go_enter Try.func30, Try.ntmps30
  go_wp2_with fail
  refine (toIntS_any _ A c xs _ HR.out hl).mono ?_
  rintro e' w1 ⟨g, rfl, hg, hc1, hbg⟩
  have hgl : w.heap.size + 1 + 1 < g := by rw [hg]; exact HB2.out.lt
  have hb1 := HB1.out.chg hc1 (fun x => x)
  have hb2 := HB2.out.chg hc1 (fun x => x)
  have x0 : w1.cell? ⟨w.heap.size + 1, 0, none⟩ = some (.int .i64 0) := (hb1.cell _).trans rfl
  have x1 : w1.cell? ⟨w.heap.size + 1, 1, none⟩ = some (.slice none 0 0) := (hb1.cell _).trans rfl
  have x2 : w1.cell? ⟨w.heap.size + 1, 2, none⟩ = some (.int .i64 0) := (hb1.cell _).trans rfl
  have y0 : w1.cell? ⟨w.heap.size + 1 + 1, 0, none⟩ = some (.int .i64 n) := (hb2.cell _).trans rfl
  have y1 : w1.cell? ⟨w.heap.size + 1 + 1, 1, none⟩ = some (.slice none 0 0) := (hb2.cell _).trans rfl
  have y2 : w1.cell? ⟨w.heap.size + 1 + 1, 2, none⟩ = some (.int .i64 0) := (hb2.cell _).trans rfl
  have f0 := hb1.frozen 0
  have f1 := hb1.frozen 1
  have f2 := hb1.frozen 2
  have f3 := hb2.frozen 1
  have f4 := hb2.frozen 2
  have wb0 : w1.cell? ⟨w.heap.size, 1, none⟩ = some (.slice A xs.length c) := hc1.cell (hcell0 w n s A xs.length c) (fun x => x)
  have wb2 : w1.cell? ⟨w.heap.size, 2, none⟩ = some (.int .i64 s) := hc1.cell (hcell2 w n s A xs.length c) (fun x => x)
  have HC1 := Lib.hid (HC.out.trans hc1)
  have HBG := Lib.hid hbg
  have HGL := Lib.hid hgl
  clear hb1 hb2 hg hc1 hbg hgl
  go_wp2_with fail
  (try simp only [Exit.inBlock, Exit.then])
  refine bodyPost_ret (v := .agg #[.int .i64 n, .slice (some ⟨g, 0, none⟩) xs.length xs.length, .int .i64 s]) (by simp [results, Try.results30, go_sem, *]) rfl ?_
  have hcs : Chg (fun i => i = w.heap.size + 1 ∨ i = w.heap.size + 1 + 1) w1 (((((w1.setCell ⟨w.heap.size + 1 + 1, 1, none⟩ (.slice (some ⟨g, 0, none⟩) xs.length xs.length)).setCell ⟨w.heap.size + 1 + 1, 2, none⟩ (.int .i64 s)).setCell ⟨w.heap.size + 1, 0, none⟩ (.int .i64 n)).setCell ⟨w.heap.size + 1, 1, none⟩ (.slice (some ⟨g, 0, none⟩) xs.length xs.length)).setCell ⟨w.heap.size + 1, 2, none⟩ (.int .i64 s)) := (((((Chg.refl (fun i => i = w.heap.size + 1 ∨ i = w.heap.size + 1 + 1) w1).setCell (p := ⟨w.heap.size + 1 + 1, 1, none⟩) (.inl (.inr rfl)) _).setCell (p := ⟨w.heap.size + 1 + 1, 2, none⟩) (.inl (.inr rfl)) _).setCell (p := ⟨w.heap.size + 1, 0, none⟩) (.inl (.inl rfl)) _).setCell (p := ⟨w.heap.size + 1, 1, none⟩) (.inl (.inl rfl)) _).setCell (p := ⟨w.heap.size + 1, 2, none⟩) (.inl (.inl rfl)) _
  have hgl := HGL.out
  have hb' := HBG.out.chg hcs (by omega)
  exact ⟨g, rfl, OwnS.of_blk hb' (by omega) hb'.lt (Nat.le_refl _), HC1.out.trans' hcs (fun i hi => .inr (by omega))⟩
end Go.Proofs.Ytbgepefdfioljaa
