/- Parts of the proof, merged: Pb. -/
import Derived.Test.YtpiojofmflfkkaaMp
import Derived.Lib.Hide
import Derived.Maps.AppendAt
/- Draws of writes. -/
namespace Go.Proofs.Ytpiojofmflfkkaa
open Go.RowKit

/-- Writes that were drawn: they lie in blocks from B on. -/
def PDrawn (g N : Nat) (w : World) (e : Ending) (w' : World) : Prop :=
  ∃ ad c xs, e = .returned (.slice (some ad) xs.length c) ∧ Rd (fun i => w.heap.size ≤ i) w' (some ad) (putcells xs) ∧ xs.length ≤ c ∧ xs.length ≤ 21 ∧ Chg (· = g) w w' ∧ Rdr w' g N
theorem own_rd_some {w : World} {B size n : Nat} {e : TypeId} {v : Value} {xs : List Value} (h : w.ownsRow B e size v n xs) (hv : v ≠ .slice none 0 0) : ∃ ad c, v = .slice (some ad) n c ∧ n ≤ c ∧ Rd (fun i => B ≤ i) w (some ad) xs := by
  obtain ⟨A, c, rfl, hn, hr⟩ := own_rd h
  rcases h.2 with ⟨h1, _⟩ | ⟨g, cap, cur, h1, _⟩
  · exact absurd h1 hv
  · cases h1
    exact ⟨_, _, rfl, hn, hr⟩
theorem putcells_snoc (ys : List Pt) (a b d : Int) : putcells (ys ++ [⟨a, b, d⟩]) = putcells ys ++ [Value.int .i64 a, Value.int .i64 b, Value.int .i64 d] := by
  unfold putcells; rw [List.flatMap_append]; rfl
theorem putcells_zeros (n : Nat) : putcells (List.replicate n ⟨0, 0, 0⟩) = reps n [Value.int .i64 0, .int .i64 0, .int .i64 0] := by
  induction n with
  | zero => rfl
  | succ n ih => rw [reps_succ, ← ih, List.replicate_succ]; rfl

set_option maxRecDepth 100000 in
set_option maxHeartbeats 4000000 in
theorem l20Puts_any (g N : Nat) (n : Int) (w : World) (h : Rdr w g N) (hN : N ≤ 1000000) (hn0 : 0 ≤ n) (hn : n ≤ 1000000) :
    Calls Try.prog 108 #[.pointer (some ⟨g, 0, none⟩), .int .i64 n] w (PDrawn g (N + 100) w) := by
  obtain ⟨i0, hi, hz0, hz1, hz2⟩ := info_parts info_put
  have hmk : ∀ W, (Instr.makeSlice 72 (.int .i64 21) (.int .i64 21)).run Try.prog W = .ok (.slice (some ⟨W.heap.size, 0, none⟩) 21 21) (W.alloc (.cells (reps 21 [.int .i64 0, .int .i64 0, .int .i64 0]).toArray 138)) :=
    fun W => run_make_reps (P := Try.prog) 72 138 i0 (.agg #[.int .i64 0, .int .i64 0, .int .i64 0]) [.int .i64 0, .int .i64 0, .int .i64 0] Try.underlying72 hi hz0 rfl hz1 21 (by rw [hz2]; omega) (by omega) W
  have hlt0 := h.lt
  go_enter Try.func108, Try.ntmps108
  go_wp2_with fail
  refine (pick_any g N 14 _ (h.alloc _) (by omega) (by omega) (by omega)).mono ?_
  rintro e w1 ⟨k0, rfl, hk0, hc1, hr1⟩
  have hw0 := own_chg (own_empty w 138 3 w.heap.size (Nat.le_refl _)) hc1 (fun i hi => by omega)
  have hch1 := ((Chg.refl (· = g) w).alloc (.cells #[] 138)).trans hc1
  have hk9 : k0 ≤ 13 := by omega
  clear hc1
  go_wp2_with fail
  go_loopw [5, 6] (fun v i wr => ∃ (k M : Nat) (ys : List Pt), i = .int .i64 k ∧ k ≤ 13 ∧ Rdr wr g M ∧ M + 3 * k ≤ N + 60 ∧ Chg (· = g) w wr ∧ wr.ownsRow w.heap.size 138 3 v ys.length (putcells ys) ∧ ys.length + k ≤ 13 ∧ v ≠ .slice none 0 0) (fun _ i _ => (intOf i).toNat)
  case atStart => exact ⟨k0, N + 1, [], rfl, hk9, hr1, by omega, hch1, hw0, by simpa using hk9, by simp⟩
  case round =>
    obtain ⟨k, M, ys, rfl, hk, hr, hM, hch, how, hys, hvn⟩ := hrel
    have HC := Lib.hid hch
    have HO := Lib.hid how
    clear hch how
    by_cases hlt : 0 < k
    · go_wp2_with fail
      refine (pick_any g _ 3 _ hr (by omega) (by omega) (by omega)).mono ?_
      rintro e w1 ⟨a, rfl, ha, hc1, hr1⟩
      have HC1 := Lib.hid (HC.out.trans hc1)
      have HO1 := Lib.hid (own_chg HO.out hc1 (fun i hi => by omega))
      clear hc1
      go_wp2_with fail
      refine (pick_any g _ 3 _ hr1 (by omega) (by omega) (by omega)).mono ?_
      rintro e w2 ⟨b, rfl, hb, hc2, hr2⟩
      have HC2 := Lib.hid (HC1.out.trans hc2)
      have HO2 := Lib.hid (own_chg HO1.out hc2 (fun i hi => by omega))
      clear hc2
      go_wp2_with fail
      refine (pick_any g _ 100 _ hr2 (by omega) (by omega) (by omega)).mono ?_
      rintro e w3 ⟨d, rfl, hd, hc3, hr3⟩
      have HC3 := Lib.hid (HC2.out.trans hc3)
      have hO3 := own_chg HO2.out hc3 (fun i hi => by omega)
      have hsz := HC3.out.size
      clear hc3
      go_wp2_with (at_builtin; refine wpList_append_own _ rfl (.tmp 14) (.tmp 22) _ rfl w.heap.size 138 i0 (.agg #[.int .i64 0, .int .i64 0, .int .i64 0]) 3 24 Try.underlying72 hi hz0 hz1 hz2 rfl (by decide) _ _ _ rfl (hO3.alloc _) ⟨w3.heap.size, 0, none⟩ 1 1 [.int .i64 a, .int .i64 b, .int .i64 d] rfl rfl (cells_new _ _ _) (by simp [Value.oneCell']) (by simp only [maxLen]; omega) (by omega) (by simp; omega) ?_; intro v' w5 hown' hgrow hne)
      have hR5 := (hr3.alloc _).grown hgrow (fun j hj => Nat.lt_of_lt_of_le hlt0 (hO3.lt j hj).1)
      go_roundw
      case rel =>
        refine ⟨k - 1, M + 1 + 1 + 1, ys ++ [⟨(a : Int), (b : Int), (d : Int)⟩], by go_num, by omega, hR5, by omega, chg_grown (hO3.alloc _) hgrow (HC3.out.alloc _) (Nat.le_refl _), ?_, by simp; omega, fun e => absurd (hne.1 e).2 (by omega)⟩
        rw [putcells_snoc, List.length_append]
        exact hown'
      case measure => simp [intOf]; omega
    · obtain rfl : k = 0 := by omega
      go_wp2_with fail
      refine (odd_any g _ n _ hr (by omega) hn0 hn).mono ?_
      rintro e w3 ⟨b3, rfl, _, hc3, hr3⟩
      have HC3 := Lib.hid (HC.out.trans hc3)
      have hO3 := own_chg HO.out hc3 (fun i hi => by omega)
      clear hc3
      cases b3
      · obtain ⟨A', c', hv, hle, hrd⟩ := own_rd_some hO3 hvn
        subst hv
        clear hO3
        go_wp2
        go_ret
        exact ⟨A', c', ys, rfl, hrd, hle, by omega, HC3.out, hr3.more (by omega)⟩
      · have HO3 := Lib.hid hO3
        clear hO3
        go_wp2_with fail
        refine (pick_any g _ 4 _ hr3 (by omega) (by omega) (by omega)).mono ?_
        rintro e w4 ⟨k4, rfl, hk4, hc4, hr4⟩
        have HC4 := Lib.hid (HC3.out.trans hc4)
        have HO4 := Lib.hid (own_chg HO3.out hc4 (fun i hi => by omega))
        clear hc4
        by_cases hk40 : k4 = 0
        · subst hk40
          go_wp2
          go_ret
          refine ⟨⟨w4.heap.size, 0, none⟩, 21, List.replicate 21 ⟨0, 0, 0⟩, rfl, ?_, by simp, by simp, HC4.out.alloc _, (hr4.alloc _).more (by omega)⟩
          rw [putcells_zeros]
          exact (Blk.new w4 138 (reps 21 [.int .i64 0, .int .i64 0, .int .i64 0]).toArray).rd.mono fun i _ hi => by subst hi; exact HC4.out.size
        · have hkne : ((k4 : Int) == 0) = false := beq_eq_false_iff_ne.2 (by omega)
          clear hk40
          go_wp2_with fail
          have hlit := Blk.new w4 138 #[.int .i64 (-1), .int .i64 0, .int .i64 0, .int .i64 8, .int .i64 0, .int .i64 0, .int .i64 0, .int .i64 6, .int .i64 0, .int .i64 0, .int .i64 0, .int .i64 10000]
          have hlt4 := hr4.lt
          refine (pick_any g _ 4 _ (hr4.alloc _) (by omega) (by omega) (by omega)).mono ?_
          rintro e w5 ⟨l, rfl, hl, hc5, hr5⟩
          have hlit5 := hlit.chg hc5 (by omega)
          have HC5 := Lib.hid ((HC4.out.alloc (.cells #[.int .i64 (-1), .int .i64 0, .int .i64 0, .int .i64 8, .int .i64 0, .int .i64 0, .int .i64 0, .int .i64 6, .int .i64 0, .int .i64 0, .int .i64 0, .int .i64 10000] 138)).trans hc5)
          have hO5 := own_chg (own_chg HO4.out ((Chg.refl NoB w4).alloc _) (fun _ _ x => x)) hc5 (fun i hi => by omega)
          have hsz := HC5.out.size
          clear hc5 hlit
          obtain ⟨u, v, x, hcell1, hcell2, hcell3⟩ : ∃ u v x : Int, w5.cell? ⟨w4.heap.size, l * 3, none⟩ = some (.int .i64 u) ∧ w5.cell? ⟨w4.heap.size, l * 3 + 1, none⟩ = some (.int .i64 v) ∧ w5.cell? ⟨w4.heap.size, l * 3 + 2, none⟩ = some (.int .i64 x) := by
            obtain rfl | rfl | rfl | rfl : l = 0 ∨ l = 1 ∨ l = 2 ∨ l = 3 := by omega
            · exact ⟨-1, 0, 0, by rw [hlit5.cell]; rfl, by rw [hlit5.cell]; rfl, by rw [hlit5.cell]; rfl⟩
            · exact ⟨8, 0, 0, by rw [hlit5.cell]; rfl, by rw [hlit5.cell]; rfl, by rw [hlit5.cell]; rfl⟩
            · exact ⟨0, 6, 0, by rw [hlit5.cell]; rfl, by rw [hlit5.cell]; rfl, by rw [hlit5.cell]; rfl⟩
            · exact ⟨0, 0, 10000, by rw [hlit5.cell]; rfl, by rw [hlit5.cell]; rfl, by rw [hlit5.cell]; rfl⟩
          clear hlit5
          go_wp2_with (at_builtin; refine wpList_append_own _ rfl (.tmp 31) (.tmp 41) _ rfl w.heap.size 138 i0 (.agg #[.int .i64 0, .int .i64 0, .int .i64 0]) 3 24 Try.underlying72 hi hz0 hz1 hz2 rfl (by decide) _ _ _ rfl (hO5.alloc _) ⟨w5.heap.size, 0, none⟩ 1 1 [.int .i64 u, .int .i64 v, .int .i64 x] rfl rfl (cells_new _ _ _) (by simp [Value.oneCell']) (by simp only [maxLen]; omega) (by omega) (by simp; omega) ?_; intro v' w6 hown' hgrow hne)
          have hR6 := (hr5.alloc _).grown hgrow (fun j hj => Nat.lt_of_lt_of_le hlt0 (hO5.lt j hj).1)
          have hC6 := chg_grown (hO5.alloc _) hgrow (HC5.out.alloc _) (Nat.le_refl _)
          obtain ⟨A', c', hv, hle, hrd⟩ := own_rd_some hown' (fun e => absurd (hne.1 e).2 (by omega))
          subst hv
          try go_wp2
          go_ret
          refine ⟨A', c', ys ++ [⟨u, v, x⟩], by rw [List.length_append]; rfl, by rw [putcells_snoc]; exact hrd, by rw [List.length_append]; exact hle, by simp; omega, hC6, hR6.more (by omega)⟩

def PDraw (w : World) (e : Ending) (w' : World) : Prop :=
  ∃ ad c xs, e = .returned (.slice (some ad) xs.length c) ∧ Rd (fun i => w.heap.size ≤ i) w' (some ad) (putcells xs) ∧ xs.length ≤ c ∧ xs.length ≤ 21 ∧ Chg NoB w w'
theorem PDraw.of {w w1 w' : World} {g N : Nat} {e : Ending} (hg : g = w.heap.size) (hc : Chg NoB w w1) (h : PDrawn g N w1 e w') : PDraw w e w' := by
  obtain ⟨A, c, xs, rfl, hr, h1, h2, h3, _⟩ := h
  exact ⟨A, c, xs, rfl, hr.mono fun _ _ hi => Nat.le_trans hc.size hi, h1, h2, hc.own h3 (Nat.le_of_eq hg.symm)⟩
def PVDraw (w : World) (e : Ending) (w' : World) : Prop :=
  ∃ ad c xs f p, e = .returned (.tuple #[.slice (some ad) xs.length c, .int .i64 f, .int .i64 p]) ∧ 0 ≤ f ∧ f ≤ 3 ∧ 0 ≤ p ∧ p ≤ 3 ∧ Rd (fun i => w.heap.size ≤ i) w' (some ad) (putcells xs) ∧ xs.length ≤ c ∧ xs.length ≤ 21 ∧ Chg NoB w w'
theorem results_tmp3' {fn : Func} {t u v : Tmp} (h : fn.results = #[.tmp t, .tmp u, .tmp v]) (tmps : Array Value) (P : Program) (w : World) :
    (results fn tmps).run P w = .ok (.tuple #[tmps.getD t undef, tmps.getD u undef, tmps.getD v undef]) w := by simp [results, h]
end Go.Proofs.Ytpiojofmflfkkaa
