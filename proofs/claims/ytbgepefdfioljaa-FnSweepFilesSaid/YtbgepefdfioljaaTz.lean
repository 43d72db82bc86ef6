/- NewerSave of the program and of the reference. -/
import Derived.Test.YtbgepefdfioljaaTm
namespace Go.Proofs.Ytbgepefdfioljaa
open Go.RowKit
structure LdA where
  n : Int
  xs : List Int
  s : Int
def NewerIs (p q : LdA) (X : List (List Int)) (N : Int) (b : Bool) : Prop :=
  ∃ X1 b1 X2 b2, LoadIs p.n p.xs p.s X1 b1 ∧ LoadIs q.n q.xs q.s X2 b2 ∧
    (b1 = true → (b2 = false ∨ q.n ≤ p.n) → X = X1 ∧ N = p.n ∧ b = true) ∧
    (¬ (b1 = true ∧ (b2 = false ∨ q.n ≤ p.n)) → b2 = true → X = X2 ∧ N = q.n ∧ b = true) ∧
    (b1 = false → b2 = false → X = [] ∧ N = -1 ∧ b = false)
theorem NewerIs.det {p q : LdA} {X X' : List (List Int)} {N N' : Int} {b b' : Bool} (h : NewerIs p q X N b) (h' : NewerIs p q X' N' b') : X = X' ∧ N = N' ∧ b = b' := by
  obtain ⟨X1, b1, X2, b2, h1, h2, ha, hb, hc⟩ := h
  obtain ⟨Y1, d1, Y2, d2, g1, g2, ga, gb, gc⟩ := h'
  obtain ⟨rfl, rfl⟩ := h1.det g1
  obtain ⟨rfl, rfl⟩ := h2.det g2
  by_cases hq : b1 = true ∧ (b2 = false ∨ q.n ≤ p.n)
  · obtain ⟨rfl, rfl, rfl⟩ := ha hq.1 hq.2
    obtain ⟨rfl, rfl, rfl⟩ := ga hq.1 hq.2
    exact ⟨rfl, rfl, rfl⟩
  · cases b2
    · cases b1
      · obtain ⟨rfl, rfl, rfl⟩ := hc rfl rfl
        obtain ⟨rfl, rfl, rfl⟩ := gc rfl rfl
        exact ⟨rfl, rfl, rfl⟩
      · exact absurd ⟨rfl, .inl rfl⟩ hq
    · obtain ⟨rfl, rfl, rfl⟩ := hb hq rfl
      obtain ⟨rfl, rfl, rfl⟩ := gb hq rfl
      exact ⟨rfl, rfl, rfl⟩
theorem load_total {n s : Int} {xs : List Int} {X : List (List Int)} {b : Bool} (h : LoadIs n xs s X b) : total X ≤ 1048576 ∧ X.length ≤ 9223372036854775807 ∧ ∀ r ∈ X, r.length ≤ 9223372036854775807 := by
  by_cases ha : loadArgs n xs s
  · obtain ⟨rfl, -⟩ := h.1 ha
    have h48 := ha.1
    have hr : ∀ r ∈ chunks xs, r.length = 6 := fun r hr => by
      obtain ⟨k, hk, rfl⟩ := List.getElem_of_mem hr
      rw [chunks_len] at hk
      rw [chunks_get, chunk_len h48 hk]
    have hl := chunks_len xs
    have ht : total (chunks xs) ≤ 1048576 := by
      have : ∀ (l : List (List Int)), (∀ r ∈ l, r.length = 6) → (l.map List.length).sum = 6 * l.length := by
        intro l
        induction l with
        | nil => intro _; rfl
        | cons x l ih => intro h; rw [List.map_cons, List.sum_cons, ih (fun r hr => h r (List.mem_cons_of_mem _ hr)), h x (List.mem_cons_self), List.length_cons]; omega
      unfold total
      have h3 := this _ hr
      omega
    exact ⟨ht, by omega, fun r h => by rw [hr r h]; omega⟩
  · obtain ⟨rfl, -⟩ := h.2 ha
    exact ⟨by simp [total], by simp, by simp⟩
theorem NewerIs.from {p q : LdA} {X : List (List Int)} {N : Int} {b : Bool} (h : NewerIs p q X N b) : X = [] ∨ (∃ r b', LoadIs r.n r.xs r.s X b' ∧ r = p) ∨ (∃ r b', LoadIs r.n r.xs r.s X b' ∧ r = q) := by
  obtain ⟨X1, b1, X2, b2, h1, h2, ha, hb, hc⟩ := h
  by_cases hq : b1 = true ∧ (b2 = false ∨ q.n ≤ p.n)
  · obtain ⟨rfl, -, -⟩ := ha hq.1 hq.2; exact .inr (.inl ⟨p, b1, h1, rfl⟩)
  · cases b2
    · cases b1
      · obtain ⟨rfl, -, -⟩ := hc rfl rfl; exact .inl rfl
      · exact absurd ⟨rfl, .inl rfl⟩ hq
    · obtain ⟨rfl, -, -⟩ := hb hq rfl; exact .inr (.inr ⟨q, true, h2, rfl⟩)
def NewerP (w : World) (p q : LdA) (e : Ending) (w' : World) : Prop :=
  ∃ A c T N b, e = .returned (.tuple #[.agg #[.slice A (T : List RowO).length c], .int .i64 N, .bool b]) ∧ TabO w.heap.size w'.heap.size w' A c T ∧ Hid (NewerIs p q (listsOf T) N b) ∧ Chg NoB w w'
set_option maxRecDepth 100000 in
set_option maxHeartbeats 4000000 in
theorem iNewerSave_any (F G : Nat → Prop) (p q : LdA) (A1 A2 : Option Addr) (c1 c2 : Nat) (w : World) (h : Rd F w A1 (icells p.xs)) (hc1 : p.xs.length ≤ c1) (hm1 : c1 ≤ 9223372036854775807) (h' : Rd G w A2 (icells q.xs)) (hc2 : q.xs.length ≤ c2) (hm2 : c2 ≤ 9223372036854775807) :
    Calls Try.prog 37 #[.agg #[.int .i64 p.n, .slice A1 p.xs.length c1, .int .i64 p.s], .agg #[.int .i64 q.n, .slice A2 q.xs.length c2, .int .i64 q.s]] w (NewerP w p q) := by
  obtain ⟨n1, xs1, s1⟩ := p
  obtain ⟨n2, xs2, s2⟩ := q
  simp only at h hc1 h' hc2 ⊢
  have HCM := Lib.hid (And.intro (And.intro hc1 hm1) (And.intro hc2 hm2))
  clear hc1 hm1 hc2 hm2
  have h := h.lt
  have h' := h'.lt
  go_enter Try.func37, Try.ntmps37
  go_wp2_with fail
  have HCH := Lib.hid (Chg.refl NoB w)
  have HX := Lib.hid h
  have HY := Lib.hid h'
  clear h h'
  obtain ⟨w1, hw1⟩ : ∃ w1, w.alloc (.cells #[.int .i64 n1, .slice A1 xs1.length c1, .int .i64 s1] 37) = w1 := ⟨_, rfl⟩
  try rw [hw1]
  have q2 : Chg NoB w w1 := by rw [← hw1]; exact (Chg.refl _ _).alloc _
  have bq2 : Blk w1 w.heap.size 37 #[.int .i64 n1, .slice A1 xs1.length c1, .int .i64 s1] := by rw [← hw1]; exact Blk.new _ _ _
  have sq2 : w1.heap.size = w.heap.size + 1 := by rw [← hw1]; exact World.size_alloc ..
  clear hw1
  replace HCH := Lib.hid (HCH.out.trans q2)
  replace HX := Lib.hid (HX.out.new q2)
  replace HY := Lib.hid (HY.out.new q2)
  have S3 := Lib.hid q2.size
  have S4 := Lib.hid sq2
  have HB_a := Lib.hid bq2
  have z_a_0 : w1.cell? ⟨w.heap.size, 0, none⟩ = some (.int .i64 n1) := (HB_a.out.cell _).trans rfl
  have z_a_1 : w1.cell? ⟨w.heap.size, 1, none⟩ = some (.slice A1 xs1.length c1) := (HB_a.out.cell _).trans rfl
  have z_a_2 : w1.cell? ⟨w.heap.size, 2, none⟩ = some (.int .i64 s1) := (HB_a.out.cell _).trans rfl
  clear q2 sq2 bq2
  obtain ⟨w5, hw5⟩ : ∃ w5, w1.alloc (.cells #[.int .i64 n2, .slice A2 xs2.length c2, .int .i64 s2] 37) = w5 := ⟨_, rfl⟩
  try rw [hw5]
  have q6 : Chg NoB w1 w5 := by rw [← hw5]; exact (Chg.refl _ _).alloc _
  have bq6 : Blk w5 (w.heap.size + 1) 37 #[.int .i64 n2, .slice A2 xs2.length c2, .int .i64 s2] := by have hz : w1.heap.size = w.heap.size + 1 := (by have := S3.out; have := S4.out; omega); rw [← hz, ← hw5]; exact Blk.new _ _ _
  have sq6 : w5.heap.size = w1.heap.size + 1 := by rw [← hw5]; exact World.size_alloc ..
  clear hw5
  replace HCH := Lib.hid (HCH.out.trans q6)
  replace HB_a := Lib.hid (HB_a.out.chg q6 (fun x => x))
  replace z_a_0 := Chg.cell q6 z_a_0 (fun x => x)
  replace z_a_1 := Chg.cell q6 z_a_1 (fun x => x)
  replace z_a_2 := Chg.cell q6 z_a_2 (fun x => x)
  replace HX := Lib.hid (HX.out.new q6)
  replace HY := Lib.hid (HY.out.new q6)
  have S7 := Lib.hid q6.size
  have S8 := Lib.hid sq6
  have HB_b := Lib.hid bq6
  have z_b_0 : w5.cell? ⟨w.heap.size + 1, 0, none⟩ = some (.int .i64 n2) := (HB_b.out.cell _).trans rfl
  have z_b_1 : w5.cell? ⟨w.heap.size + 1, 1, none⟩ = some (.slice A2 xs2.length c2) := (HB_b.out.cell _).trans rfl
  have z_b_2 : w5.cell? ⟨w.heap.size + 1, 2, none⟩ = some (.int .i64 s2) := (HB_b.out.cell _).trans rfl
  clear q6 sq6 bq6
  obtain ⟨w9, hw9⟩ : ∃ w9, w5.alloc (.cells #[.slice none 0 0] 39) = w9 := ⟨_, rfl⟩
  try rw [hw9]
  have q10 : Chg NoB w5 w9 := by rw [← hw9]; exact (Chg.refl _ _).alloc _
  have bq10 : Blk w9 (w.heap.size + 1 + 1) 39 #[.slice none 0 0] := by have hz : w5.heap.size = w.heap.size + 1 + 1 := (by have := S3.out; have := S4.out; have := S7.out; have := S8.out; omega); rw [← hz, ← hw9]; exact Blk.new _ _ _
  have sq10 : w9.heap.size = w5.heap.size + 1 := by rw [← hw9]; exact World.size_alloc ..
  clear hw9
  replace HCH := Lib.hid (HCH.out.trans q10)
  replace HB_a := Lib.hid (HB_a.out.chg q10 (fun x => x))
  replace z_a_0 := Chg.cell q10 z_a_0 (fun x => x)
  replace z_a_1 := Chg.cell q10 z_a_1 (fun x => x)
  replace z_a_2 := Chg.cell q10 z_a_2 (fun x => x)
  replace HB_b := Lib.hid (HB_b.out.chg q10 (fun x => x))
  replace z_b_0 := Chg.cell q10 z_b_0 (fun x => x)
  replace z_b_1 := Chg.cell q10 z_b_1 (fun x => x)
  replace z_b_2 := Chg.cell q10 z_b_2 (fun x => x)
  replace HX := Lib.hid (HX.out.new q10)
  replace HY := Lib.hid (HY.out.new q10)
  have S11 := Lib.hid q10.size
  have S12 := Lib.hid sq10
  have HB_r := Lib.hid bq10
  have z_r_0 : w9.cell? ⟨w.heap.size + 1 + 1, 0, none⟩ = some (.slice none 0 0) := (HB_r.out.cell _).trans rfl
  clear q10 sq10 bq10
  refine (iLoadTable_any _ n1 s1 A1 c1 xs1 _ HX.out (HCM.out.1.1) (HCM.out.1.2)).mono ?_
  rintro e w13 ⟨D1, d1, T1, b1, rfl, hO1, hI1, hc14⟩
  replace HCH := Lib.hid (HCH.out.trans hc14)
  replace HB_a := Lib.hid (HB_a.out.chg hc14 (fun x => x))
  replace z_a_0 := Chg.cell hc14 z_a_0 (fun x => x)
  replace z_a_1 := Chg.cell hc14 z_a_1 (fun x => x)
  replace z_a_2 := Chg.cell hc14 z_a_2 (fun x => x)
  replace HB_b := Lib.hid (HB_b.out.chg hc14 (fun x => x))
  replace z_b_0 := Chg.cell hc14 z_b_0 (fun x => x)
  replace z_b_1 := Chg.cell hc14 z_b_1 (fun x => x)
  replace z_b_2 := Chg.cell hc14 z_b_2 (fun x => x)
  replace HB_r := Lib.hid (HB_r.out.chg hc14 (fun x => x))
  replace z_r_0 := Chg.cell hc14 z_r_0 (fun x => x)
  replace HX := Lib.hid (HX.out.new hc14)
  replace HY := Lib.hid (HY.out.new hc14)
  have S15 := Lib.hid hc14.size
  have O1 := Lib.hid hO1
  clear hO1 hc14
  clear HX
  have zz_a_0 := Chg.cell ((Chg.refl NoB w13).alloc (.cells #[.slice D1 T1.length d1] 39)) z_a_0 (fun x => x)
  have zz_a_1 := Chg.cell ((Chg.refl NoB w13).alloc (.cells #[.slice D1 T1.length d1] 39)) z_a_1 (fun x => x)
  have zz_a_2 := Chg.cell ((Chg.refl NoB w13).alloc (.cells #[.slice D1 T1.length d1] 39)) z_a_2 (fun x => x)
  have zz_b_0 := Chg.cell ((Chg.refl NoB w13).alloc (.cells #[.slice D1 T1.length d1] 39)) z_b_0 (fun x => x)
  have zz_b_1 := Chg.cell ((Chg.refl NoB w13).alloc (.cells #[.slice D1 T1.length d1] 39)) z_b_1 (fun x => x)
  have zz_b_2 := Chg.cell ((Chg.refl NoB w13).alloc (.cells #[.slice D1 T1.length d1] 39)) z_b_2 (fun x => x)
  have zz_r_0 := Chg.cell ((Chg.refl NoB w13).alloc (.cells #[.slice D1 T1.length d1] 39)) z_r_0 (fun x => x)
  go_wp2_with fail
  clear zz_a_0 zz_a_1 zz_a_2 zz_b_0 zz_b_1 zz_b_2 zz_r_0
  obtain ⟨w16, hw16⟩ : ∃ w16, w13.alloc (.cells #[.slice D1 T1.length d1] 39) = w16 := ⟨_, rfl⟩
  try rw [hw16]
  have q17 : Chg NoB w13 w16 := by rw [← hw16]; exact (Chg.refl _ _).alloc _
  have bq17 : Blk w16 w13.heap.size 39 #[.slice D1 T1.length d1] := by rw [← hw16]; exact Blk.new _ _ _
  have sq17 : w16.heap.size = w13.heap.size + 1 := by rw [← hw16]; exact World.size_alloc ..
  clear hw16
  replace HCH := Lib.hid (HCH.out.trans q17)
  replace HB_a := Lib.hid (HB_a.out.chg q17 (fun x => x))
  replace z_a_0 := Chg.cell q17 z_a_0 (fun x => x)
  replace z_a_1 := Chg.cell q17 z_a_1 (fun x => x)
  replace z_a_2 := Chg.cell q17 z_a_2 (fun x => x)
  replace HB_b := Lib.hid (HB_b.out.chg q17 (fun x => x))
  replace z_b_0 := Chg.cell q17 z_b_0 (fun x => x)
  replace z_b_1 := Chg.cell q17 z_b_1 (fun x => x)
  replace z_b_2 := Chg.cell q17 z_b_2 (fun x => x)
  replace HB_r := Lib.hid (HB_r.out.chg q17 (fun x => x))
  replace z_r_0 := Chg.cell q17 z_r_0 (fun x => x)
  replace HY := Lib.hid (HY.out.new q17)
  replace O1 := Lib.hid (O1.out.new q17)
  have S18 := Lib.hid q17.size
  have S19 := Lib.hid sq17
  have HB_x := Lib.hid bq17
  have z_x_0 : w16.cell? ⟨w13.heap.size, 0, none⟩ = some (.slice D1 T1.length d1) := (HB_x.out.cell _).trans rfl
  clear q17 sq17 bq17
  refine (iLoadTable_any _ n2 s2 A2 c2 xs2 _ HY.out (HCM.out.2.1) (HCM.out.2.2)).mono ?_
  rintro e w20 ⟨D2, d2, T2, b2, rfl, hO2, hI2, hc21⟩
  replace HCH := Lib.hid (HCH.out.trans hc21)
  replace HB_a := Lib.hid (HB_a.out.chg hc21 (fun x => x))
  replace z_a_0 := Chg.cell hc21 z_a_0 (fun x => x)
  replace z_a_1 := Chg.cell hc21 z_a_1 (fun x => x)
  replace z_a_2 := Chg.cell hc21 z_a_2 (fun x => x)
  replace HB_b := Lib.hid (HB_b.out.chg hc21 (fun x => x))
  replace z_b_0 := Chg.cell hc21 z_b_0 (fun x => x)
  replace z_b_1 := Chg.cell hc21 z_b_1 (fun x => x)
  replace z_b_2 := Chg.cell hc21 z_b_2 (fun x => x)
  replace HB_r := Lib.hid (HB_r.out.chg hc21 (fun x => x))
  replace z_r_0 := Chg.cell hc21 z_r_0 (fun x => x)
  replace HB_x := Lib.hid (HB_x.out.chg hc21 (fun x => x))
  replace z_x_0 := Chg.cell hc21 z_x_0 (fun x => x)
  replace HY := Lib.hid (HY.out.new hc21)
  replace O1 := Lib.hid (O1.out.new hc21)
  have S22 := Lib.hid hc21.size
  have O2 := Lib.hid hO2
  clear hO2 hc21
  clear HY
  have HI1 := Lib.hid hI1.out
  have HI2 := Lib.hid hI2.out
  clear hI1 hI2
  have zz_a_0 := Chg.cell ((Chg.refl NoB w20).alloc (.cells #[.slice D2 T2.length d2] 39)) z_a_0 (fun x => x)
  have zz_a_1 := Chg.cell ((Chg.refl NoB w20).alloc (.cells #[.slice D2 T2.length d2] 39)) z_a_1 (fun x => x)
  have zz_a_2 := Chg.cell ((Chg.refl NoB w20).alloc (.cells #[.slice D2 T2.length d2] 39)) z_a_2 (fun x => x)
  have zz_b_0 := Chg.cell ((Chg.refl NoB w20).alloc (.cells #[.slice D2 T2.length d2] 39)) z_b_0 (fun x => x)
  have zz_b_1 := Chg.cell ((Chg.refl NoB w20).alloc (.cells #[.slice D2 T2.length d2] 39)) z_b_1 (fun x => x)
  have zz_b_2 := Chg.cell ((Chg.refl NoB w20).alloc (.cells #[.slice D2 T2.length d2] 39)) z_b_2 (fun x => x)
  have zz_r_0 := Chg.cell ((Chg.refl NoB w20).alloc (.cells #[.slice D2 T2.length d2] 39)) z_r_0 (fun x => x)
  have zz_x_0 := Chg.cell ((Chg.refl NoB w20).alloc (.cells #[.slice D2 T2.length d2] 39)) z_x_0 (fun x => x)
  have hbr := HB_r.out.chg ((Chg.refl NoB w20).alloc (.cells #[.slice D2 T2.length d2] 39)) (fun x => x)
  have zf := hbr.frozen 0
  have zy := (Blk.new w20 39 #[.slice D2 T2.length d2]).cell 0
  replace zy := zy.trans (show _ = some (Value.slice D2 T2.length d2) from rfl)
  clear hbr
  clear z_a_0 z_a_1 z_a_2 z_b_0 z_b_1 z_b_2 z_r_0 z_x_0
  have HSZ := Lib.hid (show w.heap.size + 1 + 1 < w20.heap.size from HB_r.out.lt)
  have HCE : Hid (∀ (wq : World) (u : Value), Chg NoB (w20.alloc (.cells #[.slice D2 T2.length d2] 39)) wq → Chg NoB w (wq.setCell ⟨w.heap.size + 1 + 1, 0, none⟩ u)) := Lib.hid (fun wq u hq => ((HCH.out.trans ((Chg.refl NoB w20).alloc (.cells #[.slice D2 T2.length d2] 39))).trans hq).own ((Chg.refl (· = w.heap.size + 1 + 1) wq).setCell (p := ⟨w.heap.size + 1 + 1, 0, none⟩) (.inl rfl) _) (by have := HB_r.out.lt; have := S3.out; have := S4.out; have := S7.out; have := S8.out; have := S11.out; have := S12.out; have := S15.out; have := S18.out; have := S19.out; have := S22.out;  omega))
  have HTE : ∀ (D : Option Addr) (d : Nat) (TT : List RowO) (B E : Nat), TabO B E w20 D d TT → w.heap.size ≤ B → w.heap.size + 1 + 1 < B ∨ E ≤ w.heap.size + 1 + 1 → E ≤ w20.heap.size → Hid (∀ (wq : World) (u : Value), Chg NoB (w20.alloc (.cells #[.slice D2 T2.length d2] 39)) wq → TabO w.heap.size (wq.setCell ⟨w.heap.size + 1 + 1, 0, none⟩ u).heap.size (wq.setCell ⟨w.heap.size + 1 + 1, 0, none⟩ u) D d TT) := fun D d TT B E ho hB hBE hE => Lib.hid (fun wq u hq => by
    have h1 := (ho.new ((Chg.refl NoB w20).alloc (.cells #[.slice D2 T2.length d2] 39))).new hq
    have hs := ((Chg.refl NoB w20).alloc (.cells #[.slice D2 T2.length d2] 39)).size
    have hs2 := hq.size
    refine (h1.chg ((Chg.refl (· = w.heap.size + 1 + 1) wq).setCell (p := ⟨w.heap.size + 1 + 1, 0, none⟩) (.inl rfl) u) (fun i h1 h2 h3 => ?_)).more hB (by rw [World.size_setCell]; omega)
    omega)
  have HT1 := HTE _ _ _ _ _ O1.out (by have := S3.out; have := S4.out; have := S7.out; have := S8.out; have := S11.out; have := S12.out; have := S15.out; have := S18.out; have := S19.out; have := S22.out; omega) (by have := S3.out; have := S4.out; have := S7.out; have := S8.out; have := S11.out; have := S12.out; have := S15.out; have := S18.out; have := S19.out; have := S22.out; omega) (by have := S3.out; have := S4.out; have := S7.out; have := S8.out; have := S11.out; have := S12.out; have := S15.out; have := S18.out; have := S19.out; have := S22.out; omega)
  have HT2 := HTE _ _ _ _ _ O2.out (by have := S3.out; have := S4.out; have := S7.out; have := S8.out; have := S11.out; have := S12.out; have := S15.out; have := S18.out; have := S19.out; have := S22.out; omega) (by have := S3.out; have := S4.out; have := S7.out; have := S8.out; have := S11.out; have := S12.out; have := S15.out; have := S18.out; have := S19.out; have := S22.out; omega) (by have := S3.out; have := S4.out; have := S7.out; have := S8.out; have := S11.out; have := S12.out; have := S15.out; have := S18.out; have := S19.out; have := S22.out; omega)
  clear HTE O1 O2 HCM HB_a HB_b HB_r HB_x S3 S4 S7 S8 S11 S12 S15 S18 S19 S22
  cases b1
  · cases b2
    · skip
      go_wp2_with fail
      (try simp only [Exit.inBlock, Exit.then])
      refine bodyPost_ret (v := .tuple #[.agg #[.slice none 0 0], .int .i64 (-1), .bool false]) (by simp [results, Try.results37, go_sem, *]) rfl ?_
      exact ⟨none, 0, [], -1, false, rfl, TabO.nil _ _ _ _ _, Lib.hid ⟨_, _, _, _, HI1.out, HI2.out, fun hh => absurd hh (by simp), fun _ hh => absurd hh (by simp), fun _ _ => ⟨rfl, rfl, rfl⟩⟩, HCE.out _ _ (Chg.refl _ _)⟩
    · skip
      go_wp2_with fail
      go_region
      go_wp2_with fail
      (try simp only [Exit.inBlock, Exit.then])
      refine bodyPost_ret (v := .tuple #[.agg #[.slice D2 T2.length d2], .int .i64 n2, .bool true]) (by simp [results, Try.results37, go_sem, *]) rfl ?_
      exact ⟨D2, d2, T2, n2, true, rfl, HT2.out _ _ (Chg.refl NoB (w20.alloc (.cells #[.slice D2 T2.length d2] 39))), Lib.hid ⟨_, _, _, _, HI1.out, HI2.out, fun hh => absurd hh (by simp), fun _ _ => ⟨rfl, rfl, rfl⟩, fun _ hh => absurd hh (by simp)⟩, (HCE.out _ _ (Chg.refl NoB (w20.alloc (.cells #[.slice D2 T2.length d2] 39)))).drew⟩
  · cases b2
    · skip
      go_wp2_with fail
      go_region
      go_wp2_with fail
      (try simp only [Exit.inBlock, Exit.then])
      refine bodyPost_ret (v := .tuple #[.agg #[.slice D1 T1.length d1], .int .i64 n1, .bool true]) (by simp [results, Try.results37, go_sem, *]) rfl ?_
      exact ⟨D1, d1, T1, n1, true, rfl, HT1.out _ _ (Chg.refl NoB (w20.alloc (.cells #[.slice D2 T2.length d2] 39))), Lib.hid ⟨_, _, _, _, HI1.out, HI2.out, fun _ _ => ⟨rfl, rfl, rfl⟩, fun hh => absurd ⟨rfl, .inl rfl⟩ hh, fun hh => absurd hh (by simp)⟩, (HCE.out _ _ (Chg.refl NoB (w20.alloc (.cells #[.slice D2 T2.length d2] 39)))).drew⟩
    · by_cases hge : n2 ≤ n1
      · have hge' : decide (n1 ≥ n2) = true := decide_eq_true hge
        have HGE := Lib.hid hge
        go_wp2_with fail
        go_region
        go_wp2_with fail
        (try simp only [Exit.inBlock, Exit.then])
        refine bodyPost_ret (v := .tuple #[.agg #[.slice D1 T1.length d1], .int .i64 n1, .bool true]) (by simp [results, Try.results37, go_sem, *]) rfl ?_
        exact ⟨D1, d1, T1, n1, true, rfl, HT1.out _ _ (Chg.refl NoB (w20.alloc (.cells #[.slice D2 T2.length d2] 39))), Lib.hid ⟨_, _, _, _, HI1.out, HI2.out, fun _ _ => ⟨rfl, rfl, rfl⟩, fun hh => absurd ⟨rfl, .inr HGE.out⟩ hh, fun hh => absurd hh (by simp)⟩, (HCE.out _ _ (Chg.refl NoB (w20.alloc (.cells #[.slice D2 T2.length d2] 39)))).drew⟩
      · have hge' : decide (n1 ≥ n2) = false := decide_eq_false hge
        have HGE := Lib.hid hge
        go_wp2_with fail
        go_region
        go_wp2_with fail
        (try simp only [Exit.inBlock, Exit.then])
        refine bodyPost_ret (v := .tuple #[.agg #[.slice D2 T2.length d2], .int .i64 n2, .bool true]) (by simp [results, Try.results37, go_sem, *]) rfl ?_
        exact ⟨D2, d2, T2, n2, true, rfl, HT2.out _ _ (Chg.refl NoB (w20.alloc (.cells #[.slice D2 T2.length d2] 39))), Lib.hid ⟨_, _, _, _, HI1.out, HI2.out, fun _ hh => (by rcases hh with h1 | h1; exact absurd h1 (by simp); exact absurd h1 (Int.not_le.2 HGE.out)), fun _ _ => ⟨rfl, rfl, rfl⟩, fun hh => absurd hh (by simp)⟩, (HCE.out _ _ (Chg.refl NoB (w20.alloc (.cells #[.slice D2 T2.length d2] 39)))).drew⟩
set_option maxRecDepth 100000 in
set_option maxHeartbeats 4000000 in
theorem sNewerSave_any (F G : Nat → Prop) (p q : LdA) (A1 A2 : Option Addr) (c1 c2 : Nat) (w : World) (h : Rd F w A1 (icells p.xs)) (hc1 : p.xs.length ≤ c1) (hm1 : c1 ≤ 9223372036854775807) (h' : Rd G w A2 (icells q.xs)) (hc2 : q.xs.length ≤ c2) (hm2 : c2 ≤ 9223372036854775807) :
    Calls Try.prog 36 #[.agg #[.int .i64 p.n, .slice A1 p.xs.length c1, .int .i64 p.s], .agg #[.int .i64 q.n, .slice A2 q.xs.length c2, .int .i64 q.s]] w (NewerP w p q) := by
  obtain ⟨n1, xs1, s1⟩ := p
  obtain ⟨n2, xs2, s2⟩ := q
  simp only at h hc1 h' hc2 ⊢
  have HCM := Lib.hid (And.intro (And.intro hc1 hm1) (And.intro hc2 hm2))
  clear hc1 hm1 hc2 hm2
  have h := h.lt
  have h' := h'.lt
  go_enter Try.func36, Try.ntmps36
  go_wp2_with fail
  have HCH := Lib.hid (Chg.refl NoB w)
  have HX := Lib.hid h
  have HY := Lib.hid h'
  clear h h'
  obtain ⟨w1, hw1⟩ : ∃ w1, w.alloc (.cells #[.int .i64 n1, .slice A1 xs1.length c1, .int .i64 s1] 37) = w1 := ⟨_, rfl⟩
  try rw [hw1]
  have q2 : Chg NoB w w1 := by rw [← hw1]; exact (Chg.refl _ _).alloc _
  have bq2 : Blk w1 w.heap.size 37 #[.int .i64 n1, .slice A1 xs1.length c1, .int .i64 s1] := by rw [← hw1]; exact Blk.new _ _ _
  have sq2 : w1.heap.size = w.heap.size + 1 := by rw [← hw1]; exact World.size_alloc ..
  clear hw1
  replace HCH := Lib.hid (HCH.out.trans q2)
  replace HX := Lib.hid (HX.out.new q2)
  replace HY := Lib.hid (HY.out.new q2)
  have S3 := Lib.hid q2.size
  have S4 := Lib.hid sq2
  have HB_a := Lib.hid bq2
  have z_a_0 : w1.cell? ⟨w.heap.size, 0, none⟩ = some (.int .i64 n1) := (HB_a.out.cell _).trans rfl
  have z_a_1 : w1.cell? ⟨w.heap.size, 1, none⟩ = some (.slice A1 xs1.length c1) := (HB_a.out.cell _).trans rfl
  have z_a_2 : w1.cell? ⟨w.heap.size, 2, none⟩ = some (.int .i64 s1) := (HB_a.out.cell _).trans rfl
  clear q2 sq2 bq2
  obtain ⟨w5, hw5⟩ : ∃ w5, w1.alloc (.cells #[.int .i64 n2, .slice A2 xs2.length c2, .int .i64 s2] 37) = w5 := ⟨_, rfl⟩
  try rw [hw5]
  have q6 : Chg NoB w1 w5 := by rw [← hw5]; exact (Chg.refl _ _).alloc _
  have bq6 : Blk w5 (w.heap.size + 1) 37 #[.int .i64 n2, .slice A2 xs2.length c2, .int .i64 s2] := by have hz : w1.heap.size = w.heap.size + 1 := (by have := S3.out; have := S4.out; omega); rw [← hz, ← hw5]; exact Blk.new _ _ _
  have sq6 : w5.heap.size = w1.heap.size + 1 := by rw [← hw5]; exact World.size_alloc ..
  clear hw5
  replace HCH := Lib.hid (HCH.out.trans q6)
  replace HB_a := Lib.hid (HB_a.out.chg q6 (fun x => x))
  replace z_a_0 := Chg.cell q6 z_a_0 (fun x => x)
  replace z_a_1 := Chg.cell q6 z_a_1 (fun x => x)
  replace z_a_2 := Chg.cell q6 z_a_2 (fun x => x)
  replace HX := Lib.hid (HX.out.new q6)
  replace HY := Lib.hid (HY.out.new q6)
  have S7 := Lib.hid q6.size
  have S8 := Lib.hid sq6
  have HB_b := Lib.hid bq6
  have z_b_0 : w5.cell? ⟨w.heap.size + 1, 0, none⟩ = some (.int .i64 n2) := (HB_b.out.cell _).trans rfl
  have z_b_1 : w5.cell? ⟨w.heap.size + 1, 1, none⟩ = some (.slice A2 xs2.length c2) := (HB_b.out.cell _).trans rfl
  have z_b_2 : w5.cell? ⟨w.heap.size + 1, 2, none⟩ = some (.int .i64 s2) := (HB_b.out.cell _).trans rfl
  clear q6 sq6 bq6
  obtain ⟨w9, hw9⟩ : ∃ w9, w5.alloc (.cells #[.slice none 0 0] 39) = w9 := ⟨_, rfl⟩
  try rw [hw9]
  have q10 : Chg NoB w5 w9 := by rw [← hw9]; exact (Chg.refl _ _).alloc _
  have bq10 : Blk w9 (w.heap.size + 1 + 1) 39 #[.slice none 0 0] := by have hz : w5.heap.size = w.heap.size + 1 + 1 := (by have := S3.out; have := S4.out; have := S7.out; have := S8.out; omega); rw [← hz, ← hw9]; exact Blk.new _ _ _
  have sq10 : w9.heap.size = w5.heap.size + 1 := by rw [← hw9]; exact World.size_alloc ..
  clear hw9
  replace HCH := Lib.hid (HCH.out.trans q10)
  replace HB_a := Lib.hid (HB_a.out.chg q10 (fun x => x))
  replace z_a_0 := Chg.cell q10 z_a_0 (fun x => x)
  replace z_a_1 := Chg.cell q10 z_a_1 (fun x => x)
  replace z_a_2 := Chg.cell q10 z_a_2 (fun x => x)
  replace HB_b := Lib.hid (HB_b.out.chg q10 (fun x => x))
  replace z_b_0 := Chg.cell q10 z_b_0 (fun x => x)
  replace z_b_1 := Chg.cell q10 z_b_1 (fun x => x)
  replace z_b_2 := Chg.cell q10 z_b_2 (fun x => x)
  replace HX := Lib.hid (HX.out.new q10)
  replace HY := Lib.hid (HY.out.new q10)
  have S11 := Lib.hid q10.size
  have S12 := Lib.hid sq10
  have HB_r := Lib.hid bq10
  have z_r_0 : w9.cell? ⟨w.heap.size + 1 + 1, 0, none⟩ = some (.slice none 0 0) := (HB_r.out.cell _).trans rfl
  clear q10 sq10 bq10
  refine (sLoadTable_any _ n1 s1 A1 c1 xs1 _ HX.out (HCM.out.1.1) (HCM.out.1.2)).mono ?_
  rintro e w13 ⟨D1, d1, T1, b1, rfl, hO1, hI1, hc14⟩
  replace HCH := Lib.hid (HCH.out.trans hc14)
  replace HB_a := Lib.hid (HB_a.out.chg hc14 (fun x => x))
  replace z_a_0 := Chg.cell hc14 z_a_0 (fun x => x)
  replace z_a_1 := Chg.cell hc14 z_a_1 (fun x => x)
  replace z_a_2 := Chg.cell hc14 z_a_2 (fun x => x)
  replace HB_b := Lib.hid (HB_b.out.chg hc14 (fun x => x))
  replace z_b_0 := Chg.cell hc14 z_b_0 (fun x => x)
  replace z_b_1 := Chg.cell hc14 z_b_1 (fun x => x)
  replace z_b_2 := Chg.cell hc14 z_b_2 (fun x => x)
  replace HB_r := Lib.hid (HB_r.out.chg hc14 (fun x => x))
  replace z_r_0 := Chg.cell hc14 z_r_0 (fun x => x)
  replace HX := Lib.hid (HX.out.new hc14)
  replace HY := Lib.hid (HY.out.new hc14)
  have S15 := Lib.hid hc14.size
  have O1 := Lib.hid hO1
  clear hO1 hc14
  clear HX
  have zz_a_0 := Chg.cell ((Chg.refl NoB w13).alloc (.cells #[.slice D1 T1.length d1] 39)) z_a_0 (fun x => x)
  have zz_a_1 := Chg.cell ((Chg.refl NoB w13).alloc (.cells #[.slice D1 T1.length d1] 39)) z_a_1 (fun x => x)
  have zz_a_2 := Chg.cell ((Chg.refl NoB w13).alloc (.cells #[.slice D1 T1.length d1] 39)) z_a_2 (fun x => x)
  have zz_b_0 := Chg.cell ((Chg.refl NoB w13).alloc (.cells #[.slice D1 T1.length d1] 39)) z_b_0 (fun x => x)
  have zz_b_1 := Chg.cell ((Chg.refl NoB w13).alloc (.cells #[.slice D1 T1.length d1] 39)) z_b_1 (fun x => x)
  have zz_b_2 := Chg.cell ((Chg.refl NoB w13).alloc (.cells #[.slice D1 T1.length d1] 39)) z_b_2 (fun x => x)
  have zz_r_0 := Chg.cell ((Chg.refl NoB w13).alloc (.cells #[.slice D1 T1.length d1] 39)) z_r_0 (fun x => x)
  go_wp2_with fail
  clear zz_a_0 zz_a_1 zz_a_2 zz_b_0 zz_b_1 zz_b_2 zz_r_0
  obtain ⟨w16, hw16⟩ : ∃ w16, w13.alloc (.cells #[.slice D1 T1.length d1] 39) = w16 := ⟨_, rfl⟩
  try rw [hw16]
  have q17 : Chg NoB w13 w16 := by rw [← hw16]; exact (Chg.refl _ _).alloc _
  have bq17 : Blk w16 w13.heap.size 39 #[.slice D1 T1.length d1] := by rw [← hw16]; exact Blk.new _ _ _
  have sq17 : w16.heap.size = w13.heap.size + 1 := by rw [← hw16]; exact World.size_alloc ..
  clear hw16
  replace HCH := Lib.hid (HCH.out.trans q17)
  replace HB_a := Lib.hid (HB_a.out.chg q17 (fun x => x))
  replace z_a_0 := Chg.cell q17 z_a_0 (fun x => x)
  replace z_a_1 := Chg.cell q17 z_a_1 (fun x => x)
  replace z_a_2 := Chg.cell q17 z_a_2 (fun x => x)
  replace HB_b := Lib.hid (HB_b.out.chg q17 (fun x => x))
  replace z_b_0 := Chg.cell q17 z_b_0 (fun x => x)
  replace z_b_1 := Chg.cell q17 z_b_1 (fun x => x)
  replace z_b_2 := Chg.cell q17 z_b_2 (fun x => x)
  replace HB_r := Lib.hid (HB_r.out.chg q17 (fun x => x))
  replace z_r_0 := Chg.cell q17 z_r_0 (fun x => x)
  replace HY := Lib.hid (HY.out.new q17)
  replace O1 := Lib.hid (O1.out.new q17)
  have S18 := Lib.hid q17.size
  have S19 := Lib.hid sq17
  have HB_x := Lib.hid bq17
  have z_x_0 : w16.cell? ⟨w13.heap.size, 0, none⟩ = some (.slice D1 T1.length d1) := (HB_x.out.cell _).trans rfl
  clear q17 sq17 bq17
  refine (sLoadTable_any _ n2 s2 A2 c2 xs2 _ HY.out (HCM.out.2.1) (HCM.out.2.2)).mono ?_
  rintro e w20 ⟨D2, d2, T2, b2, rfl, hO2, hI2, hc21⟩
  replace HCH := Lib.hid (HCH.out.trans hc21)
  replace HB_a := Lib.hid (HB_a.out.chg hc21 (fun x => x))
  replace z_a_0 := Chg.cell hc21 z_a_0 (fun x => x)
  replace z_a_1 := Chg.cell hc21 z_a_1 (fun x => x)
  replace z_a_2 := Chg.cell hc21 z_a_2 (fun x => x)
  replace HB_b := Lib.hid (HB_b.out.chg hc21 (fun x => x))
  replace z_b_0 := Chg.cell hc21 z_b_0 (fun x => x)
  replace z_b_1 := Chg.cell hc21 z_b_1 (fun x => x)
  replace z_b_2 := Chg.cell hc21 z_b_2 (fun x => x)
  replace HB_r := Lib.hid (HB_r.out.chg hc21 (fun x => x))
  replace z_r_0 := Chg.cell hc21 z_r_0 (fun x => x)
  replace HB_x := Lib.hid (HB_x.out.chg hc21 (fun x => x))
  replace z_x_0 := Chg.cell hc21 z_x_0 (fun x => x)
  replace HY := Lib.hid (HY.out.new hc21)
  replace O1 := Lib.hid (O1.out.new hc21)
  have S22 := Lib.hid hc21.size
  have O2 := Lib.hid hO2
  clear hO2 hc21
  clear HY
  have HI1 := Lib.hid hI1.out
  have HI2 := Lib.hid hI2.out
  clear hI1 hI2
  have zz_a_0 := Chg.cell ((Chg.refl NoB w20).alloc (.cells #[.slice D2 T2.length d2] 39)) z_a_0 (fun x => x)
  have zz_a_1 := Chg.cell ((Chg.refl NoB w20).alloc (.cells #[.slice D2 T2.length d2] 39)) z_a_1 (fun x => x)
  have zz_a_2 := Chg.cell ((Chg.refl NoB w20).alloc (.cells #[.slice D2 T2.length d2] 39)) z_a_2 (fun x => x)
  have zz_b_0 := Chg.cell ((Chg.refl NoB w20).alloc (.cells #[.slice D2 T2.length d2] 39)) z_b_0 (fun x => x)
  have zz_b_1 := Chg.cell ((Chg.refl NoB w20).alloc (.cells #[.slice D2 T2.length d2] 39)) z_b_1 (fun x => x)
  have zz_b_2 := Chg.cell ((Chg.refl NoB w20).alloc (.cells #[.slice D2 T2.length d2] 39)) z_b_2 (fun x => x)
  have zz_r_0 := Chg.cell ((Chg.refl NoB w20).alloc (.cells #[.slice D2 T2.length d2] 39)) z_r_0 (fun x => x)
  have zz_x_0 := Chg.cell ((Chg.refl NoB w20).alloc (.cells #[.slice D2 T2.length d2] 39)) z_x_0 (fun x => x)
  have hbr := HB_r.out.chg ((Chg.refl NoB w20).alloc (.cells #[.slice D2 T2.length d2] 39)) (fun x => x)
  have zf := hbr.frozen 0
  have zy := (Blk.new w20 39 #[.slice D2 T2.length d2]).cell 0
  replace zy := zy.trans (show _ = some (Value.slice D2 T2.length d2) from rfl)
  clear hbr
  clear z_a_0 z_a_1 z_a_2 z_b_0 z_b_1 z_b_2 z_r_0 z_x_0
  have HSZ := Lib.hid (show w.heap.size + 1 + 1 < w20.heap.size from HB_r.out.lt)
  have HCE : Hid (∀ (wq : World) (u : Value), Chg NoB (w20.alloc (.cells #[.slice D2 T2.length d2] 39)) wq → Chg NoB w (wq.setCell ⟨w.heap.size + 1 + 1, 0, none⟩ u)) := Lib.hid (fun wq u hq => ((HCH.out.trans ((Chg.refl NoB w20).alloc (.cells #[.slice D2 T2.length d2] 39))).trans hq).own ((Chg.refl (· = w.heap.size + 1 + 1) wq).setCell (p := ⟨w.heap.size + 1 + 1, 0, none⟩) (.inl rfl) _) (by have := HB_r.out.lt; have := S3.out; have := S4.out; have := S7.out; have := S8.out; have := S11.out; have := S12.out; have := S15.out; have := S18.out; have := S19.out; have := S22.out;  omega))
  have HTE : ∀ (D : Option Addr) (d : Nat) (TT : List RowO) (B E : Nat), TabO B E w20 D d TT → w.heap.size ≤ B → w.heap.size + 1 + 1 < B ∨ E ≤ w.heap.size + 1 + 1 → E ≤ w20.heap.size → Hid (∀ (wq : World) (u : Value), Chg NoB (w20.alloc (.cells #[.slice D2 T2.length d2] 39)) wq → TabO w.heap.size (wq.setCell ⟨w.heap.size + 1 + 1, 0, none⟩ u).heap.size (wq.setCell ⟨w.heap.size + 1 + 1, 0, none⟩ u) D d TT) := fun D d TT B E ho hB hBE hE => Lib.hid (fun wq u hq => by
    have h1 := (ho.new ((Chg.refl NoB w20).alloc (.cells #[.slice D2 T2.length d2] 39))).new hq
    have hs := ((Chg.refl NoB w20).alloc (.cells #[.slice D2 T2.length d2] 39)).size
    have hs2 := hq.size
    refine (h1.chg ((Chg.refl (· = w.heap.size + 1 + 1) wq).setCell (p := ⟨w.heap.size + 1 + 1, 0, none⟩) (.inl rfl) u) (fun i h1 h2 h3 => ?_)).more hB (by rw [World.size_setCell]; omega)
    omega)
  have HT1 := HTE _ _ _ _ _ O1.out (by have := S3.out; have := S4.out; have := S7.out; have := S8.out; have := S11.out; have := S12.out; have := S15.out; have := S18.out; have := S19.out; have := S22.out; omega) (by have := S3.out; have := S4.out; have := S7.out; have := S8.out; have := S11.out; have := S12.out; have := S15.out; have := S18.out; have := S19.out; have := S22.out; omega) (by have := S3.out; have := S4.out; have := S7.out; have := S8.out; have := S11.out; have := S12.out; have := S15.out; have := S18.out; have := S19.out; have := S22.out; omega)
  have HT2 := HTE _ _ _ _ _ O2.out (by have := S3.out; have := S4.out; have := S7.out; have := S8.out; have := S11.out; have := S12.out; have := S15.out; have := S18.out; have := S19.out; have := S22.out; omega) (by have := S3.out; have := S4.out; have := S7.out; have := S8.out; have := S11.out; have := S12.out; have := S15.out; have := S18.out; have := S19.out; have := S22.out; omega) (by have := S3.out; have := S4.out; have := S7.out; have := S8.out; have := S11.out; have := S12.out; have := S15.out; have := S18.out; have := S19.out; have := S22.out; omega)
  clear HTE O1 O2 HCM HB_a HB_b HB_r HB_x S3 S4 S7 S8 S11 S12 S15 S18 S19 S22
  cases b1
  · cases b2
    · skip
      go_wp2_with fail
      (try simp only [Exit.inBlock, Exit.then])
      refine bodyPost_ret (v := .tuple #[.agg #[.slice none 0 0], .int .i64 (-1), .bool false]) (by simp [results, Try.results36, go_sem, *]) rfl ?_
      exact ⟨none, 0, [], -1, false, rfl, TabO.nil _ _ _ _ _, Lib.hid ⟨_, _, _, _, HI1.out, HI2.out, fun hh => absurd hh (by simp), fun _ hh => absurd hh (by simp), fun _ _ => ⟨rfl, rfl, rfl⟩⟩, HCE.out _ _ (Chg.refl _ _)⟩
    · skip
      go_wp2_with fail
      go_region
      go_wp2_with fail
      (try simp only [Exit.inBlock, Exit.then])
      refine bodyPost_ret (v := .tuple #[.agg #[.slice D2 T2.length d2], .int .i64 n2, .bool true]) (by simp [results, Try.results36, go_sem, *]) rfl ?_
      exact ⟨D2, d2, T2, n2, true, rfl, HT2.out _ _ (Chg.refl NoB (w20.alloc (.cells #[.slice D2 T2.length d2] 39))), Lib.hid ⟨_, _, _, _, HI1.out, HI2.out, fun hh => absurd hh (by simp), fun _ _ => ⟨rfl, rfl, rfl⟩, fun _ hh => absurd hh (by simp)⟩, (HCE.out _ _ (Chg.refl NoB (w20.alloc (.cells #[.slice D2 T2.length d2] 39)))).drew⟩
  · cases b2
    · skip
      go_wp2_with fail
      go_region
      go_wp2_with fail
      (try simp only [Exit.inBlock, Exit.then])
      refine bodyPost_ret (v := .tuple #[.agg #[.slice D1 T1.length d1], .int .i64 n1, .bool true]) (by simp [results, Try.results36, go_sem, *]) rfl ?_
      exact ⟨D1, d1, T1, n1, true, rfl, HT1.out _ _ (Chg.refl NoB (w20.alloc (.cells #[.slice D2 T2.length d2] 39))), Lib.hid ⟨_, _, _, _, HI1.out, HI2.out, fun _ _ => ⟨rfl, rfl, rfl⟩, fun hh => absurd ⟨rfl, .inl rfl⟩ hh, fun hh => absurd hh (by simp)⟩, (HCE.out _ _ (Chg.refl NoB (w20.alloc (.cells #[.slice D2 T2.length d2] 39)))).drew⟩
    · by_cases hge : n2 ≤ n1
      · have hge' : decide (n1 ≥ n2) = true := decide_eq_true hge
        have HGE := Lib.hid hge
        go_wp2_with fail
        go_region
        go_wp2_with fail
        (try simp only [Exit.inBlock, Exit.then])
        refine bodyPost_ret (v := .tuple #[.agg #[.slice D1 T1.length d1], .int .i64 n1, .bool true]) (by simp [results, Try.results36, go_sem, *]) rfl ?_
        exact ⟨D1, d1, T1, n1, true, rfl, HT1.out _ _ (Chg.refl NoB (w20.alloc (.cells #[.slice D2 T2.length d2] 39))), Lib.hid ⟨_, _, _, _, HI1.out, HI2.out, fun _ _ => ⟨rfl, rfl, rfl⟩, fun hh => absurd ⟨rfl, .inr HGE.out⟩ hh, fun hh => absurd hh (by simp)⟩, (HCE.out _ _ (Chg.refl NoB (w20.alloc (.cells #[.slice D2 T2.length d2] 39)))).drew⟩
      · have hge' : decide (n1 ≥ n2) = false := decide_eq_false hge
        have HGE := Lib.hid hge
        go_wp2_with fail
        go_region
        go_wp2_with fail
        (try simp only [Exit.inBlock, Exit.then])
        refine bodyPost_ret (v := .tuple #[.agg #[.slice D2 T2.length d2], .int .i64 n2, .bool true]) (by simp [results, Try.results36, go_sem, *]) rfl ?_
        exact ⟨D2, d2, T2, n2, true, rfl, HT2.out _ _ (Chg.refl NoB (w20.alloc (.cells #[.slice D2 T2.length d2] 39))), Lib.hid ⟨_, _, _, _, HI1.out, HI2.out, fun _ hh => (by rcases hh with h1 | h1; exact absurd h1 (by simp); exact absurd h1 (Int.not_le.2 HGE.out)), fun _ _ => ⟨rfl, rfl, rfl⟩, fun hh => absurd hh (by simp)⟩, (HCE.out _ _ (Chg.refl NoB (w20.alloc (.cells #[.slice D2 T2.length d2] 39)))).drew⟩
end Go.Proofs.Ytbgepefdfioljaa
