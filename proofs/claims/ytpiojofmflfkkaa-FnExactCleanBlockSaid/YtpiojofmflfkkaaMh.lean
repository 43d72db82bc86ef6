/- Parts of the proof, merged: Tz, Tu, Tv, Tp. -/
import Derived.Test.YtpiojofmflfkkaaMg
import Derived.Test.YtpiojofmflfkkaaMa
/- NewerSave of the program and of the reference. -/
namespace Go.Proofs.Ytpiojofmflfkkaa
open Go.RowKit
structure LdA where
  n : Int
  xs : List Int
  s : Int
def NewerIs (p q : LdA) (X : List (List Int)) (N : Int) (b : Bool) : Prop :=
  ∃ X1 b1 X2 b2, LoadIs p.n p.xs p.s X1 b1 ∧ LoadIs q.n q.xs q.s X2 b2 ∧
    (b1 = true → (b2 = false ∨ q.n ≤ p.n) → X = X1 ∧ N = p.n ∧ b = true) ∧
    (¬ (b1 = true ∧ (b2 = false ∨ q.n ≤ p.n)) → b2 = true → X = X2 ∧ N = q.n ∧ b = true) ∧
    (b1 = false → b2 = false → X = [] ∧ N = -1 ∧ b = false)
theorem NewerIs.det {p q : LdA} {X X' : List (List Int)} {N N' : Int} {b b' : Bool} (h : NewerIs p q X N b) (h' : NewerIs p q X' N' b') : X = X' ∧ N = N' ∧ b = b' := by
  obtain ⟨X1, b1, X2, b2, h1, h2, ha, hb, hc⟩ := h
  obtain ⟨Y1, d1, Y2, d2, g1, g2, ga, gb, gc⟩ := h'
  obtain ⟨rfl, rfl⟩ := h1.det g1
  obtain ⟨rfl, rfl⟩ := h2.det g2
  by_cases hq : b1 = true ∧ (b2 = false ∨ q.n ≤ p.n)
  · obtain ⟨rfl, rfl, rfl⟩ := ha hq.1 hq.2
    obtain ⟨rfl, rfl, rfl⟩ := ga hq.1 hq.2
    exact ⟨rfl, rfl, rfl⟩
  · cases b2
    · cases b1
      · obtain ⟨rfl, rfl, rfl⟩ := hc rfl rfl
        obtain ⟨rfl, rfl, rfl⟩ := gc rfl rfl
        exact ⟨rfl, rfl, rfl⟩
      · exact absurd ⟨rfl, .inl rfl⟩ hq
    · obtain ⟨rfl, rfl, rfl⟩ := hb hq rfl
      obtain ⟨rfl, rfl, rfl⟩ := gb hq rfl
      exact ⟨rfl, rfl, rfl⟩
theorem load_total {n s : Int} {xs : List Int} {X : List (List Int)} {b : Bool} (h : LoadIs n xs s X b) : total X ≤ 1048576 ∧ X.length ≤ 9223372036854775807 ∧ ∀ r ∈ X, r.length ≤ 9223372036854775807 := by
  by_cases ha : loadArgs n xs s
  · obtain ⟨rfl, -⟩ := h.1 ha
    have h48 := ha.1
    have hr : ∀ r ∈ chunks xs, r.length = 6 := fun r hr => by
      obtain ⟨k, hk, rfl⟩ := List.getElem_of_mem hr
      rw [chunks_len] at hk
      rw [chunks_get, chunk_len h48 hk]
    have hl := chunks_len xs
    have ht : total (chunks xs) ≤ 1048576 := by
      have : ∀ (l : List (List Int)), (∀ r ∈ l, r.length = 6) → (l.map List.length).sum = 6 * l.length := by
        intro l
        induction l with
        | nil => intro _; rfl
        | cons x l ih => intro h; rw [List.map_cons, List.sum_cons, ih (fun r hr => h r (List.mem_cons_of_mem _ hr)), h x (List.mem_cons_self), List.length_cons]; omega
      unfold total
      have h3 := this _ hr
      omega
    exact ⟨ht, by omega, fun r h => by rw [hr r h]; omega⟩
  · obtain ⟨rfl, -⟩ := h.2 ha
    exact ⟨by simp [total], by simp, by simp⟩
theorem NewerIs.from {p q : LdA} {X : List (List Int)} {N : Int} {b : Bool} (h : NewerIs p q X N b) : X = [] ∨ (∃ r b', LoadIs r.n r.xs r.s X b' ∧ r = p) ∨ (∃ r b', LoadIs r.n r.xs r.s X b' ∧ r = q) := by
  obtain ⟨X1, b1, X2, b2, h1, h2, ha, hb, hc⟩ := h
  by_cases hq : b1 = true ∧ (b2 = false ∨ q.n ≤ p.n)
  · obtain ⟨rfl, -, -⟩ := ha hq.1 hq.2; exact .inr (.inl ⟨p, b1, h1, rfl⟩)
  · cases b2
    · cases b1
      · obtain ⟨rfl, -, -⟩ := hc rfl rfl; exact .inl rfl
      · exact absurd ⟨rfl, .inl rfl⟩ hq
    · obtain ⟨rfl, -, -⟩ := hb hq rfl; exact .inr (.inr ⟨q, true, h2, rfl⟩)
def NewerP (w : World) (p q : LdA) (e : Ending) (w' : World) : Prop :=
  ∃ A c T N b, e = .returned (.tuple #[.agg #[.slice A (T : List RowO).length c], .int .i64 N, .bool b]) ∧ TabO w.heap.size w'.heap.size w' A c T ∧ Hid (NewerIs p q (listsOf T) N b) ∧ Chg NoB w w'
set_option maxRecDepth 100000 in
set_option maxHeartbeats 4000000 in
theorem iNewerSave_any (F G : Nat → Prop) (p q : LdA) (A1 A2 : Option Addr) (c1 c2 : Nat) (w : World) (h : Rd F w A1 (icells p.xs)) (hc1 : p.xs.length ≤ c1) (hm1 : c1 ≤ 9223372036854775807) (h' : Rd G w A2 (icells q.xs)) (hc2 : q.xs.length ≤ c2) (hm2 : c2 ≤ 9223372036854775807) :
    Calls Try.prog 64 #[.agg #[.int .i64 p.n, .slice A1 p.xs.length c1, .int .i64 p.s], .agg #[.int .i64 q.n, .slice A2 q.xs.length c2, .int .i64 q.s]] w (NewerP w p q) := by
  obtain ⟨n1, xs1, s1⟩ := p
  obtain ⟨n2, xs2, s2⟩ := q
  simp only at h hc1 h' hc2 ⊢
  have HCM := Lib.hid (And.intro (And.intro hc1 hm1) (And.intro hc2 hm2))
  clear hc1 hm1 hc2 hm2
  have h := h.lt
  have h' := h'.lt
  go_enter Try.func64, Try.ntmps64
  go_wp2_with fail
  have HCH := Lib.hid (Chg.refl NoB w)
  have HX := Lib.hid h
  have HY := Lib.hid h'
  clear h h'
  obtain ⟨w1, hw1⟩ : ∃ w1, w.alloc (.cells #[.int .i64 n1, .slice A1 xs1.length c1, .int .i64 s1] 26) = w1 := ⟨_, rfl⟩
  try rw [hw1]
  have q2 : Chg NoB w w1 := by rw [← hw1]; exact (Chg.refl _ _).alloc _
  have bq2 : Blk w1 w.heap.size 26 #[.int .i64 n1, .slice A1 xs1.length c1, .int .i64 s1] := by rw [← hw1]; exact Blk.new _ _ _
  have sq2 : w1.heap.size = w.heap.size + 1 := by rw [← hw1]; exact World.size_alloc ..
  clear hw1
  replace HCH := Lib.hid (HCH.out.trans q2)
  replace HX := Lib.hid (HX.out.new q2)
  replace HY := Lib.hid (HY.out.new q2)
  have S3 := Lib.hid q2.size
  have S4 := Lib.hid sq2
  have HB_a := Lib.hid bq2
  have z_a_0 : w1.cell? ⟨w.heap.size, 0, none⟩ = some (.int .i64 n1) := (HB_a.out.cell _).trans rfl
  have z_a_1 : w1.cell? ⟨w.heap.size, 1, none⟩ = some (.slice A1 xs1.length c1) := (HB_a.out.cell _).trans rfl
  have z_a_2 : w1.cell? ⟨w.heap.size, 2, none⟩ = some (.int .i64 s1) := (HB_a.out.cell _).trans rfl
  clear q2 sq2 bq2
  obtain ⟨w5, hw5⟩ : ∃ w5, w1.alloc (.cells #[.int .i64 n2, .slice A2 xs2.length c2, .int .i64 s2] 26) = w5 := ⟨_, rfl⟩
  try rw [hw5]
  have q6 : Chg NoB w1 w5 := by rw [← hw5]; exact (Chg.refl _ _).alloc _
  have bq6 : Blk w5 (w.heap.size + 1) 26 #[.int .i64 n2, .slice A2 xs2.length c2, .int .i64 s2] := by have hz : w1.heap.size = w.heap.size + 1 := (by have := S3.out; have := S4.out; omega); rw [← hz, ← hw5]; exact Blk.new _ _ _
  have sq6 : w5.heap.size = w1.heap.size + 1 := by rw [← hw5]; exact World.size_alloc ..
  clear hw5
  replace HCH := Lib.hid (HCH.out.trans q6)
  replace HB_a := Lib.hid (HB_a.out.chg q6 (fun x => x))
  replace z_a_0 := Chg.cell q6 z_a_0 (fun x => x)
  replace z_a_1 := Chg.cell q6 z_a_1 (fun x => x)
  replace z_a_2 := Chg.cell q6 z_a_2 (fun x => x)
  replace HX := Lib.hid (HX.out.new q6)
  replace HY := Lib.hid (HY.out.new q6)
  have S7 := Lib.hid q6.size
  have S8 := Lib.hid sq6
  have HB_b := Lib.hid bq6
  have z_b_0 : w5.cell? ⟨w.heap.size + 1, 0, none⟩ = some (.int .i64 n2) := (HB_b.out.cell _).trans rfl
  have z_b_1 : w5.cell? ⟨w.heap.size + 1, 1, none⟩ = some (.slice A2 xs2.length c2) := (HB_b.out.cell _).trans rfl
  have z_b_2 : w5.cell? ⟨w.heap.size + 1, 2, none⟩ = some (.int .i64 s2) := (HB_b.out.cell _).trans rfl
  clear q6 sq6 bq6
  obtain ⟨w9, hw9⟩ : ∃ w9, w5.alloc (.cells #[.slice none 0 0] 31) = w9 := ⟨_, rfl⟩
  try rw [hw9]
  have q10 : Chg NoB w5 w9 := by rw [← hw9]; exact (Chg.refl _ _).alloc _
  have bq10 : Blk w9 (w.heap.size + 1 + 1) 31 #[.slice none 0 0] := by have hz : w5.heap.size = w.heap.size + 1 + 1 := (by have := S3.out; have := S4.out; have := S7.out; have := S8.out; omega); rw [← hz, ← hw9]; exact Blk.new _ _ _
  have sq10 : w9.heap.size = w5.heap.size + 1 := by rw [← hw9]; exact World.size_alloc ..
  clear hw9
  replace HCH := Lib.hid (HCH.out.trans q10)
  replace HB_a := Lib.hid (HB_a.out.chg q10 (fun x => x))
  replace z_a_0 := Chg.cell q10 z_a_0 (fun x => x)
  replace z_a_1 := Chg.cell q10 z_a_1 (fun x => x)
  replace z_a_2 := Chg.cell q10 z_a_2 (fun x => x)
  replace HB_b := Lib.hid (HB_b.out.chg q10 (fun x => x))
  replace z_b_0 := Chg.cell q10 z_b_0 (fun x => x)
  replace z_b_1 := Chg.cell q10 z_b_1 (fun x => x)
  replace z_b_2 := Chg.cell q10 z_b_2 (fun x => x)
  replace HX := Lib.hid (HX.out.new q10)
  replace HY := Lib.hid (HY.out.new q10)
  have S11 := Lib.hid q10.size
  have S12 := Lib.hid sq10
  have HB_r := Lib.hid bq10
  have z_r_0 : w9.cell? ⟨w.heap.size + 1 + 1, 0, none⟩ = some (.slice none 0 0) := (HB_r.out.cell _).trans rfl
  clear q10 sq10 bq10
  refine (iLoadTable_any _ n1 s1 A1 c1 xs1 _ HX.out (HCM.out.1.1) (HCM.out.1.2)).mono ?_
  rintro e w13 ⟨D1, d1, T1, b1, rfl, hO1, hI1, hc14⟩
  replace HCH := Lib.hid (HCH.out.trans hc14)
  replace HB_a := Lib.hid (HB_a.out.chg hc14 (fun x => x))
  replace z_a_0 := Chg.cell hc14 z_a_0 (fun x => x)
  replace z_a_1 := Chg.cell hc14 z_a_1 (fun x => x)
  replace z_a_2 := Chg.cell hc14 z_a_2 (fun x => x)
  replace HB_b := Lib.hid (HB_b.out.chg hc14 (fun x => x))
  replace z_b_0 := Chg.cell hc14 z_b_0 (fun x => x)
  replace z_b_1 := Chg.cell hc14 z_b_1 (fun x => x)
  replace z_b_2 := Chg.cell hc14 z_b_2 (fun x => x)
  replace HB_r := Lib.hid (HB_r.out.chg hc14 (fun x => x))
  replace z_r_0 := Chg.cell hc14 z_r_0 (fun x => x)
  replace HX := Lib.hid (HX.out.new hc14)
  replace HY := Lib.hid (HY.out.new hc14)
  have S15 := Lib.hid hc14.size
  have O1 := Lib.hid hO1
  clear hO1 hc14
  clear HX
  have zz_a_0 := Chg.cell ((Chg.refl NoB w13).alloc (.cells #[.slice D1 T1.length d1] 31)) z_a_0 (fun x => x)
  have zz_a_1 := Chg.cell ((Chg.refl NoB w13).alloc (.cells #[.slice D1 T1.length d1] 31)) z_a_1 (fun x => x)
  have zz_a_2 := Chg.cell ((Chg.refl NoB w13).alloc (.cells #[.slice D1 T1.length d1] 31)) z_a_2 (fun x => x)
  have zz_b_0 := Chg.cell ((Chg.refl NoB w13).alloc (.cells #[.slice D1 T1.length d1] 31)) z_b_0 (fun x => x)
  have zz_b_1 := Chg.cell ((Chg.refl NoB w13).alloc (.cells #[.slice D1 T1.length d1] 31)) z_b_1 (fun x => x)
  have zz_b_2 := Chg.cell ((Chg.refl NoB w13).alloc (.cells #[.slice D1 T1.length d1] 31)) z_b_2 (fun x => x)
  have zz_r_0 := Chg.cell ((Chg.refl NoB w13).alloc (.cells #[.slice D1 T1.length d1] 31)) z_r_0 (fun x => x)
  go_wp2_with fail
  clear zz_a_0 zz_a_1 zz_a_2 zz_b_0 zz_b_1 zz_b_2 zz_r_0
  obtain ⟨w16, hw16⟩ : ∃ w16, w13.alloc (.cells #[.slice D1 T1.length d1] 31) = w16 := ⟨_, rfl⟩
  try rw [hw16]
  have q17 : Chg NoB w13 w16 := by rw [← hw16]; exact (Chg.refl _ _).alloc _
  have bq17 : Blk w16 w13.heap.size 31 #[.slice D1 T1.length d1] := by rw [← hw16]; exact Blk.new _ _ _
  have sq17 : w16.heap.size = w13.heap.size + 1 := by rw [← hw16]; exact World.size_alloc ..
  clear hw16
  replace HCH := Lib.hid (HCH.out.trans q17)
  replace HB_a := Lib.hid (HB_a.out.chg q17 (fun x => x))
  replace z_a_0 := Chg.cell q17 z_a_0 (fun x => x)
  replace z_a_1 := Chg.cell q17 z_a_1 (fun x => x)
  replace z_a_2 := Chg.cell q17 z_a_2 (fun x => x)
  replace HB_b := Lib.hid (HB_b.out.chg q17 (fun x => x))
  replace z_b_0 := Chg.cell q17 z_b_0 (fun x => x)
  replace z_b_1 := Chg.cell q17 z_b_1 (fun x => x)
  replace z_b_2 := Chg.cell q17 z_b_2 (fun x => x)
  replace HB_r := Lib.hid (HB_r.out.chg q17 (fun x => x))
  replace z_r_0 := Chg.cell q17 z_r_0 (fun x => x)
  replace HY := Lib.hid (HY.out.new q17)
  replace O1 := Lib.hid (O1.out.new q17)
  have S18 := Lib.hid q17.size
  have S19 := Lib.hid sq17
  have HB_x := Lib.hid bq17
  have z_x_0 : w16.cell? ⟨w13.heap.size, 0, none⟩ = some (.slice D1 T1.length d1) := (HB_x.out.cell _).trans rfl
  clear q17 sq17 bq17
  refine (iLoadTable_any _ n2 s2 A2 c2 xs2 _ HY.out (HCM.out.2.1) (HCM.out.2.2)).mono ?_
  rintro e w20 ⟨D2, d2, T2, b2, rfl, hO2, hI2, hc21⟩
  replace HCH := Lib.hid (HCH.out.trans hc21)
  replace HB_a := Lib.hid (HB_a.out.chg hc21 (fun x => x))
  replace z_a_0 := Chg.cell hc21 z_a_0 (fun x => x)
  replace z_a_1 := Chg.cell hc21 z_a_1 (fun x => x)
  replace z_a_2 := Chg.cell hc21 z_a_2 (fun x => x)
  replace HB_b := Lib.hid (HB_b.out.chg hc21 (fun x => x))
  replace z_b_0 := Chg.cell hc21 z_b_0 (fun x => x)
  replace z_b_1 := Chg.cell hc21 z_b_1 (fun x => x)
  replace z_b_2 := Chg.cell hc21 z_b_2 (fun x => x)
  replace HB_r := Lib.hid (HB_r.out.chg hc21 (fun x => x))
  replace z_r_0 := Chg.cell hc21 z_r_0 (fun x => x)
  replace HB_x := Lib.hid (HB_x.out.chg hc21 (fun x => x))
  replace z_x_0 := Chg.cell hc21 z_x_0 (fun x => x)
  replace HY := Lib.hid (HY.out.new hc21)
  replace O1 := Lib.hid (O1.out.new hc21)
  have S22 := Lib.hid hc21.size
  have O2 := Lib.hid hO2
  clear hO2 hc21
  clear HY
  have HI1 := Lib.hid hI1.out
  have HI2 := Lib.hid hI2.out
  clear hI1 hI2
  have zz_a_0 := Chg.cell ((Chg.refl NoB w20).alloc (.cells #[.slice D2 T2.length d2] 31)) z_a_0 (fun x => x)
  have zz_a_1 := Chg.cell ((Chg.refl NoB w20).alloc (.cells #[.slice D2 T2.length d2] 31)) z_a_1 (fun x => x)
  have zz_a_2 := Chg.cell ((Chg.refl NoB w20).alloc (.cells #[.slice D2 T2.length d2] 31)) z_a_2 (fun x => x)
  have zz_b_0 := Chg.cell ((Chg.refl NoB w20).alloc (.cells #[.slice D2 T2.length d2] 31)) z_b_0 (fun x => x)
  have zz_b_1 := Chg.cell ((Chg.refl NoB w20).alloc (.cells #[.slice D2 T2.length d2] 31)) z_b_1 (fun x => x)
  have zz_b_2 := Chg.cell ((Chg.refl NoB w20).alloc (.cells #[.slice D2 T2.length d2] 31)) z_b_2 (fun x => x)
  have zz_r_0 := Chg.cell ((Chg.refl NoB w20).alloc (.cells #[.slice D2 T2.length d2] 31)) z_r_0 (fun x => x)
  have zz_x_0 := Chg.cell ((Chg.refl NoB w20).alloc (.cells #[.slice D2 T2.length d2] 31)) z_x_0 (fun x => x)
  have hbr := HB_r.out.chg ((Chg.refl NoB w20).alloc (.cells #[.slice D2 T2.length d2] 31)) (fun x => x)
  have zf := hbr.frozen 0
  have zy := (Blk.new w20 31 #[.slice D2 T2.length d2]).cell 0
  replace zy := zy.trans (show _ = some (Value.slice D2 T2.length d2) from rfl)
  clear hbr
  clear z_a_0 z_a_1 z_a_2 z_b_0 z_b_1 z_b_2 z_r_0 z_x_0
  have HSZ := Lib.hid (show w.heap.size + 1 + 1 < w20.heap.size from HB_r.out.lt)
  have HCE : Hid (∀ (wq : World) (u : Value), Chg NoB (w20.alloc (.cells #[.slice D2 T2.length d2] 31)) wq → Chg NoB w (wq.setCell ⟨w.heap.size + 1 + 1, 0, none⟩ u)) := Lib.hid (fun wq u hq => ((HCH.out.trans ((Chg.refl NoB w20).alloc (.cells #[.slice D2 T2.length d2] 31))).trans hq).own ((Chg.refl (· = w.heap.size + 1 + 1) wq).setCell (p := ⟨w.heap.size + 1 + 1, 0, none⟩) (.inl rfl) _) (by have := HB_r.out.lt; have := S3.out; have := S4.out; have := S7.out; have := S8.out; have := S11.out; have := S12.out; have := S15.out; have := S18.out; have := S19.out; have := S22.out;  omega))
  have HTE : ∀ (D : Option Addr) (d : Nat) (TT : List RowO) (B E : Nat), TabO B E w20 D d TT → w.heap.size ≤ B → w.heap.size + 1 + 1 < B ∨ E ≤ w.heap.size + 1 + 1 → E ≤ w20.heap.size → Hid (∀ (wq : World) (u : Value), Chg NoB (w20.alloc (.cells #[.slice D2 T2.length d2] 31)) wq → TabO w.heap.size (wq.setCell ⟨w.heap.size + 1 + 1, 0, none⟩ u).heap.size (wq.setCell ⟨w.heap.size + 1 + 1, 0, none⟩ u) D d TT) := fun D d TT B E ho hB hBE hE => Lib.hid (fun wq u hq => by
    have h1 := (ho.new ((Chg.refl NoB w20).alloc (.cells #[.slice D2 T2.length d2] 31))).new hq
    have hs := ((Chg.refl NoB w20).alloc (.cells #[.slice D2 T2.length d2] 31)).size
    have hs2 := hq.size
    refine (h1.chg ((Chg.refl (· = w.heap.size + 1 + 1) wq).setCell (p := ⟨w.heap.size + 1 + 1, 0, none⟩) (.inl rfl) u) (fun i h1 h2 h3 => ?_)).more hB (by rw [World.size_setCell]; omega)
    omega)
  have HT1 := HTE _ _ _ _ _ O1.out (by have := S3.out; have := S4.out; have := S7.out; have := S8.out; have := S11.out; have := S12.out; have := S15.out; have := S18.out; have := S19.out; have := S22.out; omega) (by have := S3.out; have := S4.out; have := S7.out; have := S8.out; have := S11.out; have := S12.out; have := S15.out; have := S18.out; have := S19.out; have := S22.out; omega) (by have := S3.out; have := S4.out; have := S7.out; have := S8.out; have := S11.out; have := S12.out; have := S15.out; have := S18.out; have := S19.out; have := S22.out; omega)
  have HT2 := HTE _ _ _ _ _ O2.out (by have := S3.out; have := S4.out; have := S7.out; have := S8.out; have := S11.out; have := S12.out; have := S15.out; have := S18.out; have := S19.out; have := S22.out; omega) (by have := S3.out; have := S4.out; have := S7.out; have := S8.out; have := S11.out; have := S12.out; have := S15.out; have := S18.out; have := S19.out; have := S22.out; omega) (by have := S3.out; have := S4.out; have := S7.out; have := S8.out; have := S11.out; have := S12.out; have := S15.out; have := S18.out; have := S19.out; have := S22.out; omega)
  clear HTE O1 O2 HCM HB_a HB_b HB_r HB_x S3 S4 S7 S8 S11 S12 S15 S18 S19 S22
  cases b1
  · cases b2
    · skip
      go_wp2_with fail
      (try simp only [Exit.inBlock, Exit.then])
      refine bodyPost_ret (v := .tuple #[.agg #[.slice none 0 0], .int .i64 (-1), .bool false]) (by simp [results, Try.results64, go_sem, *]) rfl ?_
      exact ⟨none, 0, [], -1, false, rfl, TabO.nil _ _ _ _ _, Lib.hid ⟨_, _, _, _, HI1.out, HI2.out, fun hh => absurd hh (by simp), fun _ hh => absurd hh (by simp), fun _ _ => ⟨rfl, rfl, rfl⟩⟩, HCE.out _ _ (Chg.refl _ _)⟩
    · skip
      go_wp2_with fail
      go_region
      go_wp2_with fail
      (try simp only [Exit.inBlock, Exit.then])
      refine bodyPost_ret (v := .tuple #[.agg #[.slice D2 T2.length d2], .int .i64 n2, .bool true]) (by simp [results, Try.results64, go_sem, *]) rfl ?_
      exact ⟨D2, d2, T2, n2, true, rfl, HT2.out _ _ (Chg.refl NoB (w20.alloc (.cells #[.slice D2 T2.length d2] 31))), Lib.hid ⟨_, _, _, _, HI1.out, HI2.out, fun hh => absurd hh (by simp), fun _ _ => ⟨rfl, rfl, rfl⟩, fun _ hh => absurd hh (by simp)⟩, (HCE.out _ _ (Chg.refl NoB (w20.alloc (.cells #[.slice D2 T2.length d2] 31)))).drew⟩
  · cases b2
    · skip
      go_wp2_with fail
      go_region
      go_wp2_with fail
      (try simp only [Exit.inBlock, Exit.then])
      refine bodyPost_ret (v := .tuple #[.agg #[.slice D1 T1.length d1], .int .i64 n1, .bool true]) (by simp [results, Try.results64, go_sem, *]) rfl ?_
      exact ⟨D1, d1, T1, n1, true, rfl, HT1.out _ _ (Chg.refl NoB (w20.alloc (.cells #[.slice D2 T2.length d2] 31))), Lib.hid ⟨_, _, _, _, HI1.out, HI2.out, fun _ _ => ⟨rfl, rfl, rfl⟩, fun hh => absurd ⟨rfl, .inl rfl⟩ hh, fun hh => absurd hh (by simp)⟩, (HCE.out _ _ (Chg.refl NoB (w20.alloc (.cells #[.slice D2 T2.length d2] 31)))).drew⟩
    · by_cases hge : n2 ≤ n1
      · have hge' : decide (n1 ≥ n2) = true := decide_eq_true hge
        have HGE := Lib.hid hge
        go_wp2_with fail
        go_region
        go_wp2_with fail
        (try simp only [Exit.inBlock, Exit.then])
        refine bodyPost_ret (v := .tuple #[.agg #[.slice D1 T1.length d1], .int .i64 n1, .bool true]) (by simp [results, Try.results64, go_sem, *]) rfl ?_
        exact ⟨D1, d1, T1, n1, true, rfl, HT1.out _ _ (Chg.refl NoB (w20.alloc (.cells #[.slice D2 T2.length d2] 31))), Lib.hid ⟨_, _, _, _, HI1.out, HI2.out, fun _ _ => ⟨rfl, rfl, rfl⟩, fun hh => absurd ⟨rfl, .inr HGE.out⟩ hh, fun hh => absurd hh (by simp)⟩, (HCE.out _ _ (Chg.refl NoB (w20.alloc (.cells #[.slice D2 T2.length d2] 31)))).drew⟩
      · have hge' : decide (n1 ≥ n2) = false := decide_eq_false hge
        have HGE := Lib.hid hge
        go_wp2_with fail
        go_region
        go_wp2_with fail
        (try simp only [Exit.inBlock, Exit.then])
        refine bodyPost_ret (v := .tuple #[.agg #[.slice D2 T2.length d2], .int .i64 n2, .bool true]) (by simp [results, Try.results64, go_sem, *]) rfl ?_
        exact ⟨D2, d2, T2, n2, true, rfl, HT2.out _ _ (Chg.refl NoB (w20.alloc (.cells #[.slice D2 T2.length d2] 31))), Lib.hid ⟨_, _, _, _, HI1.out, HI2.out, fun _ hh => (by rcases hh with h1 | h1; exact absurd h1 (by simp); exact absurd h1 (Int.not_le.2 HGE.out)), fun _ _ => ⟨rfl, rfl, rfl⟩, fun hh => absurd hh (by simp)⟩, (HCE.out _ _ (Chg.refl NoB (w20.alloc (.cells #[.slice D2 T2.length d2] 31)))).drew⟩
set_option maxRecDepth 100000 in
set_option maxHeartbeats 4000000 in
theorem sNewerSave_any (F G : Nat → Prop) (p q : LdA) (A1 A2 : Option Addr) (c1 c2 : Nat) (w : World) (h : Rd F w A1 (icells p.xs)) (hc1 : p.xs.length ≤ c1) (hm1 : c1 ≤ 9223372036854775807) (h' : Rd G w A2 (icells q.xs)) (hc2 : q.xs.length ≤ c2) (hm2 : c2 ≤ 9223372036854775807) :
    Calls Try.prog 66 #[.agg #[.int .i64 p.n, .slice A1 p.xs.length c1, .int .i64 p.s], .agg #[.int .i64 q.n, .slice A2 q.xs.length c2, .int .i64 q.s]] w (NewerP w p q) := by
  obtain ⟨n1, xs1, s1⟩ := p
  obtain ⟨n2, xs2, s2⟩ := q
  simp only at h hc1 h' hc2 ⊢
  have HCM := Lib.hid (And.intro (And.intro hc1 hm1) (And.intro hc2 hm2))
  clear hc1 hm1 hc2 hm2
  have h := h.lt
  have h' := h'.lt
  go_enter Try.func66, Try.ntmps66
  go_wp2_with fail
  have HCH := Lib.hid (Chg.refl NoB w)
  have HX := Lib.hid h
  have HY := Lib.hid h'
  clear h h'
  obtain ⟨w1, hw1⟩ : ∃ w1, w.alloc (.cells #[.int .i64 n1, .slice A1 xs1.length c1, .int .i64 s1] 26) = w1 := ⟨_, rfl⟩
  try rw [hw1]
  have q2 : Chg NoB w w1 := by rw [← hw1]; exact (Chg.refl _ _).alloc _
  have bq2 : Blk w1 w.heap.size 26 #[.int .i64 n1, .slice A1 xs1.length c1, .int .i64 s1] := by rw [← hw1]; exact Blk.new _ _ _
  have sq2 : w1.heap.size = w.heap.size + 1 := by rw [← hw1]; exact World.size_alloc ..
  clear hw1
  replace HCH := Lib.hid (HCH.out.trans q2)
  replace HX := Lib.hid (HX.out.new q2)
  replace HY := Lib.hid (HY.out.new q2)
  have S3 := Lib.hid q2.size
  have S4 := Lib.hid sq2
  have HB_a := Lib.hid bq2
  have z_a_0 : w1.cell? ⟨w.heap.size, 0, none⟩ = some (.int .i64 n1) := (HB_a.out.cell _).trans rfl
  have z_a_1 : w1.cell? ⟨w.heap.size, 1, none⟩ = some (.slice A1 xs1.length c1) := (HB_a.out.cell _).trans rfl
  have z_a_2 : w1.cell? ⟨w.heap.size, 2, none⟩ = some (.int .i64 s1) := (HB_a.out.cell _).trans rfl
  clear q2 sq2 bq2
  obtain ⟨w5, hw5⟩ : ∃ w5, w1.alloc (.cells #[.int .i64 n2, .slice A2 xs2.length c2, .int .i64 s2] 26) = w5 := ⟨_, rfl⟩
  try rw [hw5]
  have q6 : Chg NoB w1 w5 := by rw [← hw5]; exact (Chg.refl _ _).alloc _
  have bq6 : Blk w5 (w.heap.size + 1) 26 #[.int .i64 n2, .slice A2 xs2.length c2, .int .i64 s2] := by have hz : w1.heap.size = w.heap.size + 1 := (by have := S3.out; have := S4.out; omega); rw [← hz, ← hw5]; exact Blk.new _ _ _
  have sq6 : w5.heap.size = w1.heap.size + 1 := by rw [← hw5]; exact World.size_alloc ..
  clear hw5
  replace HCH := Lib.hid (HCH.out.trans q6)
  replace HB_a := Lib.hid (HB_a.out.chg q6 (fun x => x))
  replace z_a_0 := Chg.cell q6 z_a_0 (fun x => x)
  replace z_a_1 := Chg.cell q6 z_a_1 (fun x => x)
  replace z_a_2 := Chg.cell q6 z_a_2 (fun x => x)
  replace HX := Lib.hid (HX.out.new q6)
  replace HY := Lib.hid (HY.out.new q6)
  have S7 := Lib.hid q6.size
  have S8 := Lib.hid sq6
  have HB_b := Lib.hid bq6
  have z_b_0 : w5.cell? ⟨w.heap.size + 1, 0, none⟩ = some (.int .i64 n2) := (HB_b.out.cell _).trans rfl
  have z_b_1 : w5.cell? ⟨w.heap.size + 1, 1, none⟩ = some (.slice A2 xs2.length c2) := (HB_b.out.cell _).trans rfl
  have z_b_2 : w5.cell? ⟨w.heap.size + 1, 2, none⟩ = some (.int .i64 s2) := (HB_b.out.cell _).trans rfl
  clear q6 sq6 bq6
  obtain ⟨w9, hw9⟩ : ∃ w9, w5.alloc (.cells #[.slice none 0 0] 31) = w9 := ⟨_, rfl⟩
  try rw [hw9]
  have q10 : Chg NoB w5 w9 := by rw [← hw9]; exact (Chg.refl _ _).alloc _
  have bq10 : Blk w9 (w.heap.size + 1 + 1) 31 #[.slice none 0 0] := by have hz : w5.heap.size = w.heap.size + 1 + 1 := (by have := S3.out; have := S4.out; have := S7.out; have := S8.out; omega); rw [← hz, ← hw9]; exact Blk.new _ _ _
  have sq10 : w9.heap.size = w5.heap.size + 1 := by rw [← hw9]; exact World.size_alloc ..
  clear hw9
  replace HCH := Lib.hid (HCH.out.trans q10)
  replace HB_a := Lib.hid (HB_a.out.chg q10 (fun x => x))
  replace z_a_0 := Chg.cell q10 z_a_0 (fun x => x)
  replace z_a_1 := Chg.cell q10 z_a_1 (fun x => x)
  replace z_a_2 := Chg.cell q10 z_a_2 (fun x => x)
  replace HB_b := Lib.hid (HB_b.out.chg q10 (fun x => x))
  replace z_b_0 := Chg.cell q10 z_b_0 (fun x => x)
  replace z_b_1 := Chg.cell q10 z_b_1 (fun x => x)
  replace z_b_2 := Chg.cell q10 z_b_2 (fun x => x)
  replace HX := Lib.hid (HX.out.new q10)
  replace HY := Lib.hid (HY.out.new q10)
  have S11 := Lib.hid q10.size
  have S12 := Lib.hid sq10
  have HB_r := Lib.hid bq10
  have z_r_0 : w9.cell? ⟨w.heap.size + 1 + 1, 0, none⟩ = some (.slice none 0 0) := (HB_r.out.cell _).trans rfl
  clear q10 sq10 bq10
  refine (sLoadTable_any _ n1 s1 A1 c1 xs1 _ HX.out (HCM.out.1.1) (HCM.out.1.2)).mono ?_
  rintro e w13 ⟨D1, d1, T1, b1, rfl, hO1, hI1, hc14⟩
  replace HCH := Lib.hid (HCH.out.trans hc14)
  replace HB_a := Lib.hid (HB_a.out.chg hc14 (fun x => x))
  replace z_a_0 := Chg.cell hc14 z_a_0 (fun x => x)
  replace z_a_1 := Chg.cell hc14 z_a_1 (fun x => x)
  replace z_a_2 := Chg.cell hc14 z_a_2 (fun x => x)
  replace HB_b := Lib.hid (HB_b.out.chg hc14 (fun x => x))
  replace z_b_0 := Chg.cell hc14 z_b_0 (fun x => x)
  replace z_b_1 := Chg.cell hc14 z_b_1 (fun x => x)
  replace z_b_2 := Chg.cell hc14 z_b_2 (fun x => x)
  replace HB_r := Lib.hid (HB_r.out.chg hc14 (fun x => x))
  replace z_r_0 := Chg.cell hc14 z_r_0 (fun x => x)
  replace HX := Lib.hid (HX.out.new hc14)
  replace HY := Lib.hid (HY.out.new hc14)
  have S15 := Lib.hid hc14.size
  have O1 := Lib.hid hO1
  clear hO1 hc14
  clear HX
  have zz_a_0 := Chg.cell ((Chg.refl NoB w13).alloc (.cells #[.slice D1 T1.length d1] 31)) z_a_0 (fun x => x)
  have zz_a_1 := Chg.cell ((Chg.refl NoB w13).alloc (.cells #[.slice D1 T1.length d1] 31)) z_a_1 (fun x => x)
  have zz_a_2 := Chg.cell ((Chg.refl NoB w13).alloc (.cells #[.slice D1 T1.length d1] 31)) z_a_2 (fun x => x)
  have zz_b_0 := Chg.cell ((Chg.refl NoB w13).alloc (.cells #[.slice D1 T1.length d1] 31)) z_b_0 (fun x => x)
  have zz_b_1 := Chg.cell ((Chg.refl NoB w13).alloc (.cells #[.slice D1 T1.length d1] 31)) z_b_1 (fun x => x)
  have zz_b_2 := Chg.cell ((Chg.refl NoB w13).alloc (.cells #[.slice D1 T1.length d1] 31)) z_b_2 (fun x => x)
  have zz_r_0 := Chg.cell ((Chg.refl NoB w13).alloc (.cells #[.slice D1 T1.length d1] 31)) z_r_0 (fun x => x)
  go_wp2_with fail
  clear zz_a_0 zz_a_1 zz_a_2 zz_b_0 zz_b_1 zz_b_2 zz_r_0
  obtain ⟨w16, hw16⟩ : ∃ w16, w13.alloc (.cells #[.slice D1 T1.length d1] 31) = w16 := ⟨_, rfl⟩
  try rw [hw16]
  have q17 : Chg NoB w13 w16 := by rw [← hw16]; exact (Chg.refl _ _).alloc _
  have bq17 : Blk w16 w13.heap.size 31 #[.slice D1 T1.length d1] := by rw [← hw16]; exact Blk.new _ _ _
  have sq17 : w16.heap.size = w13.heap.size + 1 := by rw [← hw16]; exact World.size_alloc ..
  clear hw16
  replace HCH := Lib.hid (HCH.out.trans q17)
  replace HB_a := Lib.hid (HB_a.out.chg q17 (fun x => x))
  replace z_a_0 := Chg.cell q17 z_a_0 (fun x => x)
  replace z_a_1 := Chg.cell q17 z_a_1 (fun x => x)
  replace z_a_2 := Chg.cell q17 z_a_2 (fun x => x)
  replace HB_b := Lib.hid (HB_b.out.chg q17 (fun x => x))
  replace z_b_0 := Chg.cell q17 z_b_0 (fun x => x)
  replace z_b_1 := Chg.cell q17 z_b_1 (fun x => x)
  replace z_b_2 := Chg.cell q17 z_b_2 (fun x => x)
  replace HB_r := Lib.hid (HB_r.out.chg q17 (fun x => x))
  replace z_r_0 := Chg.cell q17 z_r_0 (fun x => x)
  replace HY := Lib.hid (HY.out.new q17)
  replace O1 := Lib.hid (O1.out.new q17)
  have S18 := Lib.hid q17.size
  have S19 := Lib.hid sq17
  have HB_x := Lib.hid bq17
  have z_x_0 : w16.cell? ⟨w13.heap.size, 0, none⟩ = some (.slice D1 T1.length d1) := (HB_x.out.cell _).trans rfl
  clear q17 sq17 bq17
  refine (sLoadTable_any _ n2 s2 A2 c2 xs2 _ HY.out (HCM.out.2.1) (HCM.out.2.2)).mono ?_
  rintro e w20 ⟨D2, d2, T2, b2, rfl, hO2, hI2, hc21⟩
  replace HCH := Lib.hid (HCH.out.trans hc21)
  replace HB_a := Lib.hid (HB_a.out.chg hc21 (fun x => x))
  replace z_a_0 := Chg.cell hc21 z_a_0 (fun x => x)
  replace z_a_1 := Chg.cell hc21 z_a_1 (fun x => x)
  replace z_a_2 := Chg.cell hc21 z_a_2 (fun x => x)
  replace HB_b := Lib.hid (HB_b.out.chg hc21 (fun x => x))
  replace z_b_0 := Chg.cell hc21 z_b_0 (fun x => x)
  replace z_b_1 := Chg.cell hc21 z_b_1 (fun x => x)
  replace z_b_2 := Chg.cell hc21 z_b_2 (fun x => x)
  replace HB_r := Lib.hid (HB_r.out.chg hc21 (fun x => x))
  replace z_r_0 := Chg.cell hc21 z_r_0 (fun x => x)
  replace HB_x := Lib.hid (HB_x.out.chg hc21 (fun x => x))
  replace z_x_0 := Chg.cell hc21 z_x_0 (fun x => x)
  replace HY := Lib.hid (HY.out.new hc21)
  replace O1 := Lib.hid (O1.out.new hc21)
  have S22 := Lib.hid hc21.size
  have O2 := Lib.hid hO2
  clear hO2 hc21
  clear HY
  have HI1 := Lib.hid hI1.out
  have HI2 := Lib.hid hI2.out
  clear hI1 hI2
  have zz_a_0 := Chg.cell ((Chg.refl NoB w20).alloc (.cells #[.slice D2 T2.length d2] 31)) z_a_0 (fun x => x)
  have zz_a_1 := Chg.cell ((Chg.refl NoB w20).alloc (.cells #[.slice D2 T2.length d2] 31)) z_a_1 (fun x => x)
  have zz_a_2 := Chg.cell ((Chg.refl NoB w20).alloc (.cells #[.slice D2 T2.length d2] 31)) z_a_2 (fun x => x)
  have zz_b_0 := Chg.cell ((Chg.refl NoB w20).alloc (.cells #[.slice D2 T2.length d2] 31)) z_b_0 (fun x => x)
  have zz_b_1 := Chg.cell ((Chg.refl NoB w20).alloc (.cells #[.slice D2 T2.length d2] 31)) z_b_1 (fun x => x)
  have zz_b_2 := Chg.cell ((Chg.refl NoB w20).alloc (.cells #[.slice D2 T2.length d2] 31)) z_b_2 (fun x => x)
  have zz_r_0 := Chg.cell ((Chg.refl NoB w20).alloc (.cells #[.slice D2 T2.length d2] 31)) z_r_0 (fun x => x)
  have zz_x_0 := Chg.cell ((Chg.refl NoB w20).alloc (.cells #[.slice D2 T2.length d2] 31)) z_x_0 (fun x => x)
  have hbr := HB_r.out.chg ((Chg.refl NoB w20).alloc (.cells #[.slice D2 T2.length d2] 31)) (fun x => x)
  have zf := hbr.frozen 0
  have zy := (Blk.new w20 31 #[.slice D2 T2.length d2]).cell 0
  replace zy := zy.trans (show _ = some (Value.slice D2 T2.length d2) from rfl)
  clear hbr
  clear z_a_0 z_a_1 z_a_2 z_b_0 z_b_1 z_b_2 z_r_0 z_x_0
  have HSZ := Lib.hid (show w.heap.size + 1 + 1 < w20.heap.size from HB_r.out.lt)
  have HCE : Hid (∀ (wq : World) (u : Value), Chg NoB (w20.alloc (.cells #[.slice D2 T2.length d2] 31)) wq → Chg NoB w (wq.setCell ⟨w.heap.size + 1 + 1, 0, none⟩ u)) := Lib.hid (fun wq u hq => ((HCH.out.trans ((Chg.refl NoB w20).alloc (.cells #[.slice D2 T2.length d2] 31))).trans hq).own ((Chg.refl (· = w.heap.size + 1 + 1) wq).setCell (p := ⟨w.heap.size + 1 + 1, 0, none⟩) (.inl rfl) _) (by have := HB_r.out.lt; have := S3.out; have := S4.out; have := S7.out; have := S8.out; have := S11.out; have := S12.out; have := S15.out; have := S18.out; have := S19.out; have := S22.out;  omega))
  have HTE : ∀ (D : Option Addr) (d : Nat) (TT : List RowO) (B E : Nat), TabO B E w20 D d TT → w.heap.size ≤ B → w.heap.size + 1 + 1 < B ∨ E ≤ w.heap.size + 1 + 1 → E ≤ w20.heap.size → Hid (∀ (wq : World) (u : Value), Chg NoB (w20.alloc (.cells #[.slice D2 T2.length d2] 31)) wq → TabO w.heap.size (wq.setCell ⟨w.heap.size + 1 + 1, 0, none⟩ u).heap.size (wq.setCell ⟨w.heap.size + 1 + 1, 0, none⟩ u) D d TT) := fun D d TT B E ho hB hBE hE => Lib.hid (fun wq u hq => by
    have h1 := (ho.new ((Chg.refl NoB w20).alloc (.cells #[.slice D2 T2.length d2] 31))).new hq
    have hs := ((Chg.refl NoB w20).alloc (.cells #[.slice D2 T2.length d2] 31)).size
    have hs2 := hq.size
    refine (h1.chg ((Chg.refl (· = w.heap.size + 1 + 1) wq).setCell (p := ⟨w.heap.size + 1 + 1, 0, none⟩) (.inl rfl) u) (fun i h1 h2 h3 => ?_)).more hB (by rw [World.size_setCell]; omega)
    omega)
  have HT1 := HTE _ _ _ _ _ O1.out (by have := S3.out; have := S4.out; have := S7.out; have := S8.out; have := S11.out; have := S12.out; have := S15.out; have := S18.out; have := S19.out; have := S22.out; omega) (by have := S3.out; have := S4.out; have := S7.out; have := S8.out; have := S11.out; have := S12.out; have := S15.out; have := S18.out; have := S19.out; have := S22.out; omega) (by have := S3.out; have := S4.out; have := S7.out; have := S8.out; have := S11.out; have := S12.out; have := S15.out; have := S18.out; have := S19.out; have := S22.out; omega)
  have HT2 := HTE _ _ _ _ _ O2.out (by have := S3.out; have := S4.out; have := S7.out; have := S8.out; have := S11.out; have := S12.out; have := S15.out; have := S18.out; have := S19.out; have := S22.out; omega) (by have := S3.out; have := S4.out; have := S7.out; have := S8.out; have := S11.out; have := S12.out; have := S15.out; have := S18.out; have := S19.out; have := S22.out; omega) (by have := S3.out; have := S4.out; have := S7.out; have := S8.out; have := S11.out; have := S12.out; have := S15.out; have := S18.out; have := S19.out; have := S22.out; omega)
  clear HTE O1 O2 HCM HB_a HB_b HB_r HB_x S3 S4 S7 S8 S11 S12 S15 S18 S19 S22
  cases b1
  · cases b2
    · skip
      go_wp2_with fail
      (try simp only [Exit.inBlock, Exit.then])
      refine bodyPost_ret (v := .tuple #[.agg #[.slice none 0 0], .int .i64 (-1), .bool false]) (by simp [results, Try.results66, go_sem, *]) rfl ?_
      exact ⟨none, 0, [], -1, false, rfl, TabO.nil _ _ _ _ _, Lib.hid ⟨_, _, _, _, HI1.out, HI2.out, fun hh => absurd hh (by simp), fun _ hh => absurd hh (by simp), fun _ _ => ⟨rfl, rfl, rfl⟩⟩, HCE.out _ _ (Chg.refl _ _)⟩
    · skip
      go_wp2_with fail
      go_region
      go_wp2_with fail
      (try simp only [Exit.inBlock, Exit.then])
      refine bodyPost_ret (v := .tuple #[.agg #[.slice D2 T2.length d2], .int .i64 n2, .bool true]) (by simp [results, Try.results66, go_sem, *]) rfl ?_
      exact ⟨D2, d2, T2, n2, true, rfl, HT2.out _ _ (Chg.refl NoB (w20.alloc (.cells #[.slice D2 T2.length d2] 31))), Lib.hid ⟨_, _, _, _, HI1.out, HI2.out, fun hh => absurd hh (by simp), fun _ _ => ⟨rfl, rfl, rfl⟩, fun _ hh => absurd hh (by simp)⟩, (HCE.out _ _ (Chg.refl NoB (w20.alloc (.cells #[.slice D2 T2.length d2] 31)))).drew⟩
  · cases b2
    · skip
      go_wp2_with fail
      go_region
      go_wp2_with fail
      (try simp only [Exit.inBlock, Exit.then])
      refine bodyPost_ret (v := .tuple #[.agg #[.slice D1 T1.length d1], .int .i64 n1, .bool true]) (by simp [results, Try.results66, go_sem, *]) rfl ?_
      exact ⟨D1, d1, T1, n1, true, rfl, HT1.out _ _ (Chg.refl NoB (w20.alloc (.cells #[.slice D2 T2.length d2] 31))), Lib.hid ⟨_, _, _, _, HI1.out, HI2.out, fun _ _ => ⟨rfl, rfl, rfl⟩, fun hh => absurd ⟨rfl, .inl rfl⟩ hh, fun hh => absurd hh (by simp)⟩, (HCE.out _ _ (Chg.refl NoB (w20.alloc (.cells #[.slice D2 T2.length d2] 31)))).drew⟩
    · by_cases hge : n2 ≤ n1
      · have hge' : decide (n1 ≥ n2) = true := decide_eq_true hge
        have HGE := Lib.hid hge
        go_wp2_with fail
        go_region
        go_wp2_with fail
        (try simp only [Exit.inBlock, Exit.then])
        refine bodyPost_ret (v := .tuple #[.agg #[.slice D1 T1.length d1], .int .i64 n1, .bool true]) (by simp [results, Try.results66, go_sem, *]) rfl ?_
        exact ⟨D1, d1, T1, n1, true, rfl, HT1.out _ _ (Chg.refl NoB (w20.alloc (.cells #[.slice D2 T2.length d2] 31))), Lib.hid ⟨_, _, _, _, HI1.out, HI2.out, fun _ _ => ⟨rfl, rfl, rfl⟩, fun hh => absurd ⟨rfl, .inr HGE.out⟩ hh, fun hh => absurd hh (by simp)⟩, (HCE.out _ _ (Chg.refl NoB (w20.alloc (.cells #[.slice D2 T2.length d2] 31)))).drew⟩
      · have hge' : decide (n1 ≥ n2) = false := decide_eq_false hge
        have HGE := Lib.hid hge
        go_wp2_with fail
        go_region
        go_wp2_with fail
        (try simp only [Exit.inBlock, Exit.then])
        refine bodyPost_ret (v := .tuple #[.agg #[.slice D2 T2.length d2], .int .i64 n2, .bool true]) (by simp [results, Try.results66, go_sem, *]) rfl ?_
        exact ⟨D2, d2, T2, n2, true, rfl, HT2.out _ _ (Chg.refl NoB (w20.alloc (.cells #[.slice D2 T2.length d2] 31))), Lib.hid ⟨_, _, _, _, HI1.out, HI2.out, fun _ hh => (by rcases hh with h1 | h1; exact absurd h1 (by simp); exact absurd h1 (Int.not_le.2 HGE.out)), fun _ _ => ⟨rfl, rfl, rfl⟩, fun hh => absurd hh (by simp)⟩, (HCE.out _ _ (Chg.refl NoB (w20.alloc (.cells #[.slice D2 T2.length d2] 31)))).drew⟩
end Go.Proofs.Ytpiojofmflfkkaa
/- The laws' helpers on saves; tables and saves that came in. -/
namespace Go.Proofs.Ytpiojofmflfkkaa
open Go.RowKit
structure TbA where
  A : Option Addr
  c : Nat
  X : List (List Int)
/-- A table as it came in. -/
def TabIn (W : World) (v : Value) (x : TbA) : Prop :=
  v = .agg #[.slice x.A x.X.length x.c] ∧ TabR (fun i => i < W.heap.size) W x.A x.X ∧ x.X.length ≤ maxLen ∧ ∀ r ∈ x.X, r.length ≤ maxLen
structure SvA where
  n : Int
  A : Option Addr
  c : Nat
  xs : List Int
  s : Int
def SavIn (W : World) (v : Value) (x : SvA) : Prop :=
  v = .agg #[.int .i64 x.n, .slice x.A x.xs.length x.c, .int .i64 x.s] ∧ Rd (fun i => i < W.heap.size) W x.A (icells x.xs) ∧ x.xs.length ≤ x.c ∧ x.c ≤ maxLen
theorem eqSave_t (F G : Nat → Prop) (n s : Int) (A B : Option Addr) (c d : Nat) (xs : List Int) (w : World) (h : Rd F w A (icells xs)) (h' : Rd G w B (icells xs)) (hl : xs.length ≤ 9223372036854775807) :
    Calls Try.prog 58 #[.agg #[.int .i64 n, .slice A xs.length c, .int .i64 s], .agg #[.int .i64 n, .slice B xs.length d, .int .i64 s]] w fun e' w' => e' = .returned (.bool true) ∧ Chg NoB w w' := by
  have h1 : (n != n) = false := by simp
  have h2 : (s != s) = false := by simp
  have HC := Lib.hid (((Chg.refl NoB w).alloc (.cells #[.int .i64 n, .slice A xs.length c, .int .i64 s] 26)).alloc (.cells #[.int .i64 n, .slice B xs.length d, .int .i64 s] 26))
  have hA := h.lt.new HC.out
  have hB := h'.lt.new HC.out
  go_enter Try.func58, Try.ntmps58
  go_wp2_with fail
  refine (eqIntS_t _ _ A B c d xs _ hA hB hl).mono ?_
  rintro e' w' ⟨rfl, m, rfl⟩
  go_wp2
  go_ret
  exact ⟨rfl, HC.out.drewN _⟩
theorem markSave_any (B E : Nat) (n s : Int) (A : Option Addr) (c : Nat) (xs : List Int) (k0 : Int) (w : World) (h : OwnS B E w 3 A xs.length c (icells xs)) (hl : xs.length ≤ 1048576) (hk0 : 0 ≤ k0) (hk1 : k0 ≤ 1000000000000) :
    Calls Try.prog 59 #[.agg #[.int .i64 n, .slice A xs.length c, .int .i64 s], .int .i64 k0] w fun e w' => e = .returned (.int .i64 (k0 + (xs.length : Int))) ∧ Chg (fun i => B ≤ i ∧ i < E) w w' ∧ OwnS B E w' 3 A xs.length c (icells (marksI xs.length k0)) := by
  have HC := Lib.hid ((Chg.refl NoB w).alloc (.cells #[.int .i64 n, .slice A xs.length c, .int .i64 s] 26))
  have h1 := h.new HC.out
  clear h
  go_enter Try.func59, Try.ntmps59
  go_wp2_with fail
  refine (markIntS_any B E A c xs k0 _ h1 hl hk0 hk1).mono ?_
  rintro e w1 ⟨rfl, hc1, ho⟩
  go_wp2
  go_ret
  exact ⟨rfl, (HC.out.mono (fun _ _ x => x.elim)).trans hc1, ho⟩
theorem szSave_g (n s : Int) (A : Option Addr) (m c : Nat) (left : Int) (w : World) (hn : m ≤ maxLen) (h0 : 0 ≤ left) (h1 : left ≤ 1048576) :
    Calls Try.prog 56 #[.agg #[.int .i64 n, .slice A m c, .int .i64 s], .int .i64 left] w fun e w' => e = .returned (.int .i64 (szOf left m)) ∧ Chg NoB w w' := by
  have HC := Lib.hid ((Chg.refl NoB w).alloc (.cells #[.int .i64 n, .slice A m c, .int .i64 s] 92))
  go_enter Try.func56, Try.ntmps56
  go_wp2_with fail
  refine (szIntS_g A m c left _ hn h0 h1).mono ?_
  rintro e w' ⟨rfl, rfl⟩
  by_cases hlt : szOf left m < 0
  · have hs : szOf left m = -1 := by unfold szOf at hlt ⊢; split <;> omega
    have HS := Lib.hid hs
    clear hs
    go_wp2
    go_ret
    exact ⟨ret_int HS.out.symm, HC.out⟩
  · go_wp2
    go_ret
    exact ⟨rfl, HC.out⟩
theorem hcell0 (w : World) (n s : Int) (A : Option Addr) (m c : Nat) : (((w.alloc (.cells #[.int .i64 n, .slice A m c, .int .i64 s] 92)).alloc (.cells #[.int .i64 0, .slice none 0 0, .int .i64 0] 26)).alloc (.cells #[.int .i64 n, .slice none 0 0, .int .i64 0] 26)).cell? ⟨w.heap.size, 1, none⟩ = some (.slice A m c) :=
  ((((Blk.new w 92 #[.int .i64 n, .slice A m c, .int .i64 s]).chg ((Chg.refl NoB _).alloc _) (fun x => x)).chg ((Chg.refl NoB _).alloc _) (fun x => x)).cell 1).trans rfl
theorem hcell2 (w : World) (n s : Int) (A : Option Addr) (m c : Nat) : (((w.alloc (.cells #[.int .i64 n, .slice A m c, .int .i64 s] 92)).alloc (.cells #[.int .i64 0, .slice none 0 0, .int .i64 0] 26)).alloc (.cells #[.int .i64 n, .slice none 0 0, .int .i64 0] 26)).cell? ⟨w.heap.size, 2, none⟩ = some (.int .i64 s) :=
  ((((Blk.new w 92 #[.int .i64 n, .slice A m c, .int .i64 s]).chg ((Chg.refl NoB _).alloc _) (fun x => x)).chg ((Chg.refl NoB _).alloc _) (fun x => x)).cell 2).trans rfl
set_option maxRecDepth 100000 in
set_option maxHeartbeats 1000000 in
theorem toSave_any (F : Nat → Prop) (n s : Int) (A : Option Addr) (c : Nat) (xs : List Int) (w : World) (h : Rd F w A (icells xs)) (hl : xs.length ≤ 1048576) :
    Calls Try.prog 57 #[.agg #[.int .i64 n, .slice A xs.length c, .int .i64 s]] w fun e' w' => ∃ g, e' = .returned (.agg #[.int .i64 n, .slice (some ⟨g, 0, none⟩) xs.length xs.length, .int .i64 s]) ∧ OwnS w.heap.size w'.heap.size w' 3 (some ⟨g, 0, none⟩) xs.length xs.length (icells xs) ∧ Chg NoB w w' := by
  have hca := (Chg.refl NoB w).alloc (.cells #[.int .i64 n, .slice A xs.length c, .int .i64 s] 92)
  obtain ⟨hb1, hb2, hcb⟩ := lit2 (w.alloc (.cells #[.int .i64 n, .slice A xs.length c, .int .i64 s] 92)) 26 26 #[.int .i64 0, .slice none 0 0, .int .i64 0] #[.int .i64 n, .slice none 0 0, .int .i64 0]
  rw [World.size_alloc] at hb1 hb2
  have HC := Lib.hid (hca.trans hcb)
  have HR := Lib.hid (h.lt.new HC.out)
  have HB1 := Lib.hid hb1
  have HB2 := Lib.hid hb2
  clear hca hcb hb1 hb2
  go_enter Try.func57, Try.ntmps57
  go_wp2_with fail
  refine (toIntS_any _ A c xs _ HR.out hl).mono ?_
  rintro e' w1 ⟨g, rfl, hg, hc1, hbg⟩
  have hgl : w.heap.size + 1 + 1 < g := by rw [hg]; exact HB2.out.lt
  have hb1 := HB1.out.chg hc1 (fun x => x)
  have hb2 := HB2.out.chg hc1 (fun x => x)
  have x0 : w1.cell? ⟨w.heap.size + 1, 0, none⟩ = some (.int .i64 0) := (hb1.cell _).trans rfl
  have x1 : w1.cell? ⟨w.heap.size + 1, 1, none⟩ = some (.slice none 0 0) := (hb1.cell _).trans rfl
  have x2 : w1.cell? ⟨w.heap.size + 1, 2, none⟩ = some (.int .i64 0) := (hb1.cell _).trans rfl
  have y0 : w1.cell? ⟨w.heap.size + 1 + 1, 0, none⟩ = some (.int .i64 n) := (hb2.cell _).trans rfl
  have y1 : w1.cell? ⟨w.heap.size + 1 + 1, 1, none⟩ = some (.slice none 0 0) := (hb2.cell _).trans rfl
  have y2 : w1.cell? ⟨w.heap.size + 1 + 1, 2, none⟩ = some (.int .i64 0) := (hb2.cell _).trans rfl
  have f0 := hb1.frozen 0
  have f1 := hb1.frozen 1
  have f2 := hb1.frozen 2
  have f3 := hb2.frozen 1
  have f4 := hb2.frozen 2
  have wb0 : w1.cell? ⟨w.heap.size, 1, none⟩ = some (.slice A xs.length c) := hc1.cell (hcell0 w n s A xs.length c) (fun x => x)
  have wb2 : w1.cell? ⟨w.heap.size, 2, none⟩ = some (.int .i64 s) := hc1.cell (hcell2 w n s A xs.length c) (fun x => x)
  have HC1 := Lib.hid (HC.out.trans hc1)
  have HBG := Lib.hid hbg
  have HGL := Lib.hid hgl
  clear hb1 hb2 hg hc1 hbg hgl
  go_wp2_with fail
  (try simp only [Exit.inBlock, Exit.then])
  refine bodyPost_ret (v := .agg #[.int .i64 n, .slice (some ⟨g, 0, none⟩) xs.length xs.length, .int .i64 s]) (by simp [results, Try.results57, go_sem, *]) rfl ?_
  have hcs : Chg (fun i => i = w.heap.size + 1 ∨ i = w.heap.size + 1 + 1) w1 (((((w1.setCell ⟨w.heap.size + 1 + 1, 1, none⟩ (.slice (some ⟨g, 0, none⟩) xs.length xs.length)).setCell ⟨w.heap.size + 1 + 1, 2, none⟩ (.int .i64 s)).setCell ⟨w.heap.size + 1, 0, none⟩ (.int .i64 n)).setCell ⟨w.heap.size + 1, 1, none⟩ (.slice (some ⟨g, 0, none⟩) xs.length xs.length)).setCell ⟨w.heap.size + 1, 2, none⟩ (.int .i64 s)) := (((((Chg.refl (fun i => i = w.heap.size + 1 ∨ i = w.heap.size + 1 + 1) w1).setCell (p := ⟨w.heap.size + 1 + 1, 1, none⟩) (.inl (.inr rfl)) _).setCell (p := ⟨w.heap.size + 1 + 1, 2, none⟩) (.inl (.inr rfl)) _).setCell (p := ⟨w.heap.size + 1, 0, none⟩) (.inl (.inl rfl)) _).setCell (p := ⟨w.heap.size + 1, 1, none⟩) (.inl (.inl rfl)) _).setCell (p := ⟨w.heap.size + 1, 2, none⟩) (.inl (.inl rfl)) _
  have hgl := HGL.out
  have hb' := HBG.out.chg hcs (by omega)
  exact ⟨g, rfl, OwnS.of_blk hb' (by omega) hb'.lt (Nat.le_refl _), HC1.out.trans' hcs (fun i hi => .inr (by omega))⟩
end Go.Proofs.Ytpiojofmflfkkaa
/- The laws' comparisons of numbers, tables and saves that are the same. -/
namespace Go.Proofs.Ytpiojofmflfkkaa
open Go.RowKit
set_option maxRecDepth 100000 in
set_option maxHeartbeats 1000000 in
theorem sameInts_d (F G : Nat → Prop) (A B : Option Addr) (c d : Nat) (xs : List Int) (w : World) (h : Rd F w A (icells xs)) (h' : Rd G w B (icells xs)) (hl : xs.length ≤ 9223372036854775807) :
    Calls Try.prog 36 #[.slice A xs.length c, .slice B xs.length d] w fun e w' => e = .returned (.bool true) ∧ ∃ m, w' = w.drewN m := by
  have hne : ((xs.length : Int) != (xs.length : Int)) = false := by simp
  go_enter Try.func36, Try.ntmps36
  go_wp2
  go_loopw [5] (fun i wr => ∃ k : Nat, k ≤ xs.length ∧ i = .int .i64 k ∧ ∃ m, wr = w.drewN m) (fun i _ => xs.length - (intOf i).toNat)
  case atStart => exact ⟨0, Nat.zero_le _, rfl, 0, rfl⟩
  case round =>
    obtain ⟨k, hk, rfl, m, hwm⟩ := hrel
    have HW := Lib.hid hwm
    have hch : Chg NoB w wr := by rw [hwm]; exact (Chg.refl _ _).drewN _
    clear hwm
    by_cases hlt : k < xs.length
    · obtain ⟨ad, rfl, hf, hbl, hc⟩ := ints_at (h.chg hch fun _ _ x => x) hlt
      obtain ⟨ad', rfl, hf', hbl', hc'⟩ := ints_at (h'.chg hch fun _ _ x => x) hlt
      have hi0 : (0 : Int) ≤ (k : Int) := Int.natCast_nonneg _
      have hi1 : (k : Int) < (xs.length : Int) := by omega
      clear hch
      go_wp2
      go_quiet (fail)
      go_wp2
      go_roundw
      case rel => exact ⟨k + 1, by omega, by go_num, m + nq, by rw [HW.out]; simp [World.drewN, Nat.add_assoc]⟩
      case measure => simp [intOf]; omega
    · clear hch
      go_wp2
      go_ret
      exact ⟨rfl, m, HW.out⟩
set_option maxRecDepth 100000 in
set_option maxHeartbeats 1000000 in
theorem sameTable_t (F G : Nat → Prop) (A B : Option Addr) (c d : Nat) (X : List (List Int)) (w : World) (h : TabR F w A X) (h' : TabR G w B X) (hl : X.length ≤ 9223372036854775807) (hX : ∀ r ∈ X, r.length ≤ 9223372036854775807) :
    Calls Try.prog 14 #[.agg #[.slice A X.length c], .agg #[.slice B X.length d]] w fun e w' => e = .returned (.bool true) ∧ Chg NoB w w' := by
  have hne : ((X.length : Int) != (X.length : Int)) = false := by simp
  obtain ⟨hb1, hb2, hcb⟩ := lit2 w 31 31 #[.slice A X.length c] #[.slice B X.length d]
  have HB1 := Lib.hid hb1
  have HB2 := Lib.hid hb2
  have HC0 := Lib.hid hcb
  clear hb1 hb2 hcb
  go_enter Try.func14, Try.ntmps14
  go_wp2
  go_loopw [5] (fun i wr => ∃ k : Nat, k ≤ X.length ∧ i = .int .i64 k ∧ Chg NoB w wr ∧ Blk wr w.heap.size 31 #[.slice A X.length c] ∧ Blk wr (w.heap.size + 1) 31 #[.slice B X.length d]) (fun i _ => X.length - (intOf i).toNat)
  case atStart => exact ⟨0, Nat.zero_le _, rfl, HC0.out, HB1.out, HB2.out⟩
  case round =>
    obtain ⟨k, hk, rfl, hch, hb1, hb2⟩ := hrel
    have x0 : wr.cell? ⟨w.heap.size, 0, none⟩ = some (.slice A X.length c) := (hb1.cell _).trans rfl
    have y0 : wr.cell? ⟨w.heap.size + 1, 0, none⟩ = some (.slice B X.length d) := (hb2.cell _).trans rfl
    have HC := Lib.hid hch
    have HX := Lib.hid hb1
    have HY := Lib.hid hb2
    by_cases hlt : k < X.length
    · obtain ⟨ad, B1, c1, rfl, hf, hcell, hr, hc1⟩ := (h.new hch) k hlt
      obtain ⟨ad', B2, c2, rfl, hf', hcell', hr', hc2⟩ := (h'.new hch) k hlt
      have hlen := hX _ (List.getElem_mem hlt)
      have hi0 : (0 : Int) ≤ (k : Int) := Int.natCast_nonneg _
      have hi1 : (k : Int) < (X.length : Int) := by omega
      have HQ : ∀ n, Hid (Calls Try.prog 36 #[.slice B1 X[k].length c1, .slice B2 X[k].length c2] (wr.drewN n) fun e w'' => e = .returned (.bool true) ∧ ∃ m', w'' = wr.drewN m') := fun n => Lib.hid (quiet_left2 (sameInts_d _ _ B1 B2 c1 c2 X[k] _ (hr.new ((Chg.refl NoB wr).drewN n)) (hr'.new ((Chg.refl NoB wr).drewN n)) hlen))
      clear hr hr' hlen hch hb1 hb2
      go_wp2
      go_quiet ((go_at_call 36; exact (HQ _).out))
      go_wp2
      go_roundw
      case rel => exact ⟨k + 1, by omega, by go_num, HC.out.drewN _, HX.out.chg ((Chg.refl NoB wr).drewN _) (fun x => x), HY.out.chg ((Chg.refl NoB wr).drewN _) (fun x => x)⟩
      case measure => simp [intOf]; omega
    · clear hch hb1 hb2
      go_wp2
      go_ret
      exact ⟨rfl, HC.out⟩
end Go.Proofs.Ytpiojofmflfkkaa
/- Saves and tables as values of a drawn region. -/
namespace Go.Proofs.Ytpiojofmflfkkaa
open Go.RowKit
theorem TabO.box {G : Nat → Prop} {B E B' : Nat} {U : TypeId} {w w' : World} {A : Option Addr} {c : Nat} {T : List RowO} (h : TabO B E w A c T) (hr : RBox G B' U w w') (hg : ∀ k, B ≤ k → ¬ G k) (ht : 24 ≠ U) (hi : 3 ≠ U) : TabO B E w' A c T :=
  ⟨h.1.box hr hg ht, ⟨fun r hr' => by
    obtain ⟨h1, h2, h3, h4⟩ := h.2.1 r hr'
    exact ⟨h1, h2, hr.blk h3 (hg _ h1) (.inr hi), h4⟩, h.2.2⟩⟩
def PSav (B : Nat) (n : Int) (xs : List Int) (s : Int) : Value → World → Prop := fun v w => ∃ g, v = .agg #[.int .i64 n, .slice (some ⟨g, 0, none⟩) xs.length xs.length, .int .i64 s] ∧ OwnS B w.heap.size w 3 (some ⟨g, 0, none⟩) xs.length xs.length (icells xs)
theorem PSav.box {B B' : Nat} {n s : Int} {xs : List Int} {U : TypeId} {v : Value} {w w' : World} (h : PSav B n xs s v w) (hr : RBox NoB B' U w w') (hi : 3 ≠ U) : PSav B n xs s v w' := by
  obtain ⟨g, rfl, ho⟩ := h
  exact ⟨g, rfl, (ho.box hr (fun _ _ x => x) hi).more (Nat.le_refl _) hr.size⟩
/-- A table among a function's results. -/
def PTab (B : Nat) (X : List (List Int)) (val : Value → Value) : Value → World → Prop := fun v w => ∃ A c T, v = val (.agg #[.slice A X.length c]) ∧ TabO B w.heap.size w A c T ∧ Hid (listsOf T = X)
theorem PTab.box {B B' : Nat} {X : List (List Int)} {val : Value → Value} {U : TypeId} {v : Value} {w w' : World} (h : PTab B X val v w) (hr : RBox NoB B' U w w') (ht : 24 ≠ U) (hi : 3 ≠ U) : PTab B X val v w' := by
  obtain ⟨A, c, T, rfl, ho, hT⟩ := h
  exact ⟨A, c, T, rfl, (ho.box hr (fun _ _ x => x) ht hi).more (Nat.le_refl _) hr.size, hT⟩
theorem NewerIs.ex (p q : LdA) : ∃ X N b, NewerIs p q X N b := by
  have hl : ∀ r : LdA, ∃ X b, LoadIs r.n r.xs r.s X b := fun r => by
    by_cases h : loadArgs r.n r.xs r.s
    · exact ⟨_, _, fun _ => ⟨rfl, rfl⟩, fun hh => absurd h hh⟩
    · exact ⟨_, _, fun hh => absurd hh h, fun _ => ⟨rfl, rfl⟩⟩
  obtain ⟨X1, b1, h1⟩ := hl p
  obtain ⟨X2, b2, h2⟩ := hl q
  by_cases hq : b1 = true ∧ (b2 = false ∨ q.n ≤ p.n)
  · exact ⟨X1, p.n, true, X1, b1, X2, b2, h1, h2, fun _ _ => ⟨rfl, rfl, rfl⟩, fun hh => absurd hq hh, (fun h3 => by rw [hq.1] at h3; cases h3)⟩
  · cases b2
    · cases b1
      · exact ⟨[], -1, false, X1, _, X2, _, h1, h2, (fun hh => by cases hh), (fun _ hh => by cases hh), fun _ _ => ⟨rfl, rfl, rfl⟩⟩
      · exact absurd ⟨rfl, .inl rfl⟩ hq
    · exact ⟨X2, q.n, true, X1, b1, X2, _, h1, h2, fun h3 h4 => absurd ⟨h3, h4⟩ hq, fun _ _ => ⟨rfl, rfl, rfl⟩, (fun _ hh => by cases hh)⟩
theorem NewerIs.small {p q : LdA} {X : List (List Int)} {N : Int} {b : Bool} (h : NewerIs p q X N b) : total X ≤ 1048576 ∧ X.length ≤ 9223372036854775807 ∧ ∀ r ∈ X, r.length ≤ 9223372036854775807 := by
  rcases h.from with rfl | ⟨r, b', h, -⟩ | ⟨r, b', h, -⟩
  · exact ⟨by simp [total], by simp, by simp⟩
  · exact load_total h
  · exact load_total h
end Go.Proofs.Ytpiojofmflfkkaa
