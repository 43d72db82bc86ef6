/- Parts of the proof, merged: Co. -/
import Derived.Test.YtpiojofmflfkkaaJa
import Derived.Test.YtpiojofmflfkkaaJb
import Derived.Test.YtpiojofmflfkkaaJj
import Derived.Test.YtpiojofmflfkkaaJk
import Derived.Test.YtpiojofmflfkkaaJi
import Derived.Test.YtpiojofmflfkkaaJh
import Derived.Test.YtpiojofmflfkkaaJe
/- The law FnCleanBlock: the walk. -/
namespace Go.Proofs.Ytpiojofmflfkkaa
open Go.RowKit
theorem sameDevice_len (A B : Option Addr) (c d n m : Nat) (w : World) (h : n ≠ m) :
    Calls Try.prog 34 #[.slice A n c, .slice B m d] w fun e w' => e = .returned (.bool false) ∧ Chg NoB w w' := by
  have hne : ((n : Int) != (m : Int)) = true := by rw [bne_iff_ne]; omega
  go_enter Try.func34, Try.ntmps34
  go_wp2
  go_ret
  exact ⟨rfl, Chg.refl _ _⟩
theorem sameTable_len (A B : Option Addr) (c d n m : Nat) (w : World) (h : n ≠ m) :
    Calls Try.prog 14 #[.agg #[.slice A n c], .agg #[.slice B m d]] w fun e w' => e = .returned (.bool false) ∧ Chg NoB w w' := by
  have hne : ((n : Int) != (m : Int)) = true := by rw [bne_iff_ne]; omega
  go_enter Try.func14, Try.ntmps14
  go_wp2
  go_ret
  exact ⟨rfl, ((Chg.refl _ _).alloc _).alloc _⟩
theorem addr_zero (g k : Nat) : (⟨g, 0, none⟩ : Addr).add k = ⟨g, k, none⟩ := by unfold Addr.add; split <;> simp_all
theorem dev_size13 {D : List Bk} (h : D.length ≤ 13) (h4 : ∀ b ∈ D, b.pages.length ≤ 4) : devSize D ≤ 1048576 := by
  have key : ∀ E : List Bk, (∀ b ∈ E, b.pages.length ≤ 4) → (E.map fun b => b.pages.length).sum ≤ 4 * E.length := by
    intro E
    induction E with
    | nil => intro _; simp
    | cons b E ih =>
      intro hE
      have h1 := ih (fun q hq => hE q (List.mem_cons_of_mem _ hq))
      have h2 := hE b (List.mem_cons_self ..)
      rw [List.map_cons, List.sum_cons, List.length_cons]
      omega
  have := key D h4
  unfold devSize
  omega
theorem tab_size8 {X : List (List Int)} (h : X.length ≤ 8) (h6 : ∀ r ∈ X, r.length ≤ 6) : total X ≤ 1048576 := by
  have key : ∀ E : List (List Int), (∀ b ∈ E, b.length ≤ 6) → (E.map List.length).sum ≤ 6 * E.length := by
    intro E
    induction E with
    | nil => intro _; simp
    | cons b E ih =>
      intro hE
      have h1 := ih (fun q hq => hE q (List.mem_cons_of_mem _ hq))
      have h2 := hE b (List.mem_cons_self ..)
      rw [List.map_cons, List.sum_cons, List.length_cons]
      omega
  have := key X h6
  unfold total
  omega
set_option maxRecDepth 100000 in
set_option maxHeartbeats 4000000 in
theorem FnCleanBlock_any (A : Option Addr) (c : Nat) (bs : List Nat) (w : World) (h : Rd (fun i => i < w.heap.size) w A (bs.map fun (b : Nat) => Value.int .u8 (b : Int))) (hx : ∀ b ∈ bs, b < 256) (hc : bs.length ≤ c) (_hm : c ≤ maxLen) :
    Calls Try.prog 5 #[.slice A bs.length c] w fun e w' => e = .returned (.bool true) ∧ Chg NoB w w' := by
  by_cases hl : 1048576 < bs.length
  · go_enter Try.func5, Try.ntmps5
    go_wp2
    go_ret
    exact ⟨rfl, Chg.refl _ _⟩
  have hl' : bs.length ≤ 1048576 := by omega
  go_enter Try.func5, Try.ntmps5
  go_wp2_with fail
  refine (DrawCleanBlock_any A c bs w h hx hc).mono ?_
  rintro e w1 ⟨A0, c0, D, A1, c1, X, ⟨a1, a2, a3⟩, n, s, rfl, ⟨hD, hDc, hD13, hD4⟩, ⟨hXr, hX8, hX6⟩, hc1⟩
  have HCH := Lib.hid hc1
  have HDZ := Lib.hid (dev_size13 hD13 hD4)
  have HTZ := Lib.hid (tab_size8 hX8 hX6)
  have HS := Lib.hid (size_small HDZ.out)
  have HXF := Lib.hid (total_small HTZ.out)
  obtain ⟨⟨QD, QX, ⟨b1, b2, b3⟩, mm, okb⟩, hQ⟩ : ∃ q, cleanBlock D X ⟨a1, a2, a3⟩ n s = q := ⟨_, rfl⟩
  have HQ := Lib.hid hQ
  have HQF := Lib.hid (show devSize QD ≤ 1048576 ∧ total QX ≤ 1048576 by have h1 := clean_small D X ⟨a1, a2, a3⟩ n s HDZ.out HTZ.out; rw [hQ] at h1; exact h1)
  have HQS := Lib.hid (size_small HQF.out.1)
  have HQT := Lib.hid (total_small HQF.out.2)
  have hmm : (mm != mm) = false := by simp
  have hok : (okb != okb) = false := by simp
  have HCI := Lib.hid (show ∀ (F G : Nat → Prop) (A0 : Option Addr) (c0 : Nat) (A1 : Option Addr) (c1 : Nat) (wx : World), DevR F wx A0 D → TabR G wx A1 X → Calls Try.prog 25 #[.slice A0 D.length c0, .agg #[.slice A1 X.length c1], .agg #[.int .i64 a1, .int .i64 a2, .int .i64 a3], .int .i64 n, .int .i64 s] wx (fun e w' => ∃ A5 c5 T5 A6 c6 T6, e = .returned (.tuple #[.slice A5 QD.length c5, .agg #[.slice A6 QX.length c6], .agg #[.int .i64 b1, .int .i64 b2, .int .i64 b3], .int .i64 mm, .bool okb]) ∧ Hid (bksOf T5 = QD) ∧ Hid (listsOf T6 = QX) ∧ DevQ wx.heap.size w'.heap.size w' A5 c5 T5 ∧ TabO wx.heap.size w'.heap.size w' A6 c6 T6 ∧ Chg NoB wx w') from fun F G A0 c0 A1 c1 wx h1 h2 => by
    have h3 := iCleanBlock_any F G A0 c0 D A1 c1 X ⟨a1, a2, a3⟩ n s wx h1 h2
    rw [HQ.out] at h3
    exact h3.mono fun e w' ⟨A5, c5, T5, A6, c6, T6, e1, e2, e3, e4, e5, e6⟩ => ⟨A5, c5, T5, A6, c6, T6, e1, Lib.hid e2, Lib.hid e3, e4, e5, e6⟩)
  have HCS := Lib.hid (show ∀ (F G : Nat → Prop) (A0 : Option Addr) (c0 : Nat) (A1 : Option Addr) (c1 : Nat) (wx : World), DevR F wx A0 D → TabR G wx A1 X → Calls Try.prog 21 #[.slice A0 D.length c0, .agg #[.slice A1 X.length c1], .agg #[.int .i64 a1, .int .i64 a2, .int .i64 a3], .int .i64 n, .int .i64 s] wx (fun e w' => ∃ A5 c5 T5 A6 c6 T6, e = .returned (.tuple #[.slice A5 QD.length c5, .agg #[.slice A6 QX.length c6], .agg #[.int .i64 b1, .int .i64 b2, .int .i64 b3], .int .i64 mm, .bool okb]) ∧ Hid (bksOf T5 = QD) ∧ Hid (listsOf T6 = QX) ∧ DevQ wx.heap.size w'.heap.size w' A5 c5 T5 ∧ TabO wx.heap.size w'.heap.size w' A6 c6 T6 ∧ Chg NoB wx w') from fun F G A0 c0 A1 c1 wx h1 h2 => by
    have h3 := sCleanBlock_any F G A0 c0 D A1 c1 X ⟨a1, a2, a3⟩ n s wx h1 h2 HS.out HXF.out
    rw [HQ.out] at h3
    exact h3.mono fun e w' ⟨A5, c5, T5, A6, c6, T6, e1, e2, e3, e4, e5, e6⟩ => ⟨A5, c5, T5, A6, c6, T6, e1, Lib.hid e2, Lib.hid e3, e4, e5, e6⟩)
  clear h hx hc hl hQ hX8 hX6 hD4 hD13 hDc
  have HD := Lib.hid hD
  have HX := Lib.hid hXr
  clear hD hXr hc1
  obtain ⟨q1, q2, q3⟩ := lit2 w1 31 46 #[.slice A1 X.length c1] #[.int .i64 a1, .int .i64 a2, .int .i64 a3]
  have zn_0 : ((w1.alloc (.cells #[.slice A1 X.length c1] 31)).alloc (.cells #[.int .i64 a1, .int .i64 a2, .int .i64 a3] 46)).cell? ⟨w1.heap.size, 0, none⟩ = some (.slice A1 X.length c1) := (q1.cell _).trans rfl
  have zm_0 : ((w1.alloc (.cells #[.slice A1 X.length c1] 31)).alloc (.cells #[.int .i64 a1, .int .i64 a2, .int .i64 a3] 46)).cell? ⟨w1.heap.size + 1, 0, none⟩ = some (.int .i64 a1) := (q2.cell _).trans rfl
  have zm_1 : ((w1.alloc (.cells #[.slice A1 X.length c1] 31)).alloc (.cells #[.int .i64 a1, .int .i64 a2, .int .i64 a3] 46)).cell? ⟨w1.heap.size + 1, 1, none⟩ = some (.int .i64 a2) := (q2.cell _).trans rfl
  have zm_2 : ((w1.alloc (.cells #[.slice A1 X.length c1] 31)).alloc (.cells #[.int .i64 a1, .int .i64 a2, .int .i64 a3] 46)).cell? ⟨w1.heap.size + 1, 2, none⟩ = some (.int .i64 a3) := (q2.cell _).trans rfl
  go_wp2_with fail
  obtain ⟨w61, hw61⟩ : ∃ w61, (w1.alloc (.cells #[.slice A1 X.length c1] 31)).alloc (.cells #[.int .i64 a1, .int .i64 a2, .int .i64 a3] 46) = w61 := ⟨_, rfl⟩
  try rw [hw61]
  rw [hw61] at q1 q2 q3
  clear zn_0 zm_0 zm_1 zm_2 hw61
  replace HCH := Lib.hid (HCH.out.trans q3)
  replace HD := Lib.hid (HD.out.new q3)
  replace HX := Lib.hid (HX.out.new q3)
  have S62 := Lib.hid q3.size
  have HB_t := Lib.hid q1
  have z_t_0 : w61.cell? ⟨w1.heap.size, 0, none⟩ = some (.slice A1 X.length c1) := (HB_t.out.cell _).trans rfl
  have HB_h := Lib.hid q2
  have z_h_0 : w61.cell? ⟨w1.heap.size + 1, 0, none⟩ = some (.int .i64 a1) := (HB_h.out.cell _).trans rfl
  have z_h_1 : w61.cell? ⟨w1.heap.size + 1, 1, none⟩ = some (.int .i64 a2) := (HB_h.out.cell _).trans rfl
  have z_h_2 : w61.cell? ⟨w1.heap.size + 1, 2, none⟩ = some (.int .i64 a3) := (HB_h.out.cell _).trans rfl
  clear q1 q2 q3
  refine (HCI.out _ _ _ _ _ _ _ HD.out HX.out).mono ?_
  rintro e w63 ⟨Ai, ci, Ti, Bi, di, Ui, rfl, hTi, hUi, hOi, hVi, hc64⟩
  replace HCH := Lib.hid (HCH.out.trans hc64)
  replace HB_t := Lib.hid (HB_t.out.chg hc64 (fun x => x))
  replace z_t_0 := Chg.cell hc64 z_t_0 (fun x => x)
  replace HB_h := Lib.hid (HB_h.out.chg hc64 (fun x => x))
  replace z_h_0 := Chg.cell hc64 z_h_0 (fun x => x)
  replace z_h_1 := Chg.cell hc64 z_h_1 (fun x => x)
  replace z_h_2 := Chg.cell hc64 z_h_2 (fun x => x)
  replace HD := Lib.hid (HD.out.new hc64)
  replace HX := Lib.hid (HX.out.new hc64)
  have S65 := Lib.hid hc64.size
  have hRi := hOi.reads
  rw [hTi.out] at hRi
  have RDi := Lib.hid hRi
  have hSi := hVi.reads
  rw [hUi.out] at hSi
  have RTi := Lib.hid hSi
  clear hRi hSi hOi hVi hc64
  obtain ⟨q1, q2, q3⟩ := lit2 w63 31 46 #[.slice Bi QX.length di] #[.int .i64 b1, .int .i64 b2, .int .i64 b3]
  have zz_t_0 := Chg.cell q3 z_t_0 (fun x => x)
  have zz_h_0 := Chg.cell q3 z_h_0 (fun x => x)
  have zz_h_1 := Chg.cell q3 z_h_1 (fun x => x)
  have zz_h_2 := Chg.cell q3 z_h_2 (fun x => x)
  have zn_0 : ((w63.alloc (.cells #[.slice Bi QX.length di] 31)).alloc (.cells #[.int .i64 b1, .int .i64 b2, .int .i64 b3] 46)).cell? ⟨w63.heap.size, 0, none⟩ = some (.slice Bi QX.length di) := (q1.cell _).trans rfl
  have zm_0 : ((w63.alloc (.cells #[.slice Bi QX.length di] 31)).alloc (.cells #[.int .i64 b1, .int .i64 b2, .int .i64 b3] 46)).cell? ⟨w63.heap.size + 1, 0, none⟩ = some (.int .i64 b1) := (q2.cell _).trans rfl
  have zm_1 : ((w63.alloc (.cells #[.slice Bi QX.length di] 31)).alloc (.cells #[.int .i64 b1, .int .i64 b2, .int .i64 b3] 46)).cell? ⟨w63.heap.size + 1, 1, none⟩ = some (.int .i64 b2) := (q2.cell _).trans rfl
  have zm_2 : ((w63.alloc (.cells #[.slice Bi QX.length di] 31)).alloc (.cells #[.int .i64 b1, .int .i64 b2, .int .i64 b3] 46)).cell? ⟨w63.heap.size + 1, 2, none⟩ = some (.int .i64 b3) := (q2.cell _).trans rfl
  go_wp2_with fail
  obtain ⟨w66, hw66⟩ : ∃ w66, (w63.alloc (.cells #[.slice Bi QX.length di] 31)).alloc (.cells #[.int .i64 b1, .int .i64 b2, .int .i64 b3] 46) = w66 := ⟨_, rfl⟩
  try rw [hw66]
  rw [hw66] at q1 q2 q3
  clear zz_t_0 zz_h_0 zz_h_1 zz_h_2 zn_0 zm_0 zm_1 zm_2 hw66
  replace HCH := Lib.hid (HCH.out.trans q3)
  replace HB_t := Lib.hid (HB_t.out.chg q3 (fun x => x))
  replace z_t_0 := Chg.cell q3 z_t_0 (fun x => x)
  replace HB_h := Lib.hid (HB_h.out.chg q3 (fun x => x))
  replace z_h_0 := Chg.cell q3 z_h_0 (fun x => x)
  replace z_h_1 := Chg.cell q3 z_h_1 (fun x => x)
  replace z_h_2 := Chg.cell q3 z_h_2 (fun x => x)
  replace HD := Lib.hid (HD.out.new q3)
  replace HX := Lib.hid (HX.out.new q3)
  replace RDi := Lib.hid (RDi.out.new q3)
  replace RTi := Lib.hid (RTi.out.new q3)
  have S67 := Lib.hid q3.size
  have HB_ti := Lib.hid q1
  have z_ti_0 : w66.cell? ⟨w63.heap.size, 0, none⟩ = some (.slice Bi QX.length di) := (HB_ti.out.cell _).trans rfl
  have HB_hi := Lib.hid q2
  have z_hi_0 : w66.cell? ⟨w63.heap.size + 1, 0, none⟩ = some (.int .i64 b1) := (HB_hi.out.cell _).trans rfl
  have z_hi_1 : w66.cell? ⟨w63.heap.size + 1, 1, none⟩ = some (.int .i64 b2) := (HB_hi.out.cell _).trans rfl
  have z_hi_2 : w66.cell? ⟨w63.heap.size + 1, 2, none⟩ = some (.int .i64 b3) := (HB_hi.out.cell _).trans rfl
  clear q1 q2 q3
  refine (HCS.out _ _ _ _ _ _ _ HD.out HX.out).mono ?_
  rintro e w68 ⟨As, cs, Ts, Bs, ds, Us, rfl, hTs, hUs, hOs, hVs, hc69⟩
  replace HCH := Lib.hid (HCH.out.trans hc69)
  replace HB_t := Lib.hid (HB_t.out.chg hc69 (fun x => x))
  replace z_t_0 := Chg.cell hc69 z_t_0 (fun x => x)
  replace HB_h := Lib.hid (HB_h.out.chg hc69 (fun x => x))
  replace z_h_0 := Chg.cell hc69 z_h_0 (fun x => x)
  replace z_h_1 := Chg.cell hc69 z_h_1 (fun x => x)
  replace z_h_2 := Chg.cell hc69 z_h_2 (fun x => x)
  replace HB_ti := Lib.hid (HB_ti.out.chg hc69 (fun x => x))
  replace z_ti_0 := Chg.cell hc69 z_ti_0 (fun x => x)
  replace HB_hi := Lib.hid (HB_hi.out.chg hc69 (fun x => x))
  replace z_hi_0 := Chg.cell hc69 z_hi_0 (fun x => x)
  replace z_hi_1 := Chg.cell hc69 z_hi_1 (fun x => x)
  replace z_hi_2 := Chg.cell hc69 z_hi_2 (fun x => x)
  replace HD := Lib.hid (HD.out.new hc69)
  replace HX := Lib.hid (HX.out.new hc69)
  replace RDi := Lib.hid (RDi.out.new hc69)
  replace RTi := Lib.hid (RTi.out.new hc69)
  have S70 := Lib.hid hc69.size
  have hRs := hOs.reads
  rw [hTs.out] at hRs
  have RDs := Lib.hid hRs
  have hSs := hVs.reads
  rw [hUs.out] at hSs
  have RTs := Lib.hid hSs
  clear hRs hSs hOs hVs hc69
  obtain ⟨q1, q2, q3⟩ := lit2 w68 31 46 #[.slice Bs QX.length ds] #[.int .i64 b1, .int .i64 b2, .int .i64 b3]
  have zz_t_0 := Chg.cell q3 z_t_0 (fun x => x)
  have zz_h_0 := Chg.cell q3 z_h_0 (fun x => x)
  have zz_h_1 := Chg.cell q3 z_h_1 (fun x => x)
  have zz_h_2 := Chg.cell q3 z_h_2 (fun x => x)
  have zz_ti_0 := Chg.cell q3 z_ti_0 (fun x => x)
  have zz_hi_0 := Chg.cell q3 z_hi_0 (fun x => x)
  have zz_hi_1 := Chg.cell q3 z_hi_1 (fun x => x)
  have zz_hi_2 := Chg.cell q3 z_hi_2 (fun x => x)
  have zn_0 : ((w68.alloc (.cells #[.slice Bs QX.length ds] 31)).alloc (.cells #[.int .i64 b1, .int .i64 b2, .int .i64 b3] 46)).cell? ⟨w68.heap.size, 0, none⟩ = some (.slice Bs QX.length ds) := (q1.cell _).trans rfl
  have zm_0 : ((w68.alloc (.cells #[.slice Bs QX.length ds] 31)).alloc (.cells #[.int .i64 b1, .int .i64 b2, .int .i64 b3] 46)).cell? ⟨w68.heap.size + 1, 0, none⟩ = some (.int .i64 b1) := (q2.cell _).trans rfl
  have zm_1 : ((w68.alloc (.cells #[.slice Bs QX.length ds] 31)).alloc (.cells #[.int .i64 b1, .int .i64 b2, .int .i64 b3] 46)).cell? ⟨w68.heap.size + 1, 1, none⟩ = some (.int .i64 b2) := (q2.cell _).trans rfl
  have zm_2 : ((w68.alloc (.cells #[.slice Bs QX.length ds] 31)).alloc (.cells #[.int .i64 b1, .int .i64 b2, .int .i64 b3] 46)).cell? ⟨w68.heap.size + 1, 2, none⟩ = some (.int .i64 b3) := (q2.cell _).trans rfl
  go_wp2_with fail
  obtain ⟨w71, hw71⟩ : ∃ w71, (w68.alloc (.cells #[.slice Bs QX.length ds] 31)).alloc (.cells #[.int .i64 b1, .int .i64 b2, .int .i64 b3] 46) = w71 := ⟨_, rfl⟩
  try rw [hw71]
  rw [hw71] at q1 q2 q3
  clear zz_t_0 zz_h_0 zz_h_1 zz_h_2 zz_ti_0 zz_hi_0 zz_hi_1 zz_hi_2 zn_0 zm_0 zm_1 zm_2 hw71
  replace HCH := Lib.hid (HCH.out.trans q3)
  replace HB_t := Lib.hid (HB_t.out.chg q3 (fun x => x))
  replace z_t_0 := Chg.cell q3 z_t_0 (fun x => x)
  replace HB_h := Lib.hid (HB_h.out.chg q3 (fun x => x))
  replace z_h_0 := Chg.cell q3 z_h_0 (fun x => x)
  replace z_h_1 := Chg.cell q3 z_h_1 (fun x => x)
  replace z_h_2 := Chg.cell q3 z_h_2 (fun x => x)
  replace HB_ti := Lib.hid (HB_ti.out.chg q3 (fun x => x))
  replace z_ti_0 := Chg.cell q3 z_ti_0 (fun x => x)
  replace HB_hi := Lib.hid (HB_hi.out.chg q3 (fun x => x))
  replace z_hi_0 := Chg.cell q3 z_hi_0 (fun x => x)
  replace z_hi_1 := Chg.cell q3 z_hi_1 (fun x => x)
  replace z_hi_2 := Chg.cell q3 z_hi_2 (fun x => x)
  replace HD := Lib.hid (HD.out.new q3)
  replace HX := Lib.hid (HX.out.new q3)
  replace RDi := Lib.hid (RDi.out.new q3)
  replace RTi := Lib.hid (RTi.out.new q3)
  replace RDs := Lib.hid (RDs.out.new q3)
  replace RTs := Lib.hid (RTs.out.new q3)
  have S72 := Lib.hid q3.size
  have HB_ts := Lib.hid q1
  have z_ts_0 : w71.cell? ⟨w68.heap.size, 0, none⟩ = some (.slice Bs QX.length ds) := (HB_ts.out.cell _).trans rfl
  have HB_hs := Lib.hid q2
  have z_hs_0 : w71.cell? ⟨w68.heap.size + 1, 0, none⟩ = some (.int .i64 b1) := (HB_hs.out.cell _).trans rfl
  have z_hs_1 : w71.cell? ⟨w68.heap.size + 1, 1, none⟩ = some (.int .i64 b2) := (HB_hs.out.cell _).trans rfl
  have z_hs_2 : w71.cell? ⟨w68.heap.size + 1, 2, none⟩ = some (.int .i64 b3) := (HB_hs.out.cell _).trans rfl
  clear q1 q2 q3
  refine (sameDevice_t _ _ _ _ _ _ QD _ RDi.out RDs.out HQS.out).mono ?_
  rintro e w73 ⟨rfl, hc74⟩
  replace HCH := Lib.hid (HCH.out.trans hc74)
  replace HB_t := Lib.hid (HB_t.out.chg hc74 (fun x => x))
  replace z_t_0 := Chg.cell hc74 z_t_0 (fun x => x)
  replace HB_h := Lib.hid (HB_h.out.chg hc74 (fun x => x))
  replace z_h_0 := Chg.cell hc74 z_h_0 (fun x => x)
  replace z_h_1 := Chg.cell hc74 z_h_1 (fun x => x)
  replace z_h_2 := Chg.cell hc74 z_h_2 (fun x => x)
  replace HB_ti := Lib.hid (HB_ti.out.chg hc74 (fun x => x))
  replace z_ti_0 := Chg.cell hc74 z_ti_0 (fun x => x)
  replace HB_hi := Lib.hid (HB_hi.out.chg hc74 (fun x => x))
  replace z_hi_0 := Chg.cell hc74 z_hi_0 (fun x => x)
  replace z_hi_1 := Chg.cell hc74 z_hi_1 (fun x => x)
  replace z_hi_2 := Chg.cell hc74 z_hi_2 (fun x => x)
  replace HB_ts := Lib.hid (HB_ts.out.chg hc74 (fun x => x))
  replace z_ts_0 := Chg.cell hc74 z_ts_0 (fun x => x)
  replace HB_hs := Lib.hid (HB_hs.out.chg hc74 (fun x => x))
  replace z_hs_0 := Chg.cell hc74 z_hs_0 (fun x => x)
  replace z_hs_1 := Chg.cell hc74 z_hs_1 (fun x => x)
  replace z_hs_2 := Chg.cell hc74 z_hs_2 (fun x => x)
  replace HD := Lib.hid (HD.out.new hc74)
  replace HX := Lib.hid (HX.out.new hc74)
  replace RDi := Lib.hid (RDi.out.new hc74)
  replace RTi := Lib.hid (RTi.out.new hc74)
  replace RDs := Lib.hid (RDs.out.new hc74)
  replace RTs := Lib.hid (RTs.out.new hc74)
  have S75 := Lib.hid hc74.size
  clear hc74
  go_wp2_with fail
  refine (sameTable_t _ _ _ _ _ _ QX _ RTi.out RTs.out HQT.out.1 HQT.out.2).mono ?_
  rintro e w76 ⟨rfl, hc77⟩
  replace HCH := Lib.hid (HCH.out.trans hc77)
  replace HB_t := Lib.hid (HB_t.out.chg hc77 (fun x => x))
  replace z_t_0 := Chg.cell hc77 z_t_0 (fun x => x)
  replace HB_h := Lib.hid (HB_h.out.chg hc77 (fun x => x))
  replace z_h_0 := Chg.cell hc77 z_h_0 (fun x => x)
  replace z_h_1 := Chg.cell hc77 z_h_1 (fun x => x)
  replace z_h_2 := Chg.cell hc77 z_h_2 (fun x => x)
  replace HB_ti := Lib.hid (HB_ti.out.chg hc77 (fun x => x))
  replace z_ti_0 := Chg.cell hc77 z_ti_0 (fun x => x)
  replace HB_hi := Lib.hid (HB_hi.out.chg hc77 (fun x => x))
  replace z_hi_0 := Chg.cell hc77 z_hi_0 (fun x => x)
  replace z_hi_1 := Chg.cell hc77 z_hi_1 (fun x => x)
  replace z_hi_2 := Chg.cell hc77 z_hi_2 (fun x => x)
  replace HB_ts := Lib.hid (HB_ts.out.chg hc77 (fun x => x))
  replace z_ts_0 := Chg.cell hc77 z_ts_0 (fun x => x)
  replace HB_hs := Lib.hid (HB_hs.out.chg hc77 (fun x => x))
  replace z_hs_0 := Chg.cell hc77 z_hs_0 (fun x => x)
  replace z_hs_1 := Chg.cell hc77 z_hs_1 (fun x => x)
  replace z_hs_2 := Chg.cell hc77 z_hs_2 (fun x => x)
  replace HD := Lib.hid (HD.out.new hc77)
  replace HX := Lib.hid (HX.out.new hc77)
  replace RDi := Lib.hid (RDi.out.new hc77)
  replace RTi := Lib.hid (RTi.out.new hc77)
  replace RDs := Lib.hid (RDs.out.new hc77)
  replace RTs := Lib.hid (RTs.out.new hc77)
  have S78 := Lib.hid hc77.size
  clear hc77
  clear RDs
  clear RTs
  rcases clean_cases D X ⟨a1, a2, a3⟩ n s with ⟨-, e⟩ | ⟨-, e⟩ | ⟨hk, hi, N, E, Y, z, m, rfl, hN, hr, -, he, e⟩
  · rw [HQ.out] at e
    injection e with e1 e2 e3 e4 e5
    injection e3 with f1 f2 f3
    subst e1 e2 f1 f2 f3 e4 e5
    have HNT := Lib.hid (show ∀ wx, TabR (fun _ => True) wx none [] from fun wx k hk => absurd hk (by simp))
    by_cases hD0 : D.length = 0
    · obtain rfl : D = [] := List.eq_nil_of_length_eq_zero hD0
      go_wp2_with fail
      refine (sameDevice_t _ _ _ _ _ _ [] _ RDi.out HD.out HQS.out).mono ?_
      rintro e wa ⟨rfl, hca⟩
      have RT2 := Lib.hid (RTi.out.new hca)
      have HX2 := Lib.hid (HX.out.new hca)
      replace HCH := Lib.hid (HCH.out.trans hca)
      replace z_t_0 := Chg.cell hca z_t_0 (fun x => x)
      replace z_h_0 := Chg.cell hca z_h_0 (fun x => x)
      replace z_h_1 := Chg.cell hca z_h_1 (fun x => x)
      replace z_h_2 := Chg.cell hca z_h_2 (fun x => x)
      replace z_ti_0 := Chg.cell hca z_ti_0 (fun x => x)
      replace z_hi_0 := Chg.cell hca z_hi_0 (fun x => x)
      replace z_hi_1 := Chg.cell hca z_hi_1 (fun x => x)
      replace z_hi_2 := Chg.cell hca z_hi_2 (fun x => x)
      replace z_ts_0 := Chg.cell hca z_ts_0 (fun x => x)
      replace z_hs_0 := Chg.cell hca z_hs_0 (fun x => x)
      replace z_hs_1 := Chg.cell hca z_hs_1 (fun x => x)
      replace z_hs_2 := Chg.cell hca z_hs_2 (fun x => x)
      clear hca
      by_cases hX0 : X.length = 0
      · obtain rfl : X = [] := List.eq_nil_of_length_eq_zero hX0
        go_wp2_with fail
        refine (sameTable_t _ _ _ _ _ _ [] _ RT2.out HX2.out HQT.out.1 HQT.out.2).mono ?_
        rintro e wb ⟨rfl, hcb⟩
        have RT3 := Lib.hid (RT2.out.new hcb)
        replace HCH := Lib.hid (HCH.out.trans hcb)
        replace z_t_0 := Chg.cell hcb z_t_0 (fun x => x)
        replace z_h_0 := Chg.cell hcb z_h_0 (fun x => x)
        replace z_h_1 := Chg.cell hcb z_h_1 (fun x => x)
        replace z_h_2 := Chg.cell hcb z_h_2 (fun x => x)
        replace z_ti_0 := Chg.cell hcb z_ti_0 (fun x => x)
        replace z_hi_0 := Chg.cell hcb z_hi_0 (fun x => x)
        replace z_hi_1 := Chg.cell hcb z_hi_1 (fun x => x)
        replace z_hi_2 := Chg.cell hcb z_hi_2 (fun x => x)
        replace z_ts_0 := Chg.cell hcb z_ts_0 (fun x => x)
        replace z_hs_0 := Chg.cell hcb z_hs_0 (fun x => x)
        replace z_hs_1 := Chg.cell hcb z_hs_1 (fun x => x)
        replace z_hs_2 := Chg.cell hcb z_hs_2 (fun x => x)
        clear hcb
        by_cases ha1 : 0 = a1
        · by_cases ha2 : 0 = a2
          · by_cases ha3 : 0 = a3
            · subst ha1 ha2 ha3
              go_wp2_with fail
              refine (alive_any _).mono ?_
              rintro e w' ⟨rfl, rfl⟩
              go_wp2
              go_ret
              exact ⟨rfl, HCH.out⟩
            · go_wp2_with fail
              refine (sameTable_t _ _ _ none _ 0 [] _ RT3.out (HNT.out _) HQT.out.1 HQT.out.2).mono ?_
              rintro e wd ⟨rfl, hcd⟩
              replace HCH := Lib.hid (HCH.out.trans hcd)
              clear hcd
              go_wp2_with fail
              refine (alive_any _).mono ?_
              rintro e w' ⟨rfl, rfl⟩
              go_wp2
              go_ret
              exact ⟨rfl, HCH.out⟩
          · go_wp2_with fail
            refine (sameTable_t _ _ _ none _ 0 [] _ RT3.out (HNT.out _) HQT.out.1 HQT.out.2).mono ?_
            rintro e wd ⟨rfl, hcd⟩
            replace HCH := Lib.hid (HCH.out.trans hcd)
            clear hcd
            go_wp2_with fail
            refine (alive_any _).mono ?_
            rintro e w' ⟨rfl, rfl⟩
            go_wp2
            go_ret
            exact ⟨rfl, HCH.out⟩
        · go_wp2_with fail
          refine (sameTable_t _ _ _ none _ 0 [] _ RT3.out (HNT.out _) HQT.out.1 HQT.out.2).mono ?_
          rintro e wd ⟨rfl, hcd⟩
          replace HCH := Lib.hid (HCH.out.trans hcd)
          clear hcd
          go_wp2_with fail
          refine (alive_any _).mono ?_
          rintro e w' ⟨rfl, rfl⟩
          go_wp2
          go_ret
          exact ⟨rfl, HCH.out⟩
      · go_wp2_with fail
        refine (sameTable_len _ _ _ _ 0 X.length _ (by omega)).mono ?_
        rintro e wb ⟨rfl, hcb⟩
        have RT3 := Lib.hid (RT2.out.new hcb)
        replace HCH := Lib.hid (HCH.out.trans hcb)
        replace z_t_0 := Chg.cell hcb z_t_0 (fun x => x)
        replace z_h_0 := Chg.cell hcb z_h_0 (fun x => x)
        replace z_h_1 := Chg.cell hcb z_h_1 (fun x => x)
        replace z_h_2 := Chg.cell hcb z_h_2 (fun x => x)
        replace z_ti_0 := Chg.cell hcb z_ti_0 (fun x => x)
        replace z_hi_0 := Chg.cell hcb z_hi_0 (fun x => x)
        replace z_hi_1 := Chg.cell hcb z_hi_1 (fun x => x)
        replace z_hi_2 := Chg.cell hcb z_hi_2 (fun x => x)
        replace z_ts_0 := Chg.cell hcb z_ts_0 (fun x => x)
        replace z_hs_0 := Chg.cell hcb z_hs_0 (fun x => x)
        replace z_hs_1 := Chg.cell hcb z_hs_1 (fun x => x)
        replace z_hs_2 := Chg.cell hcb z_hs_2 (fun x => x)
        clear hcb
        go_wp2_with fail
        refine (sameTable_t _ _ _ none _ 0 [] _ RT3.out (HNT.out _) HQT.out.1 HQT.out.2).mono ?_
        rintro e wd ⟨rfl, hcd⟩
        replace HCH := Lib.hid (HCH.out.trans hcd)
        clear hcd
        go_wp2_with fail
        refine (alive_any _).mono ?_
        rintro e w' ⟨rfl, rfl⟩
        go_wp2
        go_ret
        exact ⟨rfl, HCH.out⟩
    · go_wp2_with fail
      refine (sameDevice_len _ _ _ _ 0 D.length _ (by omega)).mono ?_
      rintro e wa ⟨rfl, hca⟩
      have RT2 := Lib.hid (RTi.out.new hca)
      replace HCH := Lib.hid (HCH.out.trans hca)
      replace z_t_0 := Chg.cell hca z_t_0 (fun x => x)
      replace z_h_0 := Chg.cell hca z_h_0 (fun x => x)
      replace z_h_1 := Chg.cell hca z_h_1 (fun x => x)
      replace z_h_2 := Chg.cell hca z_h_2 (fun x => x)
      replace z_ti_0 := Chg.cell hca z_ti_0 (fun x => x)
      replace z_hi_0 := Chg.cell hca z_hi_0 (fun x => x)
      replace z_hi_1 := Chg.cell hca z_hi_1 (fun x => x)
      replace z_hi_2 := Chg.cell hca z_hi_2 (fun x => x)
      replace z_ts_0 := Chg.cell hca z_ts_0 (fun x => x)
      replace z_hs_0 := Chg.cell hca z_hs_0 (fun x => x)
      replace z_hs_1 := Chg.cell hca z_hs_1 (fun x => x)
      replace z_hs_2 := Chg.cell hca z_hs_2 (fun x => x)
      clear hca
      go_wp2_with fail
      refine (sameTable_t _ _ _ none _ 0 [] _ RT2.out (HNT.out _) HQT.out.1 HQT.out.2).mono ?_
      rintro e wd ⟨rfl, hcd⟩
      replace HCH := Lib.hid (HCH.out.trans hcd)
      clear hcd
      go_wp2_with fail
      refine (alive_any _).mono ?_
      rintro e w' ⟨rfl, rfl⟩
      go_wp2
      go_ret
      exact ⟨rfl, HCH.out⟩
  · rw [HQ.out] at e
    injection e with e1 e2 e3 e4 e5
    injection e3 with f1 f2 f3
    subst e1 e2 f1 f2 f3 e4 e5
    go_wp2_with fail
    refine (sameDevice_t _ _ _ _ _ _ QD _ RDi.out HD.out HQS.out).mono ?_
    rintro e wa ⟨rfl, hca⟩
    have RT2 := Lib.hid (RTi.out.new hca)
    have HX2 := Lib.hid (HX.out.new hca)
    replace HCH := Lib.hid (HCH.out.trans hca)
    replace z_t_0 := Chg.cell hca z_t_0 (fun x => x)
    replace z_h_0 := Chg.cell hca z_h_0 (fun x => x)
    replace z_h_1 := Chg.cell hca z_h_1 (fun x => x)
    replace z_h_2 := Chg.cell hca z_h_2 (fun x => x)
    replace z_ti_0 := Chg.cell hca z_ti_0 (fun x => x)
    replace z_hi_0 := Chg.cell hca z_hi_0 (fun x => x)
    replace z_hi_1 := Chg.cell hca z_hi_1 (fun x => x)
    replace z_hi_2 := Chg.cell hca z_hi_2 (fun x => x)
    replace z_ts_0 := Chg.cell hca z_ts_0 (fun x => x)
    replace z_hs_0 := Chg.cell hca z_hs_0 (fun x => x)
    replace z_hs_1 := Chg.cell hca z_hs_1 (fun x => x)
    replace z_hs_2 := Chg.cell hca z_hs_2 (fun x => x)
    clear hca
    go_wp2_with fail
    refine (sameTable_t _ _ _ _ _ _ QX _ RT2.out HX2.out HQT.out.1 HQT.out.2).mono ?_
    rintro e wb ⟨rfl, hcb⟩
    replace HCH := Lib.hid (HCH.out.trans hcb)
    replace z_t_0 := Chg.cell hcb z_t_0 (fun x => x)
    replace z_h_0 := Chg.cell hcb z_h_0 (fun x => x)
    replace z_h_1 := Chg.cell hcb z_h_1 (fun x => x)
    replace z_h_2 := Chg.cell hcb z_h_2 (fun x => x)
    replace z_ti_0 := Chg.cell hcb z_ti_0 (fun x => x)
    replace z_hi_0 := Chg.cell hcb z_hi_0 (fun x => x)
    replace z_hi_1 := Chg.cell hcb z_hi_1 (fun x => x)
    replace z_hi_2 := Chg.cell hcb z_hi_2 (fun x => x)
    replace z_ts_0 := Chg.cell hcb z_ts_0 (fun x => x)
    replace z_hs_0 := Chg.cell hcb z_hs_0 (fun x => x)
    replace z_hs_1 := Chg.cell hcb z_hs_1 (fun x => x)
    replace z_hs_2 := Chg.cell hcb z_hs_2 (fun x => x)
    clear hcb
    go_wp2_with fail
    refine (alive_any _).mono ?_
    rintro e w' ⟨rfl, rfl⟩
    go_wp2
    go_ret
    exact ⟨rfl, HCH.out⟩
  · have good := clean_good hk hi hN hr he e
    rw [HQ.out] at good
    have GOOD := Lib.hid good
    have hok1 : okb = true := good.ok
    subst hok1
    have hQL := good.len
    simp only at hQL
    have HQL := Lib.hid hQL
    have n0 : (0 : Int) ≤ (N : Int) := Int.natCast_nonneg _
    have n1 : (N : Int) < (D.length : Int) := by omega
    have n2 : (N : Int) < (QD.length : Int) := by omega
    have HNL := Lib.hid hN
    have m1 : decide ((N : Int) < 0) = false := decide_eq_false (by omega)
    have m2 : decide (D.length ≤ N) = false := decide_eq_false (by omega)
    have m3 : decide (QD.length ≤ N) = false := decide_eq_false (by omega)
    clear n0 n1 n2
    clear good e hk hi hr he hN hQL hok
    have HPM := Lib.hid (show ∀ wr, Chg NoB w76 wr → DevR (fun i => w.heap.size ≤ i) wr A0 D ∧ TabR (fun i => w.heap.size ≤ i) wr A1 X from fun wr hq => ⟨HD.out.new hq, HX.out.new hq⟩)
    go_wp2_with fail
    clear m1 m2 m3
    go_loopw [18] (fun i wr => ∃ k : Nat, k ≤ 8 ∧ i = .int .i64 k ∧ Chg NoB w76 wr) (fun i _ => 8 - (intOf i).toNat)
    case atStart => exact ⟨0, Nat.zero_le _, rfl, Chg.refl _ _⟩
    case round =>
      obtain ⟨k, hk8, rfl, hch⟩ := hrel
      have HCR := Lib.hid hch
      have k0 : (0 : Int) ≤ (k : Int) := Int.natCast_nonneg _
      have zt := Chg.cell hch z_t_0 (fun x => x)
      have zti := Chg.cell hch z_ti_0 (fun x => x)
      by_cases hlt : k < 8
      · have k1 : (k : Int) < 8 := by omega
        have hfo := GOOD.out.ft k hlt
        have hfo2 := GOOD.out.fy k hlt
        have hvl := GOOD.out.vals k hlt
        simp only at hfo2 hvl
        have HF1 := Lib.hid hfo
        have HF2 := Lib.hid hfo2
        have HVL := Lib.hid hvl
        clear hch hfo hfo2 hvl
        go_wp2_with fail
        refine (iFileValues_any _ _ A0 c0 D A1 c1 X _ (HD.out.new HCR.out) GOOD.out.dv (HX.out.new HCR.out) GOOD.out.tx k hlt).mono ?_
        rintro e wa ⟨A5, c5, xs, rfl, hv, hrd, hl6, hca⟩
        rw [decide_eq_true HF1.out]
        have HV1 := Lib.hid (hv HF1.out)
        have HR1 := Lib.hid hrd
        have HCA := Lib.hid (HCR.out.trans hca)
        have zti' := Chg.cell hca zti (fun x => x)
        clear hv hrd hca zt zti
        go_wp2_with fail
        refine (iFileValues_any _ _ Ai ci QD Bi di QX _ (RDi.out.new HCA.out) GOOD.out.hds.1 (RTi.out.new HCA.out) GOOD.out.ty k hlt).mono ?_
        rintro e wb ⟨A6, c6, ys, rfl, hv, hrd, -, hcb⟩
        rw [decide_eq_true HF2.out]
        have hys : ys = xs := by rw [hv HF2.out, HV1.out]; exact HVL.out
        subst hys
        have HR2 := Lib.hid hrd
        replace HR1 := Lib.hid (HR1.out.new hcb)
        have HCB := Lib.hid (HCA.out.trans hcb)
        clear hv hrd hcb zti'
        go_wp2_with fail
        refine (sameInts_t _ _ _ _ _ _ ys _ HR1.out HR2.out (by omega)).mono ?_
        rintro e wc ⟨rfl, hcc⟩
        have HCC := Lib.hid (HCB.out.trans hcc)
        clear hcc
        go_wp2_with fail
        go_roundw
        case rel => exact ⟨k + 1, by omega, by go_num, HCC.out⟩
        case measure => simp [intOf]; omega
      · obtain rfl : k = 8 := by omega
        have zhi0 := Chg.cell hch z_hi_0 (fun x => x)
        have zhi1 := Chg.cell hch z_hi_1 (fun x => x)
        have zhi2 := Chg.cell hch z_hi_2 (fun x => x)
        clear hch
        go_wp2_with fail
        refine (iBlockCounts_any _ _ A0 c0 D A1 c1 X _ (HD.out.new HCR.out) GOOD.out.dv (HX.out.new HCR.out) GOOD.out.tx).mono ?_
        rintro e wq ⟨gc, rfl, hrd, hcq⟩
        have HCQ := Lib.hid (HCR.out.trans hcq)
        have y0 := Chg.cell hcq zhi0 (fun x => x)
        have y1 := Chg.cell hcq zhi1 (fun x => x)
        have y2 := Chg.cell hcq zhi2 (fun x => x)
        obtain ⟨wv, hbd, hbq, hw0, hw1⟩ := GOOD.out.blk
        simp only at hbq
        have hNQ : N < QD.length := by rw [HQL.out]; exact HNL.out
        have hmany := GOOD.out.many
        simp only at hmany
        have hbq2 : QD[N] = ⟨wv + 1, List.replicate 4 zPg⟩ := by rw [List.getElem?_eq_getElem hNQ] at hbq; exact Option.some.inj hbq
        have hbd2 : D[N]'HNL.out = ⟨wv, (D.getD N zBk).pages⟩ := by rw [List.getElem?_eq_getElem HNL.out] at hbd; exact Option.some.inj hbd
        obtain ⟨bx, ox, Ax, cx, rfl, -, x0, x1, hrx, hcx⟩ := (RDi.out.new HCQ.out) N hNQ
        obtain ⟨bd, od, Ad, cd, rfl, -, d0, -, -, -⟩ := (HD.out.new HCQ.out) N HNL.out
        rw [hbq2] at x0 x1 hrx
        rw [hbd2] at d0
        simp only at d0
        replace x0 : wq.cell? ⟨bx, ox + N * 2, none⟩ = some (.int .i64 (wv + 1)) := x0
        replace x1 : wq.cell? ⟨bx, ox + N * 2 + 1, none⟩ = some (.slice Ax 4 cx) := x1
        have HRX := Lib.hid hrx
        have g0 : wq.cell? ⟨gc, N, none⟩ = some (.int .i64 mm) := by
          obtain ⟨ad, e9, -, hcl⟩ := hrd N (.int .i64 mm) (by rw [icells, List.getElem?_map, cnts_get _ _ HNL.out, hmany]; rfl)
          injection e9 with e9
          subst e9
          rw [addr_zero gc N] at hcl
          exact hcl
        have HBO := Lib.hid (show BkOk ⟨wv + 1, List.replicate 4 zPg⟩ by have h1 := GOOD.out.hds.1.2 N hNQ; rw [hbq2] at h1; exact h1)
        have HHV := Lib.hid (show ∀ wx, Chg NoB wq wx → Calls Try.prog 38 #[.slice (some ⟨bx, ox, none⟩) QD.length ci, .agg #[.int .i64 b1, .int .i64 b2, .int .i64 b3]] wx (fun e w' => e = .returned (.bool true) ∧ Chg NoB wx w') from fun wx hq => (iHeadsValid_any _ (some ⟨bx, ox, none⟩) ci QD ⟨b1, b2, b3⟩ wx (RDi.out.new (HCQ.out.trans hq))).mono fun e w' ⟨h1, h2⟩ => ⟨by rw [h1, decide_eq_true GOOD.out.hds], h2⟩)
        have HBN := Lib.hid (show ∀ wx, Chg NoB wq wx → Calls Try.prog 39 #[.agg #[.int .i64 (wv + 1), .slice Ax 4 cx]] wx (fun e w' => e = .returned (.int .i64 0) ∧ Chg NoB wx w') from fun wx hq => (iBlockNext_any _ Ax cx ⟨wv + 1, List.replicate 4 zPg⟩ wx (HRX.out.new hq)).mono fun e w' ⟨h1, h2⟩ => ⟨by rw [h1]; unfold next; rw [if_pos ⟨HBO.out, show lead (List.replicate 4 zPg) < (List.replicate 4 zPg).length by decide⟩]; rfl, h2⟩)
        have hw2 : IntKind.i64.wrap (wv + 1) = wv + 1 := IntWalk.i64_in _ ⟨by omega, by omega⟩
        have n0 : (0 : Int) ≤ (N : Int) := Int.natCast_nonneg _
        have n1 : (N : Int) < (D.length : Int) := by have := HNL.out; omega
        have n2 : (N : Int) < (QD.length : Int) := by omega
        clear hrd hcq hbd hbq hbq2 hbd2 hrx hmany zt zti zhi0 zhi1 zhi2
        go_wp2_with fail
        refine wp_region_ro (gl := [(3, some true), (11, some true), (25, some true), (31, some true)]) (WInv := fun _ _ w5 => Chg NoB wq w5) (R := Chg NoB) (Post := PV [some (.slice (some ⟨bx, ox, none⟩) QD.length ci), some (.agg #[.int .i64 b1, .int .i64 b2, .int .i64 b3]), some (.bool true), some (.bool true), some (.slice (some ⟨bx, ox, none⟩) QD.length ci), some (.int .i64 (N : Int)), some (.pointer (some ⟨bx, ox + N * 2, none⟩)), some (.agg #[.int .i64 (wv + 1), .slice Ax 4 cx]), some (.int .i64 0), some (.bool true), some (.bool true), some (.bool true), some (.slice (some ⟨bx, ox, none⟩) QD.length ci), some (.int .i64 (N : Int)), some (.pointer (some ⟨bx, ox + N * 2, none⟩)), some (.pointer (some ⟨bx, ox + N * 2, none⟩)), some (.int .i64 (wv + 1)), some (.slice (some ⟨bd, od, none⟩) D.length c0), some (.int .i64 (N : Int)), some (.pointer (some ⟨bd, od + N * 2, none⟩)), some (.pointer (some ⟨bd, od + N * 2, none⟩)), some (.int .i64 wv), some (.int .i64 (wv + 1)), some (.bool true), some (.bool true), some (.bool true), some (.int .i64 (N : Int)), some (.slice (some ⟨gc, 0, none⟩) D.length D.length), some (.int .i64 (D.length : Int)), some (.bool true), some (.bool true), some (.bool true), some (.int .i64 mm), some (.slice (some ⟨gc, 0, none⟩) D.length D.length), some (.int .i64 (N : Int)), some (.pointer (some ⟨gc, N, none⟩)), some (.int .i64 mm), some (.bool true), some (.bool true), some (.bool true)]) (by kernel_rfl) (by kernel_rfl) (pv_guard (by intro p hp; simp only [List.mem_cons, List.not_mem_nil, or_false] at hp; rcases hp with rfl | rfl | rfl | rfl <;> rfl)) (fun _ _ _ _ h _ _ => h) (fun _ _ _ _ h _ => h) (Chg.refl _ _).drew ⟨?_, ?_, ?_, ?_, ?_, ?_, ?_, ?_, ?_, ?_, ?_, ?_, ?_, ?_, ?_, ?_, ?_, ?_, ?_, ?_, ?_, ?_, ?_, ?_, ?_, ?_, ?_, ?_, ?_, ?_, ?_, ?_, ?_, ?_, ?_, ?_, ?_, ?_, ?_, ?_, trivial⟩ ?_
        · rintro kc m a w5 hkc hch hm hn
          obtain ⟨e1, -⟩ := hn
          replace e1 : a.tmps[8]?.getD undef = .slice (some ⟨bx, ox, none⟩) QD.length ci := e1
          exact rg_val (v := .slice (some ⟨bx, ox, none⟩) QD.length ci) (by simp [execOp, go_sem, e1]) rfl hch (Chg.refl _ _) rfl
        · rintro kc m a w5 hkc hch hm hn
          obtain ⟨e1, -⟩ := hn
          replace e1 : a.tmps[10]?.getD undef = .pointer (some ⟨w63.heap.size + 1, 0, none⟩) := e1
          have c0 := Chg.cell hch y0 (fun x => x)
          have c1 := Chg.cell hch y1 (fun x => x)
          have c2 := Chg.cell hch y2 (fun x => x)
          exact rg_val (v := .agg #[.int .i64 b1, .int .i64 b2, .int .i64 b3]) (by simp [execOp, go_sem, e1, c0, c1, c2]) rfl hch (Chg.refl _ _) rfl
        · rintro kc m a w5 hkc hch hm hn
          obtain ⟨⟨_, e1, _, rfl⟩, ⟨_, e2, _, rfl⟩, -⟩ := hn
          refine rg_call (f := 38) (args := #[.slice (some ⟨bx, ox, none⟩) QD.length ci, .agg #[.int .i64 b1, .int .i64 b2, .int .i64 b3]]) (by simp [go_sem, e1, e2]) rfl ?_
          refine (HHV.out _ hch).mono ?_
          rintro e w6 ⟨rfl, hc6⟩
          exact ⟨_, rfl, hch.trans hc6, hc6, rfl⟩
        · rintro kc m a w5 hkc hch hm hn
          obtain ⟨⟨_, e1, _, rfl⟩, -⟩ := hn
          exact rg_val (v := .bool true) (by simp [execOp, go_sem, e1]) rfl hch (Chg.refl _ _) rfl
        · rintro kc m a w5 hkc hch hm hn
          obtain ⟨e1, -⟩ := hn
          replace e1 : a.tmps[8]?.getD undef = .slice (some ⟨bx, ox, none⟩) QD.length ci := e1
          exact rg_val (v := .slice (some ⟨bx, ox, none⟩) QD.length ci) (by simp [execOp, go_sem, e1]) rfl hch (Chg.refl _ _) rfl
        · rintro kc m a w5 hkc hch hm hn
          obtain ⟨e1, -⟩ := hn
          replace e1 : a.tmps[6]?.getD undef = .int .i64 (N : Int) := e1
          exact rg_val (v := .int .i64 (N : Int)) (by simp [execOp, go_sem, e1]) rfl hch (Chg.refl _ _) rfl
        · rintro kc m a w5 hkc hch hm hn
          obtain ⟨⟨_, e1, _, rfl⟩, ⟨_, e2, _, rfl⟩, -⟩ := hn
          exact rg_val (v := .pointer (some ⟨bx, ox + N * 2, none⟩)) (by simp [execOp, go_sem, e1, e2]; exact fun hh => absurd hh (by omega)) rfl hch (Chg.refl _ _) rfl
        · rintro kc m a w5 hkc hch hm hn
          obtain ⟨⟨_, e1, _, rfl⟩, -⟩ := hn
          have c0 := Chg.cell hch x0 (fun x => x)
          have c1 := Chg.cell hch x1 (fun x => x)
          exact rg_val (v := .agg #[.int .i64 (wv + 1), .slice Ax 4 cx]) (by simp [execOp, go_sem, e1, c0, c1]) rfl hch (Chg.refl _ _) rfl
        · rintro kc m a w5 hkc hch hm hn
          obtain ⟨⟨_, e1, _, rfl⟩, -⟩ := hn
          refine rg_call (f := 39) (args := #[.agg #[.int .i64 (wv + 1), .slice Ax 4 cx]]) (by simp [go_sem, e1]) rfl ?_
          refine (HBN.out _ hch).mono ?_
          rintro e w6 ⟨rfl, hc6⟩
          exact ⟨_, rfl, hch.trans hc6, hc6, rfl⟩
        · rintro kc m a w5 hkc hch hm hn
          obtain ⟨⟨_, e1, _, rfl⟩, -⟩ := hn
          exact rg_val (v := .bool true) (by simp [execOp, go_sem, e1]) rfl hch (Chg.refl _ _) rfl
        · rintro kc m a w5 hkc hch hm hn
          obtain ⟨⟨_, e1, _, rfl⟩, ⟨_, e2, _, rfl⟩, -⟩ := hn
          exact rg_val (v := .bool true) (by simp [execOp, go_sem, e1, e2]) rfl hch (Chg.refl _ _) rfl
        · rintro kc m a w5 hkc hch hm hn
          obtain ⟨⟨_, e1, _, rfl⟩, -⟩ := hn
          exact rg_val (v := .bool true) (by simp [execOp, go_sem, e1]) rfl hch (Chg.refl _ _) rfl
        · rintro kc m a w5 hkc hch hm hn
          obtain ⟨e1, -⟩ := hn
          replace e1 : a.tmps[8]?.getD undef = .slice (some ⟨bx, ox, none⟩) QD.length ci := e1
          exact rg_val (v := .slice (some ⟨bx, ox, none⟩) QD.length ci) (by simp [execOp, go_sem, e1]) rfl hch (Chg.refl _ _) rfl
        · rintro kc m a w5 hkc hch hm hn
          obtain ⟨e1, -⟩ := hn
          replace e1 : a.tmps[6]?.getD undef = .int .i64 (N : Int) := e1
          exact rg_val (v := .int .i64 (N : Int)) (by simp [execOp, go_sem, e1]) rfl hch (Chg.refl _ _) rfl
        · rintro kc m a w5 hkc hch hm hn
          obtain ⟨⟨_, e1, _, rfl⟩, ⟨_, e2, _, rfl⟩, -⟩ := hn
          exact rg_val (v := .pointer (some ⟨bx, ox + N * 2, none⟩)) (by simp [execOp, go_sem, e1, e2]; exact fun hh => absurd hh (by omega)) rfl hch (Chg.refl _ _) rfl
        · rintro kc m a w5 hkc hch hm hn
          obtain ⟨⟨_, e1, _, rfl⟩, -⟩ := hn
          exact rg_val (v := .pointer (some ⟨bx, ox + N * 2, none⟩)) (by simp [execOp, go_sem, e1]) rfl hch (Chg.refl _ _) rfl
        · rintro kc m a w5 hkc hch hm hn
          obtain ⟨⟨_, e1, _, rfl⟩, -⟩ := hn
          have c0 := Chg.cell hch x0 (fun x => x)
          exact rg_val (v := .int .i64 (wv + 1)) (by simp [execOp, go_sem, e1, c0]) rfl hch (Chg.refl _ _) rfl
        · rintro kc m a w5 hkc hch hm hn
          obtain ⟨e1, -⟩ := hn
          replace e1 : a.tmps[3]?.getD undef = .slice (some ⟨bd, od, none⟩) D.length c0 := e1
          exact rg_val (v := .slice (some ⟨bd, od, none⟩) D.length c0) (by simp [execOp, go_sem, e1]) rfl hch (Chg.refl _ _) rfl
        · rintro kc m a w5 hkc hch hm hn
          obtain ⟨e1, -⟩ := hn
          replace e1 : a.tmps[6]?.getD undef = .int .i64 (N : Int) := e1
          exact rg_val (v := .int .i64 (N : Int)) (by simp [execOp, go_sem, e1]) rfl hch (Chg.refl _ _) rfl
        · rintro kc m a w5 hkc hch hm hn
          obtain ⟨⟨_, e1, _, rfl⟩, ⟨_, e2, _, rfl⟩, -⟩ := hn
          exact rg_val (v := .pointer (some ⟨bd, od + N * 2, none⟩)) (by simp [execOp, go_sem, e1, e2]; exact fun hh => absurd hh (by omega)) rfl hch (Chg.refl _ _) rfl
        · rintro kc m a w5 hkc hch hm hn
          obtain ⟨⟨_, e1, _, rfl⟩, -⟩ := hn
          exact rg_val (v := .pointer (some ⟨bd, od + N * 2, none⟩)) (by simp [execOp, go_sem, e1]) rfl hch (Chg.refl _ _) rfl
        · rintro kc m a w5 hkc hch hm hn
          obtain ⟨⟨_, e1, _, rfl⟩, -⟩ := hn
          have c0 := Chg.cell hch d0 (fun x => x)
          exact rg_val (v := .int .i64 wv) (by simp [execOp, go_sem, e1, c0]) rfl hch (Chg.refl _ _) rfl
        · rintro kc m a w5 hkc hch hm hn
          obtain ⟨⟨_, e1, _, rfl⟩, -⟩ := hn
          exact rg_val (v := .int .i64 (wv + 1)) (by simp [execOp, go_sem, e1, hw2]) rfl hch (Chg.refl _ _) rfl
        · rintro kc m a w5 hkc hch hm hn
          obtain ⟨⟨_, e1, _, rfl⟩, ⟨_, e2, _, rfl⟩, -⟩ := hn
          exact rg_val (v := .bool true) (by simp [execOp, go_sem, e1, e2]) rfl hch (Chg.refl _ _) rfl
        · rintro kc m a w5 hkc hch hm hn
          obtain ⟨⟨_, e1, _, rfl⟩, ⟨_, e2, _, rfl⟩, -⟩ := hn
          exact rg_val (v := .bool true) (by simp [execOp, go_sem, e1, e2]) rfl hch (Chg.refl _ _) rfl
        · rintro kc m a w5 hkc hch hm hn
          obtain ⟨⟨_, e1, _, rfl⟩, -⟩ := hn
          exact rg_val (v := .bool true) (by simp [execOp, go_sem, e1]) rfl hch (Chg.refl _ _) rfl
        · rintro kc m a w5 hkc hch hm hn
          obtain ⟨e1, -⟩ := hn
          replace e1 : a.tmps[6]?.getD undef = .int .i64 (N : Int) := e1
          exact rg_val (v := .int .i64 (N : Int)) (by simp [execOp, go_sem, e1]) rfl hch (Chg.refl _ _) rfl
        · rintro kc m a w5 hkc hch hm hn
          obtain ⟨e1, -⟩ := hn
          replace e1 : a.tmps[23]?.getD undef = .slice (some ⟨gc, 0, none⟩) D.length D.length := e1
          exact rg_val (v := .slice (some ⟨gc, 0, none⟩) D.length D.length) (by simp [execOp, go_sem, e1]) rfl hch (Chg.refl _ _) rfl
        · rintro kc m a w5 hkc hch hm hn
          obtain ⟨⟨_, e1, _, rfl⟩, -⟩ := hn
          exact rg_val (v := .int .i64 (D.length : Int)) (by simp [go_sem, e1]) rfl hch (Chg.refl _ _) rfl
        · rintro kc m a w5 hkc hch hm hn
          obtain ⟨⟨_, e1, _, rfl⟩, ⟨_, e2, _, rfl⟩, -⟩ := hn
          exact rg_val (v := .bool true) (by simp [execOp, go_sem, e1, e2, n1]) rfl hch (Chg.refl _ _) rfl
        · rintro kc m a w5 hkc hch hm hn
          obtain ⟨⟨_, e1, _, rfl⟩, ⟨_, e2, _, rfl⟩, -⟩ := hn
          exact rg_val (v := .bool true) (by simp [execOp, go_sem, e1, e2]) rfl hch (Chg.refl _ _) rfl
        · rintro kc m a w5 hkc hch hm hn
          obtain ⟨⟨_, e1, _, rfl⟩, -⟩ := hn
          exact rg_val (v := .bool true) (by simp [execOp, go_sem, e1]) rfl hch (Chg.refl _ _) rfl
        · rintro kc m a w5 hkc hch hm hn
          obtain ⟨e1, -⟩ := hn
          replace e1 : a.tmps[11]?.getD undef = .int .i64 mm := e1
          exact rg_val (v := .int .i64 mm) (by simp [execOp, go_sem, e1]) rfl hch (Chg.refl _ _) rfl
        · rintro kc m a w5 hkc hch hm hn
          obtain ⟨e1, -⟩ := hn
          replace e1 : a.tmps[23]?.getD undef = .slice (some ⟨gc, 0, none⟩) D.length D.length := e1
          exact rg_val (v := .slice (some ⟨gc, 0, none⟩) D.length D.length) (by simp [execOp, go_sem, e1]) rfl hch (Chg.refl _ _) rfl
        · rintro kc m a w5 hkc hch hm hn
          obtain ⟨e1, -⟩ := hn
          replace e1 : a.tmps[6]?.getD undef = .int .i64 (N : Int) := e1
          exact rg_val (v := .int .i64 (N : Int)) (by simp [execOp, go_sem, e1]) rfl hch (Chg.refl _ _) rfl
        · rintro kc m a w5 hkc hch hm hn
          obtain ⟨⟨_, e1, _, rfl⟩, ⟨_, e2, _, rfl⟩, -⟩ := hn
          exact rg_val (v := .pointer (some ⟨gc, N, none⟩)) (by simp [execOp, go_sem, e1, e2]; exact fun hh => absurd hh (by omega)) rfl hch (Chg.refl _ _) rfl
        · rintro kc m a w5 hkc hch hm hn
          obtain ⟨⟨_, e1, _, rfl⟩, -⟩ := hn
          have c0 := Chg.cell hch g0 (fun x => x)
          exact rg_val (v := .int .i64 mm) (by simp [execOp, go_sem, e1, c0]) rfl hch (Chg.refl _ _) rfl
        · rintro kc m a w5 hkc hch hm hn
          obtain ⟨⟨_, e1, _, rfl⟩, ⟨_, e2, _, rfl⟩, -⟩ := hn
          exact rg_val (v := .bool true) (by simp [execOp, go_sem, e1, e2]) rfl hch (Chg.refl _ _) rfl
        · rintro kc m a w5 hkc hch hm hn
          obtain ⟨⟨_, e1, _, rfl⟩, ⟨_, e2, _, rfl⟩, -⟩ := hn
          exact rg_val (v := .bool true) (by simp [execOp, go_sem, e1, e2]) rfl hch (Chg.refl _ _) rfl
        · rintro kc m a w5 hkc hch hm hn
          obtain ⟨⟨_, e1, _, rfl⟩, -⟩ := hn
          exact rg_val (v := .bool true) (by simp [execOp, go_sem, e1]) rfl hch (Chg.refl _ _) rfl
        rintro m w2x hc2
        simp only [AllVals]
        rintro v0 _ p0 v1 _ p1 v2 _ p2 v3 _ p3 v4 _ p4 v5 _ p5 v6 _ p6 v7 _ p7 v8 _ p8 v9 _ p9 v10 _ p10 v11 _ p11 v12 _ p12 v13 _ p13 v14 _ p14 v15 _ p15 v16 _ p16 v17 _ p17 v18 _ p18 v19 _ p19 v20 _ p20 v21 _ p21 v22 _ p22 v23 _ p23 v24 _ p24 v25 _ p25 v26 _ p26 v27 _ p27 v28 _ p28 v29 _ p29 v30 _ p30 v31 _ p31 v32 _ p32 v33 _ p33 v34 _ p34 v35 _ p35 v36 _ p36 v37 _ p37 v38 _ p38 v39 _ p39
        obtain rfl := p39
        clear p0 p1 p2 p3 p4 p5 p6 p7 p8 p9 p10 p11 p12 p13 p14 p15 p16 p17 p18 p19 p20 p21 p22 p23 p24 p25 p26 p27 p28 p29 p30 p31 p32 p33 p34 p35 p36 p37 p38
        simp only [Act.put, List.setIfInBounds_toArray, List.set_cons_succ, List.set_cons_zero]
        have HC2 := Lib.hid hc2
        clear hc2
        go_wp2_with fail
        go_ret
        exact ⟨rfl, HCH.out.trans (HCQ.out.trans HC2.out)⟩
end Go.Proofs.Ytpiojofmflfkkaa
