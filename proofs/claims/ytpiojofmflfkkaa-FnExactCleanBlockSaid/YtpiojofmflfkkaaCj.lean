/- The law FnExactCleanBlock: the walk. -/
import Derived.Test.YtpiojofmflfkkaaCg
import Derived.Test.YtpiojofmflfkkaaCh
import Derived.Test.YtpiojofmflfkkaaCi
import Derived.Test.YtpiojofmflfkkaaCk
import Derived.Test.YtpiojofmflfkkaaMfi
import Derived.Test.YtpiojofmflfkkaaMb
import Derived.Test.YtpiojofmflfkkaaMh
import Derived.Test.YtpiojofmflfkkaaMw
import Derived.Deep.RegionHeld3
namespace Go.Proofs.Ytpiojofmflfkkaa
open Go.RowKit
theorem endT_sz (T : List BkO) : ∀ k, endT T k ≤ k + 5 * (devSize (bksOf T) : Int) := by
  induction T with
  | nil => intro k; simp [endT, devSize, bksOf]
  | cons r T ih =>
    intro k
    have := ih (k + 1 + 5 * (r.ps.length : Int))
    unfold endT
    have e : devSize (bksOf (r :: T)) = devSize (bksOf T) + 1 + r.ps.length := by
      unfold devSize bksOf
      simp [BkO.bk]
      omega
    rw [e]
    omega
theorem rows_fit {T : List BkO} {D : List Bk} (h : bksOf T = D) (hs : devSize D ≤ 1048576) : ∀ r ∈ T, r.ps.length ≤ 1048576 := fun r hr => by
  obtain ⟨j, hj, rfl⟩ := List.getElem_of_mem hr
  have hj' : j < D.length := by rw [← h, bksOf_length]; exact hj
  have hp := devSize_page D j hj'
  have e : D[j] = T[j].bk := by
    have : D[j]? = some T[j].bk := by rw [← h]; unfold bksOf; rw [List.getElem?_map, List.getElem?_eq_getElem hj]; rfl
    exact (List.getElem?_eq_some_iff.1 this).2
  rw [e] at hp
  have e2 : (T[j].bk).pages = T[j].ps := rfl
  rw [e2] at hp
  omega
theorem DevO.box2 {B E B' : Nat} {w w' : World} {A : Option Addr} {c : Nat} {T : List BkO} (h : DevO B E w A c T) (hR : RB2 B' 31 46 w w') : DevO B E w' A c T := by
  refine ⟨⟨h.1.1, ?_⟩, ⟨fun r hr => ?_, h.2.2⟩⟩
  · rcases h.1.2 with h0 | ⟨g, rest, e, hg, hE, hb⟩
    · exact .inl h0
    · exact .inr ⟨g, rest, e, hg, hE, hR.blk hb ty_blk_tab ty_blk_hds⟩
  · obtain ⟨h1, h2, h3, h4⟩ := h.2.1 r hr
    exact ⟨h1, h2, hR.blk h3 ty_pag_tab ty_pag_hds, h4⟩
/-- The blocks of a device, of a table, by their types. -/
def DvB (B E : Nat) (w : World) (i : Nat) : Prop := (B ≤ i ∧ i < E) ∧ ((∃ cs, Blk w i 67 cs) ∨ ∃ cs, Blk w i 80 cs)
def TbB (B E : Nat) (w : World) (i : Nat) : Prop := (B ≤ i ∧ i < E) ∧ ∃ cs, Blk w i 3 cs
theorem DvB.not {B E : Nat} {w : World} {b : Nat} {t : TypeId} {cs : Array Value} (hb : Blk w b t cs) (h1 : t ≠ 67) (h2 : t ≠ 80) : ¬ DvB B E w b := fun h => by
  rcases h.2 with ⟨cs', h'⟩ | ⟨cs', h'⟩
  · exact h1 (hb.sameTy h')
  · exact h2 (hb.sameTy h')
theorem TbB.not {B E : Nat} {w : World} {b : Nat} {t : TypeId} {cs : Array Value} (hb : Blk w b t cs) (h1 : t ≠ 3) : ¬ TbB B E w b := fun h => by
  obtain ⟨cs', h'⟩ := h.2
  exact h1 (hb.sameTy h')
set_option maxRecDepth 100000 in
set_option maxHeartbeats 4000000 in
theorem FnExactCleanBlock_any (v : Value) (x : DevA) (u : Value) (y : TbA) (t : Value) (z : Int × Int × Int) (n s : Int) (w : World) (hx : DevIn w v x) (hy : TabIn w u y) (hz : HdIn t z) :
    Calls Try.prog 4 #[v, u, t, .int .i64 n, .int .i64 s] w fun e w' => e = .returned (.bool true) ∧ Chg NoB w w' := by
  obtain ⟨A, c, D⟩ := x
  obtain ⟨B, d, X⟩ := y
  obtain ⟨a1, a2, a3⟩ := z
  obtain ⟨rfl, h, hl, hP⟩ := hx
  obtain ⟨rfl, h2, hXl, hXr⟩ := hy
  obtain rfl := hz
  simp only at h hl hP h2 hXl hXr
  go_enter Try.func4, Try.ntmps4
  go_wp2_with fail
  have HCH := Lib.hid (Chg.refl NoB w)
  have HD := Lib.hid h
  have HX := Lib.hid h2
  clear h h2
  obtain ⟨w41, hw41⟩ : ∃ w41, w.alloc (.cells #[.slice B X.length d] 41) = w41 := ⟨_, rfl⟩
  try rw [hw41]
  have q42 : Chg NoB w w41 := by rw [← hw41]; exact (Chg.refl _ _).alloc _
  have bq42 : Blk w41 w.heap.size 41 #[.slice B X.length d] := by rw [← hw41]; exact Blk.new _ _ _
  have sq42 : w41.heap.size = w.heap.size + 1 := by rw [← hw41]; exact World.size_alloc ..
  clear hw41
  replace HCH := Lib.hid (HCH.out.trans q42)
  replace HD := Lib.hid (HD.out.new q42)
  replace HX := Lib.hid (HX.out.new q42)
  have S43 := Lib.hid q42.size
  have S44 := Lib.hid sq42
  have HB_a := Lib.hid bq42
  have z_a_0 : w41.cell? ⟨w.heap.size, 0, none⟩ = some (.slice B X.length d) := (HB_a.out.cell _).trans rfl
  clear q42 sq42 bq42
  obtain ⟨w45, hw45⟩ : ∃ w45, w41.alloc (.cells #[.int .i64 a1, .int .i64 a2, .int .i64 a3] 43) = w45 := ⟨_, rfl⟩
  try rw [hw45]
  have q46 : Chg NoB w41 w45 := by rw [← hw45]; exact (Chg.refl _ _).alloc _
  have bq46 : Blk w45 (w.heap.size + 1) 43 #[.int .i64 a1, .int .i64 a2, .int .i64 a3] := by have hz : w41.heap.size = w.heap.size + 1 := (by have := S43.out; have := S44.out; omega); rw [← hz, ← hw45]; exact Blk.new _ _ _
  have sq46 : w45.heap.size = w41.heap.size + 1 := by rw [← hw45]; exact World.size_alloc ..
  clear hw45
  replace HCH := Lib.hid (HCH.out.trans q46)
  replace HB_a := Lib.hid (HB_a.out.chg q46 (fun x => x))
  replace z_a_0 := Chg.cell q46 z_a_0 (fun x => x)
  replace HD := Lib.hid (HD.out.new q46)
  replace HX := Lib.hid (HX.out.new q46)
  have S47 := Lib.hid q46.size
  have S48 := Lib.hid sq46
  have HB_b := Lib.hid bq46
  have z_b_0 : w45.cell? ⟨w.heap.size + 1, 0, none⟩ = some (.int .i64 a1) := (HB_b.out.cell _).trans rfl
  have z_b_1 : w45.cell? ⟨w.heap.size + 1, 1, none⟩ = some (.int .i64 a2) := (HB_b.out.cell _).trans rfl
  have z_b_2 : w45.cell? ⟨w.heap.size + 1, 2, none⟩ = some (.int .i64 a3) := (HB_b.out.cell _).trans rfl
  clear q46 sq46 bq46
  refine (szBlockS_g _ A c D 1048576 _ HD.out hP hl (by omega) (by omega)).mono ?_
  rintro e w49 ⟨rfl, hc50⟩
  replace HCH := Lib.hid (HCH.out.trans hc50)
  replace HB_a := Lib.hid (HB_a.out.chg hc50 (fun x => x))
  replace z_a_0 := Chg.cell hc50 z_a_0 (fun x => x)
  replace HB_b := Lib.hid (HB_b.out.chg hc50 (fun x => x))
  replace z_b_0 := Chg.cell hc50 z_b_0 (fun x => x)
  replace z_b_1 := Chg.cell hc50 z_b_1 (fun x => x)
  replace z_b_2 := Chg.cell hc50 z_b_2 (fun x => x)
  replace HD := Lib.hid (HD.out.new hc50)
  replace HX := Lib.hid (HX.out.new hc50)
  have S51 := Lib.hid hc50.size
  clear hc50
  by_cases hb : 1048576 < devSize D
  · have hs : szLeft 1048576 (devSize D) = -1 := by unfold szLeft; rw [if_pos (by omega)]
    rw [hs]
    go_wp2
    go_ret
    exact ⟨rfl, HCH.out⟩
  have hs : szLeft 1048576 (devSize D) = 1048576 - (devSize D : Int) := by unfold szLeft; rw [if_neg (by omega)]
  rw [hs]
  have hnn : ¬ (1048576 - (devSize D : Int) < 0) := by omega
  have HSZ := Lib.hid (show devSize D ≤ 1048576 by omega)
  have HL := Lib.hid (show D.length ≤ 1048576 by have := devSize_len D; omega)
  have HPP := Lib.hid (show ∀ k (h : k < D.length), D[k].pages.length ≤ 1048576 from fun k hk => by have := devSize_page D k hk; omega)
  have HS := Lib.hid (size_small HSZ.out)
  have HXL0 := Lib.hid hXl
  have HXR0 := Lib.hid hXr
  clear hs hP hl hb hXl hXr
  go_wp2_with fail
  refine (szTable_g _ B d X (1048576 - (devSize D : Int)) _ HX.out HXR0.out HXL0.out (by omega) (by omega)).mono ?_
  rintro e w52 ⟨rfl, hc53⟩
  replace HCH := Lib.hid (HCH.out.trans hc53)
  replace HB_a := Lib.hid (HB_a.out.chg hc53 (fun x => x))
  replace z_a_0 := Chg.cell hc53 z_a_0 (fun x => x)
  replace HB_b := Lib.hid (HB_b.out.chg hc53 (fun x => x))
  replace z_b_0 := Chg.cell hc53 z_b_0 (fun x => x)
  replace z_b_1 := Chg.cell hc53 z_b_1 (fun x => x)
  replace z_b_2 := Chg.cell hc53 z_b_2 (fun x => x)
  replace HD := Lib.hid (HD.out.new hc53)
  replace HX := Lib.hid (HX.out.new hc53)
  have S54 := Lib.hid hc53.size
  clear hc53 hnn
  by_cases hl : 1048576 - (devSize D : Int) < (total X : Int)
  · have hs : szOf (1048576 - (devSize D : Int)) (total X) = -1 := by unfold szOf; rw [if_pos (by omega)]
    rw [hs]
    go_wp2
    go_ret
    exact ⟨rfl, HCH.out⟩
  have hs : szOf (1048576 - (devSize D : Int)) (total X) = 1048576 - (devSize D : Int) - (total X : Int) := by unfold szOf; rw [if_neg (by omega)]
  rw [hs]
  have hnn : ¬ (1048576 - (devSize D : Int) - (total X : Int) < 0) := by omega
  have HTX := Lib.hid (show total X ≤ 1048576 by omega)
  have HXF := Lib.hid (total_small HTX.out)
  obtain ⟨⟨QD, QX, ⟨b1, b2, b3⟩, mm, okb⟩, hQ⟩ : ∃ q, cleanBlock D X ⟨a1, a2, a3⟩ n s = q := ⟨_, rfl⟩
  have HQF := Lib.hid (show devSize QD ≤ 1048576 ∧ total QX ≤ 1048576 by have h1 := clean_small D X ⟨a1, a2, a3⟩ n s HSZ.out HTX.out; rw [hQ] at h1; exact h1)
  have HQS := Lib.hid (size_small HQF.out.1)
  have HQT := Lib.hid (total_small HQF.out.2)
  have hmm : (mm != mm) = false := by simp
  have hok : (okb != okb) = false := by simp
  have HCS := Lib.hid (show ∀ (F G : Nat → Prop) (A0 : Option Addr) (c0 : Nat) (A1 : Option Addr) (c1 : Nat) (wx : World), DevR F wx A0 D → TabR G wx A1 X → Calls Try.prog 21 #[.slice A0 D.length c0, .agg #[.slice A1 X.length c1], .agg #[.int .i64 a1, .int .i64 a2, .int .i64 a3], .int .i64 n, .int .i64 s] wx (fun e w' => ∃ A5 c5 T5 A6 c6 T6, e = .returned (.tuple #[.slice A5 QD.length c5, .agg #[.slice A6 QX.length c6], .agg #[.int .i64 b1, .int .i64 b2, .int .i64 b3], .int .i64 mm, .bool okb]) ∧ Hid (bksOf T5 = QD) ∧ Hid (listsOf T6 = QX) ∧ DevQ wx.heap.size w'.heap.size w' A5 c5 T5 ∧ TabO wx.heap.size w'.heap.size w' A6 c6 T6 ∧ Chg NoB wx w') from fun F G A0 c0 A1 c1 wx h1 h2 => by
    have h3 := sCleanBlock_any F G A0 c0 D A1 c1 X ⟨a1, a2, a3⟩ n s wx h1 h2 HS.out HXF.out
    rw [hQ] at h3
    exact h3.mono fun e w' ⟨A5, c5, T5, A6, c6, T6, e1, e2, e3, e4, e5, e6⟩ => ⟨A5, c5, T5, A6, c6, T6, e1, Lib.hid e2, Lib.hid e3, e4, e5, e6⟩)
  have HCI := Lib.hid (show ∀ (F G : Nat → Prop) (A0 : Option Addr) (c0 : Nat) (A1 : Option Addr) (c1 : Nat) (wx : World), DevR F wx A0 D → TabR G wx A1 X → Calls Try.prog 25 #[.slice A0 D.length c0, .agg #[.slice A1 X.length c1], .agg #[.int .i64 a1, .int .i64 a2, .int .i64 a3], .int .i64 n, .int .i64 s] wx (fun e w' => ∃ A5 c5 T5 A6 c6 T6, e = .returned (.tuple #[.slice A5 QD.length c5, .agg #[.slice A6 QX.length c6], .agg #[.int .i64 b1, .int .i64 b2, .int .i64 b3], .int .i64 mm, .bool okb]) ∧ Hid (bksOf T5 = QD) ∧ Hid (listsOf T6 = QX) ∧ DevQ wx.heap.size w'.heap.size w' A5 c5 T5 ∧ TabO wx.heap.size w'.heap.size w' A6 c6 T6 ∧ Chg NoB wx w') from fun F G A0 c0 A1 c1 wx h1 h2 => by
    have h3 := iCleanBlock_any F G A0 c0 D A1 c1 X ⟨a1, a2, a3⟩ n s wx h1 h2
    rw [hQ] at h3
    exact h3.mono fun e w' ⟨A5, c5, T5, A6, c6, T6, e1, e2, e3, e4, e5, e6⟩ => ⟨A5, c5, T5, A6, c6, T6, e1, Lib.hid e2, Lib.hid e3, e4, e5, e6⟩)
  clear hs hl hQ
  go_wp2_with fail
  refine wp_region_rg (WInv := fun _ m w5 => Chg (NoB) w52 w5 ∧ BoxI (w52.heap.size) 31 #[.slice none 0 0] 15 18 11 m w5 ∧ BoxI (w52.heap.size) 46 #[.int .i64 0, .int .i64 0, .int .i64 0] 16 19 12 m w5) (R := RB2 (w52.heap.size) 31 46) (Post := PL [fun v w => v = .slice A D.length c, fun v w => ∃ g1 : Nat, ∃ T1 : List BkO, v = .slice (some ⟨g1, 0, none⟩) D.length D.length ∧ Hid (bksOf T1 = D) ∧ DevO w52.heap.size w.heap.size w (some ⟨g1, 0, none⟩) D.length T1, fun v w => v = .agg #[.slice B X.length d], fun v w => ∃ g2 : Nat, ∃ T2 : List RowO, v = .agg #[.slice (some ⟨g2, 0, none⟩) X.length X.length] ∧ Hid (listsOf T2 = X) ∧ TabO w52.heap.size w.heap.size w (some ⟨g2, 0, none⟩) X.length T2, fun v w => v = .agg #[.int .i64 a1, .int .i64 a2, .int .i64 a3], fun v w => v = .agg #[.int .i64 a1, .int .i64 a2, .int .i64 a3], fun v w => v = .int .i64 n, fun v w => v = .int .i64 s, fun v w => ∃ A5 : Option Addr, ∃ c5 : Nat, ∃ T5 : List BkO, ∃ A6 : Option Addr, ∃ c6 : Nat, ∃ T6 : List RowO, v = .tuple #[.slice A5 QD.length c5, .agg #[.slice A6 QX.length c6], .agg #[.int .i64 b1, .int .i64 b2, .int .i64 b3], .int .i64 mm, .bool okb] ∧ Hid (bksOf T5 = QD) ∧ Hid (listsOf T6 = QX) ∧ DevQ w52.heap.size w.heap.size w A5 c5 T5 ∧ TabO w52.heap.size w.heap.size w A6 c6 T6, fun v w => ∃ A5 : Option Addr, ∃ c5 : Nat, ∃ T5 : List BkO, ∃ A6 : Option Addr, ∃ c6 : Nat, ∃ T6 : List RowO, v = .tuple #[.slice A5 QD.length c5, .agg #[.slice A6 QX.length c6], .agg #[.int .i64 b1, .int .i64 b2, .int .i64 b3], .int .i64 mm, .bool okb] ∧ Hid (bksOf T5 = QD) ∧ Hid (listsOf T6 = QX) ∧ DevQ w52.heap.size w.heap.size w A5 c5 T5 ∧ TabO w52.heap.size w.heap.size w A6 c6 T6, fun v w => ∃ A5 : Option Addr, ∃ c5 : Nat, ∃ T5 : List BkO, v = .slice A5 QD.length c5 ∧ Hid (bksOf T5 = QD) ∧ DevQ w52.heap.size w.heap.size w A5 c5 T5, fun v w => ∃ A6 : Option Addr, ∃ c6 : Nat, ∃ T6 : List RowO, v = .agg #[.slice A6 QX.length c6] ∧ Hid (listsOf T6 = QX) ∧ TabO w52.heap.size w.heap.size w A6 c6 T6, fun v w => v = .agg #[.int .i64 b1, .int .i64 b2, .int .i64 b3], fun v w => v = .int .i64 mm, fun v w => v = .bool okb, fun _ _ => True, fun _ _ => True, fun v w => ∃ A5 : Option Addr, ∃ c5 : Nat, ∃ T5 : List BkO, v = .slice A5 QD.length c5 ∧ Hid (bksOf T5 = QD) ∧ DevQ w52.heap.size w.heap.size w A5 c5 T5, fun _ _ => True, fun _ _ => True, fun v w => v = .int .i64 mm, fun v w => v = .bool okb]) (by kernel_rfl) (by kernel_rfl) ?_ (pl_stab ⟨(fun _ _ _ h _ => h), (fun _ _ _ ⟨g1, T1, hv, hT1, hO1⟩ hR => ⟨g1, T1, hv, hT1, ((hO1.box2 hR).more (Nat.le_refl _) (Chg.size hR))⟩), (fun _ _ _ h _ => h), (fun _ _ _ ⟨g2, T2, hv, hT2, hO2⟩ hR => ⟨g2, T2, hv, hT2, ((hO2.box2 hR).more (Nat.le_refl _) (Chg.size hR))⟩), (fun _ _ _ h _ => h), (fun _ _ _ h _ => h), (fun _ _ _ h _ => h), (fun _ _ _ h _ => h), (fun _ _ _ ⟨A5, c5, T5, A6, c6, T6, hv, hT5, hT6, hO5, hO6⟩ hR => ⟨A5, c5, T5, A6, c6, T6, hv, hT5, hT6, ((hO5.box2 hR).more (Nat.le_refl _) (Chg.size hR)), ((hO6.box2 hR).more (Nat.le_refl _) (Chg.size hR))⟩), (fun _ _ _ ⟨A5, c5, T5, A6, c6, T6, hv, hT5, hT6, hO5, hO6⟩ hR => ⟨A5, c5, T5, A6, c6, T6, hv, hT5, hT6, ((hO5.box2 hR).more (Nat.le_refl _) (Chg.size hR)), ((hO6.box2 hR).more (Nat.le_refl _) (Chg.size hR))⟩), (fun _ _ _ ⟨A5, c5, T5, hv, hT5, hO5⟩ hR => ⟨A5, c5, T5, hv, hT5, ((hO5.box2 hR).more (Nat.le_refl _) (Chg.size hR))⟩), (fun _ _ _ ⟨A6, c6, T6, hv, hT6, hO6⟩ hR => ⟨A6, c6, T6, hv, hT6, ((hO6.box2 hR).more (Nat.le_refl _) (Chg.size hR))⟩), (fun _ _ _ h _ => h), (fun _ _ _ h _ => h), (fun _ _ _ h _ => h), (fun _ _ _ _ _ => trivial), (fun _ _ _ _ _ => trivial), (fun _ _ _ ⟨A5, c5, T5, hv, hT5, hO5⟩ hR => ⟨A5, c5, T5, hv, hT5, ((hO5.box2 hR).more (Nat.le_refl _) (Chg.size hR))⟩), (fun _ _ _ _ _ => trivial), (fun _ _ _ _ _ => trivial), (fun _ _ _ h _ => h), (fun _ _ _ h _ => h), trivial⟩) ⟨(Chg.refl _ _).drew, BoxI.start, BoxI.start⟩ ?_ ?_
  · exact fun _ _ _ _ h _ _ => h
  · refine ⟨?_, ?_, ?_, ?_, ?_, ?_, ?_, ?_, ?_, ?_, ?_, ?_, ?_, ?_, ?_, ?_, ?_, ?_, ?_, ?_, ?_, ?_, trivial⟩
    · rintro kc m a w5 hkc ⟨hch, hbx0, hbx1⟩ hm hn
      obtain ⟨h0, -⟩ := hn
      have e0 : a.tmps[0]?.getD undef = .slice A D.length c := h0
      exact rg_val (v := .slice A D.length c) (by simp [execOp, go_sem, e0]) rfl ⟨hch, hbx0.keep (by decide) (by decide) hm (Chg.refl NoB _) (fun _ _ x => x), hbx1.keep (by decide) (by decide) hm (Chg.refl NoB _) (fun _ _ x => x)⟩ (Chg.refl _ _) rfl
    · rintro kc m a w5 hkc ⟨hch, hbx0, hbx1⟩ hm hn
      obtain ⟨⟨_, e0, m0, rfl⟩, -⟩ := hn
      refine rg_call (f := 22) (args := #[.slice A D.length c]) (by simp [go_sem, e0]) rfl ?_
      refine (toBlockS_any _ A c D _ (HD.out.new hch) HL.out HPP.out).mono ?_
      rintro e' w6 ⟨g1, T1, rfl, hT1', hc6, hO1⟩
      have hT1 := Lib.hid hT1'
      exact ⟨_, rfl, ⟨hch.trans' hc6 (fun _ x => x.elim), hbx0.keep (by decide) (by decide) hm hc6 (fun _ _ x => x), hbx1.keep (by decide) (by decide) hm hc6 (fun _ _ x => x)⟩, (RB2.of hc6), ⟨g1, T1, rfl, hT1, (hO1.more hch.size (Nat.le_refl _))⟩⟩
    · rintro kc m a w5 hkc ⟨hch, hbx0, hbx1⟩ hm hn
      obtain ⟨h0, -⟩ := hn
      have e0 : a.tmps[6]?.getD undef = .pointer (some ⟨w.heap.size, 0, none⟩) := h0
      have y0 := Chg.cell hch z_a_0 (fun x => x)
      exact rg_val (v := .agg #[.slice B X.length d]) (by simp [execOp, go_sem, e0, y0]) rfl ⟨hch, hbx0.keep (by decide) (by decide) hm (Chg.refl NoB _) (fun _ _ x => x), hbx1.keep (by decide) (by decide) hm (Chg.refl NoB _) (fun _ _ x => x)⟩ (Chg.refl _ _) rfl
    · rintro kc m a w5 hkc ⟨hch, hbx0, hbx1⟩ hm hn
      obtain ⟨⟨_, e0, m0, rfl⟩, -⟩ := hn
      refine rg_call (f := 23) (args := #[.agg #[.slice B X.length d]]) (by simp [go_sem, e0]) rfl ?_
      refine (toTable_any _ B d X _ (HX.out.new hch) HTX.out).mono ?_
      rintro e' w6 ⟨g2, T2, rfl, hT2', hc6, hO2⟩
      have hT2 := Lib.hid hT2'
      exact ⟨_, rfl, ⟨hch.trans' hc6 (fun _ x => x.elim), hbx0.keep (by decide) (by decide) hm hc6 (fun _ _ x => x), hbx1.keep (by decide) (by decide) hm hc6 (fun _ _ x => x)⟩, (RB2.of hc6), ⟨g2, T2, rfl, hT2, (hO2.more hch.size (Nat.le_refl _))⟩⟩
    · rintro kc m a w5 hkc ⟨hch, hbx0, hbx1⟩ hm hn
      obtain ⟨h0, -⟩ := hn
      have e0 : a.tmps[7]?.getD undef = .pointer (some ⟨w.heap.size + 1, 0, none⟩) := h0
      have y0 := Chg.cell hch z_b_0 (fun x => x)
      have y1 := Chg.cell hch z_b_1 (fun x => x)
      have y2 := Chg.cell hch z_b_2 (fun x => x)
      exact rg_val (v := .agg #[.int .i64 a1, .int .i64 a2, .int .i64 a3]) (by simp [execOp, go_sem, e0, y0, y1, y2]) rfl ⟨hch, hbx0.keep (by decide) (by decide) hm (Chg.refl NoB _) (fun _ _ x => x), hbx1.keep (by decide) (by decide) hm (Chg.refl NoB _) (fun _ _ x => x)⟩ (Chg.refl _ _) rfl
    · rintro kc m a w5 hkc ⟨hch, hbx0, hbx1⟩ hm hn
      obtain ⟨⟨_, e0, m0, rfl⟩, -⟩ := hn
      refine rg_call (f := 24) (args := #[.agg #[.int .i64 a1, .int .i64 a2, .int .i64 a3]]) (by simp [go_sem, e0]) rfl ?_
      refine (toHeads_any a1 a2 a3 _).mono ?_
      rintro e' w6 ⟨rfl, hc6⟩
      exact ⟨_, rfl, ⟨hch.trans' hc6 (fun _ x => x.elim), hbx0.keep (by decide) (by decide) hm hc6 (fun _ _ x => x), hbx1.keep (by decide) (by decide) hm hc6 (fun _ _ x => x)⟩, (RB2.of hc6), rfl⟩
    · rintro kc m a w5 hkc ⟨hch, hbx0, hbx1⟩ hm hn
      obtain ⟨h0, -⟩ := hn
      have e0 : a.tmps[3]?.getD undef = .int .i64 n := h0
      exact rg_val (v := .int .i64 n) (by simp [execOp, go_sem, e0]) rfl ⟨hch, hbx0.keep (by decide) (by decide) hm (Chg.refl NoB _) (fun _ _ x => x), hbx1.keep (by decide) (by decide) hm (Chg.refl NoB _) (fun _ _ x => x)⟩ (Chg.refl _ _) rfl
    · rintro kc m a w5 hkc ⟨hch, hbx0, hbx1⟩ hm hn
      obtain ⟨h0, -⟩ := hn
      have e0 : a.tmps[4]?.getD undef = .int .i64 s := h0
      exact rg_val (v := .int .i64 s) (by simp [execOp, go_sem, e0]) rfl ⟨hch, hbx0.keep (by decide) (by decide) hm (Chg.refl NoB _) (fun _ _ x => x), hbx1.keep (by decide) (by decide) hm (Chg.refl NoB _) (fun _ _ x => x)⟩ (Chg.refl _ _) rfl
    · rintro kc m a w5 hkc ⟨hch, hbx0, hbx1⟩ hm hn
      obtain ⟨⟨_, e0, m0, g1, T1, rfl, hT1, hO1⟩, ⟨_, e1, m1, g2, T2, rfl, hT2, hO2⟩, ⟨_, e2, m2, rfl⟩, ⟨_, e3, m3, rfl⟩, ⟨_, e4, m4, rfl⟩, -⟩ := hn
      refine rg_call (f := 21) (args := #[.slice (some ⟨g1, 0, none⟩) D.length D.length, .agg #[.slice (some ⟨g2, 0, none⟩) X.length X.length], .agg #[.int .i64 a1, .int .i64 a2, .int .i64 a3], .int .i64 n, .int .i64 s]) (by simp [go_sem, e0, e1, e2, e3, e4]) rfl ?_
      refine (HCS.out _ _ _ _ _ _ _ (hT1.out ▸ hO1.reads) (hT2.out ▸ hO2.reads)).mono ?_
      rintro e' w6 ⟨A5, c5, T5, A6, c6, T6, rfl, hT5, hT6, hO5, hO6, hc6⟩
      exact ⟨_, rfl, ⟨hch.trans' hc6 (fun _ x => x.elim), hbx0.keep (by decide) (by decide) hm hc6 (fun _ _ x => x), hbx1.keep (by decide) (by decide) hm hc6 (fun _ _ x => x)⟩, (RB2.of hc6), ⟨A5, c5, T5, A6, c6, T6, rfl, hT5, hT6, (hO5.more hch.size (Nat.le_refl _)), (hO6.more hch.size (Nat.le_refl _))⟩⟩
    · rintro kc m a w5 hkc ⟨hch, hbx0, hbx1⟩ hm hn
      obtain ⟨⟨_, e0, m0, A5, c5, T5, A6, c6, T6, rfl, hT5, hT6, hO5, hO6⟩, -⟩ := hn
      exact rg_val (v := .tuple #[.slice A5 QD.length c5, .agg #[.slice A6 QX.length c6], .agg #[.int .i64 b1, .int .i64 b2, .int .i64 b3], .int .i64 mm, .bool okb]) (by simp [execOp, go_sem, e0]) rfl ⟨hch, hbx0.keep (by decide) (by decide) hm (Chg.refl NoB _) (fun _ _ x => x), hbx1.keep (by decide) (by decide) hm (Chg.refl NoB _) (fun _ _ x => x)⟩ (Chg.refl _ _) ⟨A5, c5, T5, A6, c6, T6, rfl, hT5, hT6, hO5, hO6⟩
    · rintro kc m a w5 hkc ⟨hch, hbx0, hbx1⟩ hm hn
      obtain ⟨⟨_, e0, m0, A5, c5, T5, A6, c6, T6, rfl, hT5, hT6, hO5, hO6⟩, -⟩ := hn
      exact rg_val (v := .slice A5 QD.length c5) (by simp [execOp, go_sem, e0]) rfl ⟨hch, hbx0.keep (by decide) (by decide) hm (Chg.refl NoB _) (fun _ _ x => x), hbx1.keep (by decide) (by decide) hm (Chg.refl NoB _) (fun _ _ x => x)⟩ (Chg.refl _ _) ⟨A5, c5, T5, rfl, hT5, hO5⟩
    · rintro kc m a w5 hkc ⟨hch, hbx0, hbx1⟩ hm hn
      obtain ⟨⟨_, e0, m0, A5, c5, T5, A6, c6, T6, rfl, hT5, hT6, hO5, hO6⟩, -⟩ := hn
      exact rg_val (v := .agg #[.slice A6 QX.length c6]) (by simp [execOp, go_sem, e0]) rfl ⟨hch, hbx0.keep (by decide) (by decide) hm (Chg.refl NoB _) (fun _ _ x => x), hbx1.keep (by decide) (by decide) hm (Chg.refl NoB _) (fun _ _ x => x)⟩ (Chg.refl _ _) ⟨A6, c6, T6, rfl, hT6, hO6⟩
    · rintro kc m a w5 hkc ⟨hch, hbx0, hbx1⟩ hm hn
      obtain ⟨⟨_, e0, m0, A5, c5, T5, A6, c6, T6, rfl, hT5, hT6, hO5, hO6⟩, -⟩ := hn
      exact rg_val (v := .agg #[.int .i64 b1, .int .i64 b2, .int .i64 b3]) (by simp [execOp, go_sem, e0]) rfl ⟨hch, hbx0.keep (by decide) (by decide) hm (Chg.refl NoB _) (fun _ _ x => x), hbx1.keep (by decide) (by decide) hm (Chg.refl NoB _) (fun _ _ x => x)⟩ (Chg.refl _ _) rfl
    · rintro kc m a w5 hkc ⟨hch, hbx0, hbx1⟩ hm hn
      obtain ⟨⟨_, e0, m0, A5, c5, T5, A6, c6, T6, rfl, hT5, hT6, hO5, hO6⟩, -⟩ := hn
      exact rg_val (v := .int .i64 mm) (by simp [execOp, go_sem, e0]) rfl ⟨hch, hbx0.keep (by decide) (by decide) hm (Chg.refl NoB _) (fun _ _ x => x), hbx1.keep (by decide) (by decide) hm (Chg.refl NoB _) (fun _ _ x => x)⟩ (Chg.refl _ _) rfl
    · rintro kc m a w5 hkc ⟨hch, hbx0, hbx1⟩ hm hn
      obtain ⟨⟨_, e0, m0, A5, c5, T5, A6, c6, T6, rfl, hT5, hT6, hO5, hO6⟩, -⟩ := hn
      exact rg_val (v := .bool okb) (by simp [execOp, go_sem, e0]) rfl ⟨hch, hbx0.keep (by decide) (by decide) hm (Chg.refl NoB _) (fun _ _ x => x), hbx1.keep (by decide) (by decide) hm (Chg.refl NoB _) (fun _ _ x => x)⟩ (Chg.refl _ _) rfl
    · rintro kc m a w5 hkc ⟨hch, hbx0, hbx1⟩ hm hn
      have hca : Chg NoB w5 (w5.alloc (.cells #[.slice none 0 0] 31)) := (Chg.refl _ _).alloc _
      exact rg_val (v := .pointer (some ⟨w5.heap.size, 0, none⟩)) (w' := w5.alloc (.cells #[.slice none 0 0] 31)) (by simp [execOp, go_sem]) rfl ⟨hch.alloc _, hbx0.alloc (by decide) hm hch.size, hbx1.keep (by decide) (by decide) hm hca (fun _ _ x => x)⟩ (RB2.of hca) trivial
    · rintro kc m a w5 hkc ⟨hch, hbx0, hbx1⟩ hm hn
      have hca : Chg NoB w5 (w5.alloc (.cells #[.int .i64 0, .int .i64 0, .int .i64 0] 46)) := (Chg.refl _ _).alloc _
      exact rg_val (v := .pointer (some ⟨w5.heap.size, 0, none⟩)) (w' := w5.alloc (.cells #[.int .i64 0, .int .i64 0, .int .i64 0] 46)) (by simp [execOp, go_sem]) rfl ⟨hch.alloc _, hbx0.keep (by decide) (by decide) hm hca (fun _ _ x => x), hbx1.alloc (by decide) hm hch.size⟩ (RB2.of hca) trivial
    · rintro kc m a w5 hkc ⟨hch, hbx0, hbx1⟩ hm hn
      obtain ⟨⟨_, e0, m0, A5, c5, T5, rfl, hT5, hO5⟩, -⟩ := hn
      exact rg_val (v := .slice A5 QD.length c5) (by simp [execOp, go_sem, e0]) rfl ⟨hch, hbx0.keep (by decide) (by decide) hm (Chg.refl NoB _) (fun _ _ x => x), hbx1.keep (by decide) (by decide) hm (Chg.refl NoB _) (fun _ _ x => x)⟩ (Chg.refl _ _) ⟨A5, c5, T5, rfl, hT5, hO5⟩
    · rintro kc m a w5 hkc ⟨hch, hbx0, hbx1⟩ hm hn
      obtain ⟨⟨p0, e0, m0, _⟩, ⟨_, e1, m1, A6, c6, T6, rfl, hT6, hO6⟩, -⟩ := hn
      obtain ⟨bx, rfl, hBx, hb⟩ := hbx0.ready hm m0
      have f0 := hb.frozen 0
      have x0 : w5.cell? ⟨bx, 0, none⟩ = some (.slice none 0 0) := (hb.cell _).trans rfl
      have hs : Chg (· = bx) w5 (w5.setCell ⟨bx, 0, none⟩ (.slice A6 QX.length c6)) := ((Chg.refl (· = bx) w5).setCell (p := ⟨bx, 0, none⟩) (.inl rfl) _)
      have hb' : Blk (w5.setCell ⟨bx, 0, none⟩ (.slice A6 QX.length c6)) (bx) 31 #[.slice A6 QX.length c6] := (hb.set_ 0 _)
      exact rg_skip (w' := (w5.setCell ⟨bx, 0, none⟩ (.slice A6 QX.length c6))) (by simp [execOp, go_sem, e0, e1, x0, f0]) rfl ⟨hch.own hs hBx, BoxI.store (by decide) (by decide) m0 hBx m1 hb', hbx1.keepT (T' := 31) (by decide) (by decide) hm hs (fun k hk => by have hk' : k = bx := hk; subst hk'; exact ⟨_, hb⟩) (by decide)⟩ (RB2.box1 hs hBx hb) trivial
    · rintro kc m a w5 hkc ⟨hch, hbx0, hbx1⟩ hm hn
      obtain ⟨⟨p0, e0, m0, _⟩, ⟨_, e1, m1, rfl⟩, -⟩ := hn
      obtain ⟨bx, rfl, hBx, hb⟩ := hbx1.ready hm m0
      have f0 := hb.frozen 0
      have x0 : w5.cell? ⟨bx, 0, none⟩ = some (.int .i64 0) := (hb.cell _).trans rfl
      have f1 := hb.frozen 1
      have x1 : w5.cell? ⟨bx, 1, none⟩ = some (.int .i64 0) := (hb.cell _).trans rfl
      have f2 := hb.frozen 2
      have x2 : w5.cell? ⟨bx, 2, none⟩ = some (.int .i64 0) := (hb.cell _).trans rfl
      have hs : Chg (· = bx) w5 (((w5.setCell ⟨bx, 0, none⟩ (.int .i64 b1)).setCell ⟨bx, 1, none⟩ (.int .i64 b2)).setCell ⟨bx, 2, none⟩ (.int .i64 b3)) := ((((Chg.refl (· = bx) w5).setCell (p := ⟨bx, 0, none⟩) (.inl rfl) _).setCell (p := ⟨bx, 1, none⟩) (.inl rfl) _).setCell (p := ⟨bx, 2, none⟩) (.inl rfl) _)
      have hb' : Blk (((w5.setCell ⟨bx, 0, none⟩ (.int .i64 b1)).setCell ⟨bx, 1, none⟩ (.int .i64 b2)).setCell ⟨bx, 2, none⟩ (.int .i64 b3)) (bx) 46 #[.int .i64 b1, .int .i64 b2, .int .i64 b3] := (((hb.set_ 0 _).set_ 1 _).set_ 2 _)
      exact rg_skip (w' := (((w5.setCell ⟨bx, 0, none⟩ (.int .i64 b1)).setCell ⟨bx, 1, none⟩ (.int .i64 b2)).setCell ⟨bx, 2, none⟩ (.int .i64 b3))) (by simp [execOp, go_sem, e0, e1, x0, x1, x2, f0, f1, f2]) rfl ⟨hch.own hs hBx, hbx0.keepT (T' := 46) (by decide) (by decide) hm hs (fun k hk => by have hk' : k = bx := hk; subst hk'; exact ⟨_, hb⟩) (by decide), BoxI.store (by decide) (by decide) m0 hBx m1 hb'⟩ (RB2.box2 hs hBx hb) trivial
    · rintro kc m a w5 hkc ⟨hch, hbx0, hbx1⟩ hm hn
      obtain ⟨⟨_, e0, m0, rfl⟩, -⟩ := hn
      exact rg_val (v := .int .i64 mm) (by simp [execOp, go_sem, e0]) rfl ⟨hch, hbx0.keep (by decide) (by decide) hm (Chg.refl NoB _) (fun _ _ x => x), hbx1.keep (by decide) (by decide) hm (Chg.refl NoB _) (fun _ _ x => x)⟩ (Chg.refl _ _) rfl
    · rintro kc m a w5 hkc ⟨hch, hbx0, hbx1⟩ hm hn
      obtain ⟨⟨_, e0, m0, rfl⟩, -⟩ := hn
      exact rg_val (v := .bool okb) (by simp [execOp, go_sem, e0]) rfl ⟨hch, hbx0.keep (by decide) (by decide) hm (Chg.refl NoB _) (fun _ _ x => x), hbx1.keep (by decide) (by decide) hm (Chg.refl NoB _) (fun _ _ x => x)⟩ (Chg.refl _ _) rfl
  rintro m w5 ⟨hch, hbx0, hbx1⟩
  simp only [AllVals]
  rintro q0 m0 p0 q1 m1 p1 q2 m2 p2 q3 m3 p3 q4 m4 p4 q5 m5 p5 q6 m6 p6 q7 m7 p7 q8 m8 p8 q9 m9 p9 q10 m10 p10 q11 m11 p11 q12 m12 p12 q13 m13 p13 q14 m14 p14 q15 m15 p15 q16 m16 p16 q17 m17 p17 q18 m18 p18 q19 m19 p19 q20 m20 p20 q21 m21 p21
  obtain ⟨Aw, cw, Tw, rfl, hTw, hOw⟩ := p17
  obtain ⟨Bw, dw, Uw, rfl, hUw, hVw⟩ := p11
  obtain rfl := p12
  obtain rfl := p20
  obtain rfl := p21
  obtain ⟨bxw, rfl, hBw, hbw⟩ := hbx0.done m15 m18 m11
  obtain ⟨byw, rfl, hCw, hcw⟩ := hbx1.done m16 m19 m12
  obtain ⟨w55, rfl⟩ : ∃ q, q = w5 := ⟨_, rfl⟩
  have hbbw : Blk w55 bxw 31 #[.slice Bw QX.length dw] := hbw
  have hccw : Blk w55 byw 46 #[.int .i64 b1, .int .i64 b2, .int .i64 b3] := hcw
  have hchw := hch
  clear hbw hcw hbx0 hbx1 hch m0 m1 m2 m3 m4 m5 m6 m7 m8 m9 m10 m11 m12 m13 m14 m15 m16 m17 m18 m19 m20 m21
  clear p0 p1 p2 p3 p4 p5 p6 p7 p8 p9 p10 p13 p14 p15 p16 p18 p19
  simp only [Act.put, List.setIfInBounds_toArray, List.set_cons_succ, List.set_cons_zero]
  have HBXw := Lib.hid hBw
  have HBYw := Lib.hid hCw
  replace HCH := Lib.hid (HCH.out.trans hchw)
  replace HB_a := Lib.hid (HB_a.out.chg hchw (fun x => x))
  replace z_a_0 := Chg.cell hchw z_a_0 (fun x => x)
  replace HB_b := Lib.hid (HB_b.out.chg hchw (fun x => x))
  replace z_b_0 := Chg.cell hchw z_b_0 (fun x => x)
  replace z_b_1 := Chg.cell hchw z_b_1 (fun x => x)
  replace z_b_2 := Chg.cell hchw z_b_2 (fun x => x)
  replace HD := Lib.hid (HD.out.new hchw)
  replace HX := Lib.hid (HX.out.new hchw)
  have S56 := Lib.hid hchw.size
  have S57 := Lib.hid hbbw.lt
  have S58 := Lib.hid hccw.lt
  have HB_tw := Lib.hid hbbw
  have z_tw_0 : w55.cell? ⟨bxw, 0, none⟩ = some (.slice Bw QX.length dw) := (HB_tw.out.cell _).trans rfl
  have HB_hw := Lib.hid hccw
  have z_hw_0 : w55.cell? ⟨byw, 0, none⟩ = some (.int .i64 b1) := (HB_hw.out.cell _).trans rfl
  have z_hw_1 : w55.cell? ⟨byw, 1, none⟩ = some (.int .i64 b2) := (HB_hw.out.cell _).trans rfl
  have z_hw_2 : w55.cell? ⟨byw, 2, none⟩ = some (.int .i64 b3) := (HB_hw.out.cell _).trans rfl
  clear hbbw hccw hchw hBw hCw
  have hRw := hOw.reads
  rw [hTw.out] at hRw
  have RDw := Lib.hid hRw
  have hSw := hVw.reads
  rw [hUw.out] at hSw
  have RTw := Lib.hid hSw
  have ODw := Lib.hid hOw.1
  have OTw := Lib.hid hVw
  clear hRw hSw hOw hVw
  clear ODw
  clear OTw
  go_wp2_with fail
  refine (toBlockS_any _ A c D _ HD.out HL.out HPP.out).mono ?_
  rintro e w59 ⟨gD1, TD1, rfl, hTD1, hc60, hOD1⟩
  replace HCH := Lib.hid (HCH.out.trans hc60)
  replace HB_a := Lib.hid (HB_a.out.chg hc60 (fun x => x))
  replace z_a_0 := Chg.cell hc60 z_a_0 (fun x => x)
  replace HB_b := Lib.hid (HB_b.out.chg hc60 (fun x => x))
  replace z_b_0 := Chg.cell hc60 z_b_0 (fun x => x)
  replace z_b_1 := Chg.cell hc60 z_b_1 (fun x => x)
  replace z_b_2 := Chg.cell hc60 z_b_2 (fun x => x)
  replace HB_tw := Lib.hid (HB_tw.out.chg hc60 (fun x => x))
  replace z_tw_0 := Chg.cell hc60 z_tw_0 (fun x => x)
  replace HB_hw := Lib.hid (HB_hw.out.chg hc60 (fun x => x))
  replace z_hw_0 := Chg.cell hc60 z_hw_0 (fun x => x)
  replace z_hw_1 := Chg.cell hc60 z_hw_1 (fun x => x)
  replace z_hw_2 := Chg.cell hc60 z_hw_2 (fun x => x)
  replace HD := Lib.hid (HD.out.new hc60)
  replace HX := Lib.hid (HX.out.new hc60)
  replace RDw := Lib.hid (RDw.out.new hc60)
  replace RTw := Lib.hid (RTw.out.new hc60)
  have S61 := Lib.hid hc60.size
  have hRD1 := hOD1.reads
  rw [hTD1] at hRD1
  have RD1 := Lib.hid hRD1
  have OD1 := Lib.hid hOD1
  have HTD1 := Lib.hid hTD1
  clear hRD1 hOD1 hTD1 hc60
  go_wp2_with fail
  refine (toTable_any _ B d X _ HX.out HTX.out).mono ?_
  rintro e w62 ⟨gX1, TX1, rfl, hTX1, hc63, hOX1⟩
  replace HCH := Lib.hid (HCH.out.trans hc63)
  replace HB_a := Lib.hid (HB_a.out.chg hc63 (fun x => x))
  replace z_a_0 := Chg.cell hc63 z_a_0 (fun x => x)
  replace HB_b := Lib.hid (HB_b.out.chg hc63 (fun x => x))
  replace z_b_0 := Chg.cell hc63 z_b_0 (fun x => x)
  replace z_b_1 := Chg.cell hc63 z_b_1 (fun x => x)
  replace z_b_2 := Chg.cell hc63 z_b_2 (fun x => x)
  replace HB_tw := Lib.hid (HB_tw.out.chg hc63 (fun x => x))
  replace z_tw_0 := Chg.cell hc63 z_tw_0 (fun x => x)
  replace HB_hw := Lib.hid (HB_hw.out.chg hc63 (fun x => x))
  replace z_hw_0 := Chg.cell hc63 z_hw_0 (fun x => x)
  replace z_hw_1 := Chg.cell hc63 z_hw_1 (fun x => x)
  replace z_hw_2 := Chg.cell hc63 z_hw_2 (fun x => x)
  replace HD := Lib.hid (HD.out.new hc63)
  replace HX := Lib.hid (HX.out.new hc63)
  replace RDw := Lib.hid (RDw.out.new hc63)
  replace RTw := Lib.hid (RTw.out.new hc63)
  replace RD1 := Lib.hid (RD1.out.new hc63)
  replace OD1 := Lib.hid (OD1.out.new hc63)
  have S64 := Lib.hid hc63.size
  have hRX1 := hOX1.reads
  rw [hTX1] at hRX1
  have RX1 := Lib.hid hRX1
  have OX1 := Lib.hid hOX1
  have HTX1 := Lib.hid hTX1
  clear hRX1 hOX1 hTX1 hc63
  have zz_a_0 := Chg.cell ((Chg.refl NoB w62).alloc (.cells #[.slice (some ⟨gX1, 0, none⟩) X.length X.length] 31)) z_a_0 (fun x => x)
  have zz_b_0 := Chg.cell ((Chg.refl NoB w62).alloc (.cells #[.slice (some ⟨gX1, 0, none⟩) X.length X.length] 31)) z_b_0 (fun x => x)
  have zz_b_1 := Chg.cell ((Chg.refl NoB w62).alloc (.cells #[.slice (some ⟨gX1, 0, none⟩) X.length X.length] 31)) z_b_1 (fun x => x)
  have zz_b_2 := Chg.cell ((Chg.refl NoB w62).alloc (.cells #[.slice (some ⟨gX1, 0, none⟩) X.length X.length] 31)) z_b_2 (fun x => x)
  have zz_tw_0 := Chg.cell ((Chg.refl NoB w62).alloc (.cells #[.slice (some ⟨gX1, 0, none⟩) X.length X.length] 31)) z_tw_0 (fun x => x)
  have zz_hw_0 := Chg.cell ((Chg.refl NoB w62).alloc (.cells #[.slice (some ⟨gX1, 0, none⟩) X.length X.length] 31)) z_hw_0 (fun x => x)
  have zz_hw_1 := Chg.cell ((Chg.refl NoB w62).alloc (.cells #[.slice (some ⟨gX1, 0, none⟩) X.length X.length] 31)) z_hw_1 (fun x => x)
  have zz_hw_2 := Chg.cell ((Chg.refl NoB w62).alloc (.cells #[.slice (some ⟨gX1, 0, none⟩) X.length X.length] 31)) z_hw_2 (fun x => x)
  go_wp2_with fail
  clear zz_a_0 zz_b_0 zz_b_1 zz_b_2 zz_tw_0 zz_hw_0 zz_hw_1 zz_hw_2
  obtain ⟨w65, hw65⟩ : ∃ w65, w62.alloc (.cells #[.slice (some ⟨gX1, 0, none⟩) X.length X.length] 31) = w65 := ⟨_, rfl⟩
  try rw [hw65]
  have q66 : Chg NoB w62 w65 := by rw [← hw65]; exact (Chg.refl _ _).alloc _
  have bq66 : Blk w65 w62.heap.size 31 #[.slice (some ⟨gX1, 0, none⟩) X.length X.length] := by rw [← hw65]; exact Blk.new _ _ _
  have sq66 : w65.heap.size = w62.heap.size + 1 := by rw [← hw65]; exact World.size_alloc ..
  clear hw65
  replace HCH := Lib.hid (HCH.out.trans q66)
  replace HB_a := Lib.hid (HB_a.out.chg q66 (fun x => x))
  replace z_a_0 := Chg.cell q66 z_a_0 (fun x => x)
  replace HB_b := Lib.hid (HB_b.out.chg q66 (fun x => x))
  replace z_b_0 := Chg.cell q66 z_b_0 (fun x => x)
  replace z_b_1 := Chg.cell q66 z_b_1 (fun x => x)
  replace z_b_2 := Chg.cell q66 z_b_2 (fun x => x)
  replace HB_tw := Lib.hid (HB_tw.out.chg q66 (fun x => x))
  replace z_tw_0 := Chg.cell q66 z_tw_0 (fun x => x)
  replace HB_hw := Lib.hid (HB_hw.out.chg q66 (fun x => x))
  replace z_hw_0 := Chg.cell q66 z_hw_0 (fun x => x)
  replace z_hw_1 := Chg.cell q66 z_hw_1 (fun x => x)
  replace z_hw_2 := Chg.cell q66 z_hw_2 (fun x => x)
  replace HD := Lib.hid (HD.out.new q66)
  replace HX := Lib.hid (HX.out.new q66)
  replace RDw := Lib.hid (RDw.out.new q66)
  replace RTw := Lib.hid (RTw.out.new q66)
  replace RD1 := Lib.hid (RD1.out.new q66)
  replace OD1 := Lib.hid (OD1.out.new q66)
  replace RX1 := Lib.hid (RX1.out.new q66)
  replace OX1 := Lib.hid (OX1.out.new q66)
  have S67 := Lib.hid q66.size
  have S68 := Lib.hid sq66
  have HB_x := Lib.hid bq66
  have z_x_0 : w65.cell? ⟨w62.heap.size, 0, none⟩ = some (.slice (some ⟨gX1, 0, none⟩) X.length X.length) := (HB_x.out.cell _).trans rfl
  clear q66 sq66 bq66
  refine wp_region_rg (WInv := fun _ m w5 => Chg (NoB) w65 w5 ∧ BoxI (w65.heap.size) 31 #[.slice none 0 0] 13 16 9 m w5 ∧ BoxI (w65.heap.size) 46 #[.int .i64 0, .int .i64 0, .int .i64 0] 14 17 10 m w5) (R := RB2 (w65.heap.size) 31 46) (Post := PL [fun v w => v = .slice (some ⟨gD1, 0, none⟩) D.length D.length, fun v w => v = .agg #[.slice (some ⟨gX1, 0, none⟩) X.length X.length], fun v w => v = .agg #[.int .i64 a1, .int .i64 a2, .int .i64 a3], fun v w => v = .agg #[.int .i64 a1, .int .i64 a2, .int .i64 a3], fun v w => v = .int .i64 n, fun v w => v = .int .i64 s, fun v w => ∃ A5 : Option Addr, ∃ c5 : Nat, ∃ T5 : List BkO, ∃ A6 : Option Addr, ∃ c6 : Nat, ∃ T6 : List RowO, v = .tuple #[.slice A5 QD.length c5, .agg #[.slice A6 QX.length c6], .agg #[.int .i64 b1, .int .i64 b2, .int .i64 b3], .int .i64 mm, .bool okb] ∧ Hid (bksOf T5 = QD) ∧ Hid (listsOf T6 = QX) ∧ DevQ w65.heap.size w.heap.size w A5 c5 T5 ∧ TabO w65.heap.size w.heap.size w A6 c6 T6, fun v w => ∃ A5 : Option Addr, ∃ c5 : Nat, ∃ T5 : List BkO, ∃ A6 : Option Addr, ∃ c6 : Nat, ∃ T6 : List RowO, v = .tuple #[.slice A5 QD.length c5, .agg #[.slice A6 QX.length c6], .agg #[.int .i64 b1, .int .i64 b2, .int .i64 b3], .int .i64 mm, .bool okb] ∧ Hid (bksOf T5 = QD) ∧ Hid (listsOf T6 = QX) ∧ DevQ w65.heap.size w.heap.size w A5 c5 T5 ∧ TabO w65.heap.size w.heap.size w A6 c6 T6, fun v w => ∃ A5 : Option Addr, ∃ c5 : Nat, ∃ T5 : List BkO, v = .slice A5 QD.length c5 ∧ Hid (bksOf T5 = QD) ∧ DevQ w65.heap.size w.heap.size w A5 c5 T5, fun v w => ∃ A6 : Option Addr, ∃ c6 : Nat, ∃ T6 : List RowO, v = .agg #[.slice A6 QX.length c6] ∧ Hid (listsOf T6 = QX) ∧ TabO w65.heap.size w.heap.size w A6 c6 T6, fun v w => v = .agg #[.int .i64 b1, .int .i64 b2, .int .i64 b3], fun v w => v = .int .i64 mm, fun v w => v = .bool okb, fun _ _ => True, fun _ _ => True, fun v w => ∃ A5 : Option Addr, ∃ c5 : Nat, ∃ T5 : List BkO, v = .slice A5 QD.length c5 ∧ Hid (bksOf T5 = QD) ∧ DevQ w65.heap.size w.heap.size w A5 c5 T5, fun _ _ => True, fun _ _ => True, fun v w => v = .int .i64 mm, fun v w => v = .bool okb]) (by kernel_rfl) (by kernel_rfl) ?_ (pl_stab ⟨(fun _ _ _ h _ => h), (fun _ _ _ h _ => h), (fun _ _ _ h _ => h), (fun _ _ _ h _ => h), (fun _ _ _ h _ => h), (fun _ _ _ h _ => h), (fun _ _ _ ⟨A5, c5, T5, A6, c6, T6, hv, hT5, hT6, hO5, hO6⟩ hR => ⟨A5, c5, T5, A6, c6, T6, hv, hT5, hT6, ((hO5.box2 hR).more (Nat.le_refl _) (Chg.size hR)), ((hO6.box2 hR).more (Nat.le_refl _) (Chg.size hR))⟩), (fun _ _ _ ⟨A5, c5, T5, A6, c6, T6, hv, hT5, hT6, hO5, hO6⟩ hR => ⟨A5, c5, T5, A6, c6, T6, hv, hT5, hT6, ((hO5.box2 hR).more (Nat.le_refl _) (Chg.size hR)), ((hO6.box2 hR).more (Nat.le_refl _) (Chg.size hR))⟩), (fun _ _ _ ⟨A5, c5, T5, hv, hT5, hO5⟩ hR => ⟨A5, c5, T5, hv, hT5, ((hO5.box2 hR).more (Nat.le_refl _) (Chg.size hR))⟩), (fun _ _ _ ⟨A6, c6, T6, hv, hT6, hO6⟩ hR => ⟨A6, c6, T6, hv, hT6, ((hO6.box2 hR).more (Nat.le_refl _) (Chg.size hR))⟩), (fun _ _ _ h _ => h), (fun _ _ _ h _ => h), (fun _ _ _ h _ => h), (fun _ _ _ _ _ => trivial), (fun _ _ _ _ _ => trivial), (fun _ _ _ ⟨A5, c5, T5, hv, hT5, hO5⟩ hR => ⟨A5, c5, T5, hv, hT5, ((hO5.box2 hR).more (Nat.le_refl _) (Chg.size hR))⟩), (fun _ _ _ _ _ => trivial), (fun _ _ _ _ _ => trivial), (fun _ _ _ h _ => h), (fun _ _ _ h _ => h), trivial⟩) ⟨(Chg.refl _ _).drew, BoxI.start, BoxI.start⟩ ?_ ?_
  · exact fun _ _ _ _ h _ _ => h
  · refine ⟨?_, ?_, ?_, ?_, ?_, ?_, ?_, ?_, ?_, ?_, ?_, ?_, ?_, ?_, ?_, ?_, ?_, ?_, ?_, ?_, trivial⟩
    · rintro kc m a w5 hkc ⟨hch, hbx0, hbx1⟩ hm hn
      obtain ⟨h0, -⟩ := hn
      have e0 : a.tmps[17]?.getD undef = .slice (some ⟨gD1, 0, none⟩) D.length D.length := h0
      exact rg_val (v := .slice (some ⟨gD1, 0, none⟩) D.length D.length) (by simp [execOp, go_sem, e0]) rfl ⟨hch, hbx0.keep (by decide) (by decide) hm (Chg.refl NoB _) (fun _ _ x => x), hbx1.keep (by decide) (by decide) hm (Chg.refl NoB _) (fun _ _ x => x)⟩ (Chg.refl _ _) rfl
    · rintro kc m a w5 hkc ⟨hch, hbx0, hbx1⟩ hm hn
      obtain ⟨h0, -⟩ := hn
      have e0 : a.tmps[18]?.getD undef = .pointer (some ⟨w62.heap.size, 0, none⟩) := h0
      have y0 := Chg.cell hch z_x_0 (fun x => x)
      exact rg_val (v := .agg #[.slice (some ⟨gX1, 0, none⟩) X.length X.length]) (by simp [execOp, go_sem, e0, y0]) rfl ⟨hch, hbx0.keep (by decide) (by decide) hm (Chg.refl NoB _) (fun _ _ x => x), hbx1.keep (by decide) (by decide) hm (Chg.refl NoB _) (fun _ _ x => x)⟩ (Chg.refl _ _) rfl
    · rintro kc m a w5 hkc ⟨hch, hbx0, hbx1⟩ hm hn
      obtain ⟨h0, -⟩ := hn
      have e0 : a.tmps[7]?.getD undef = .pointer (some ⟨w.heap.size + 1, 0, none⟩) := h0
      have y0 := Chg.cell hch z_b_0 (fun x => x)
      have y1 := Chg.cell hch z_b_1 (fun x => x)
      have y2 := Chg.cell hch z_b_2 (fun x => x)
      exact rg_val (v := .agg #[.int .i64 a1, .int .i64 a2, .int .i64 a3]) (by simp [execOp, go_sem, e0, y0, y1, y2]) rfl ⟨hch, hbx0.keep (by decide) (by decide) hm (Chg.refl NoB _) (fun _ _ x => x), hbx1.keep (by decide) (by decide) hm (Chg.refl NoB _) (fun _ _ x => x)⟩ (Chg.refl _ _) rfl
    · rintro kc m a w5 hkc ⟨hch, hbx0, hbx1⟩ hm hn
      obtain ⟨⟨_, e0, m0, rfl⟩, -⟩ := hn
      refine rg_call (f := 24) (args := #[.agg #[.int .i64 a1, .int .i64 a2, .int .i64 a3]]) (by simp [go_sem, e0]) rfl ?_
      refine (toHeads_any a1 a2 a3 _).mono ?_
      rintro e' w6 ⟨rfl, hc6⟩
      exact ⟨_, rfl, ⟨hch.trans' hc6 (fun _ x => x.elim), hbx0.keep (by decide) (by decide) hm hc6 (fun _ _ x => x), hbx1.keep (by decide) (by decide) hm hc6 (fun _ _ x => x)⟩, (RB2.of hc6), rfl⟩
    · rintro kc m a w5 hkc ⟨hch, hbx0, hbx1⟩ hm hn
      obtain ⟨h0, -⟩ := hn
      have e0 : a.tmps[3]?.getD undef = .int .i64 n := h0
      exact rg_val (v := .int .i64 n) (by simp [execOp, go_sem, e0]) rfl ⟨hch, hbx0.keep (by decide) (by decide) hm (Chg.refl NoB _) (fun _ _ x => x), hbx1.keep (by decide) (by decide) hm (Chg.refl NoB _) (fun _ _ x => x)⟩ (Chg.refl _ _) rfl
    · rintro kc m a w5 hkc ⟨hch, hbx0, hbx1⟩ hm hn
      obtain ⟨h0, -⟩ := hn
      have e0 : a.tmps[4]?.getD undef = .int .i64 s := h0
      exact rg_val (v := .int .i64 s) (by simp [execOp, go_sem, e0]) rfl ⟨hch, hbx0.keep (by decide) (by decide) hm (Chg.refl NoB _) (fun _ _ x => x), hbx1.keep (by decide) (by decide) hm (Chg.refl NoB _) (fun _ _ x => x)⟩ (Chg.refl _ _) rfl
    · rintro kc m a w5 hkc ⟨hch, hbx0, hbx1⟩ hm hn
      obtain ⟨⟨_, e0, m0, rfl⟩, ⟨_, e1, m1, rfl⟩, ⟨_, e2, m2, rfl⟩, ⟨_, e3, m3, rfl⟩, ⟨_, e4, m4, rfl⟩, -⟩ := hn
      refine rg_call (f := 25) (args := #[.slice (some ⟨gD1, 0, none⟩) D.length D.length, .agg #[.slice (some ⟨gX1, 0, none⟩) X.length X.length], .agg #[.int .i64 a1, .int .i64 a2, .int .i64 a3], .int .i64 n, .int .i64 s]) (by simp [go_sem, e0, e1, e2, e3, e4]) rfl ?_
      refine (HCI.out _ _ _ _ _ _ _ (RD1.out.new hch) (RX1.out.new hch)).mono ?_
      rintro e' w6 ⟨A5, c5, T5, A6, c6, T6, rfl, hT5, hT6, hO5, hO6, hc6⟩
      exact ⟨_, rfl, ⟨hch.trans' hc6 (fun _ x => x.elim), hbx0.keep (by decide) (by decide) hm hc6 (fun _ _ x => x), hbx1.keep (by decide) (by decide) hm hc6 (fun _ _ x => x)⟩, (RB2.of hc6), ⟨A5, c5, T5, A6, c6, T6, rfl, hT5, hT6, (hO5.more hch.size (Nat.le_refl _)), (hO6.more hch.size (Nat.le_refl _))⟩⟩
    · rintro kc m a w5 hkc ⟨hch, hbx0, hbx1⟩ hm hn
      obtain ⟨⟨_, e0, m0, A5, c5, T5, A6, c6, T6, rfl, hT5, hT6, hO5, hO6⟩, -⟩ := hn
      exact rg_val (v := .tuple #[.slice A5 QD.length c5, .agg #[.slice A6 QX.length c6], .agg #[.int .i64 b1, .int .i64 b2, .int .i64 b3], .int .i64 mm, .bool okb]) (by simp [execOp, go_sem, e0]) rfl ⟨hch, hbx0.keep (by decide) (by decide) hm (Chg.refl NoB _) (fun _ _ x => x), hbx1.keep (by decide) (by decide) hm (Chg.refl NoB _) (fun _ _ x => x)⟩ (Chg.refl _ _) ⟨A5, c5, T5, A6, c6, T6, rfl, hT5, hT6, hO5, hO6⟩
    · rintro kc m a w5 hkc ⟨hch, hbx0, hbx1⟩ hm hn
      obtain ⟨⟨_, e0, m0, A5, c5, T5, A6, c6, T6, rfl, hT5, hT6, hO5, hO6⟩, -⟩ := hn
      exact rg_val (v := .slice A5 QD.length c5) (by simp [execOp, go_sem, e0]) rfl ⟨hch, hbx0.keep (by decide) (by decide) hm (Chg.refl NoB _) (fun _ _ x => x), hbx1.keep (by decide) (by decide) hm (Chg.refl NoB _) (fun _ _ x => x)⟩ (Chg.refl _ _) ⟨A5, c5, T5, rfl, hT5, hO5⟩
    · rintro kc m a w5 hkc ⟨hch, hbx0, hbx1⟩ hm hn
      obtain ⟨⟨_, e0, m0, A5, c5, T5, A6, c6, T6, rfl, hT5, hT6, hO5, hO6⟩, -⟩ := hn
      exact rg_val (v := .agg #[.slice A6 QX.length c6]) (by simp [execOp, go_sem, e0]) rfl ⟨hch, hbx0.keep (by decide) (by decide) hm (Chg.refl NoB _) (fun _ _ x => x), hbx1.keep (by decide) (by decide) hm (Chg.refl NoB _) (fun _ _ x => x)⟩ (Chg.refl _ _) ⟨A6, c6, T6, rfl, hT6, hO6⟩
    · rintro kc m a w5 hkc ⟨hch, hbx0, hbx1⟩ hm hn
      obtain ⟨⟨_, e0, m0, A5, c5, T5, A6, c6, T6, rfl, hT5, hT6, hO5, hO6⟩, -⟩ := hn
      exact rg_val (v := .agg #[.int .i64 b1, .int .i64 b2, .int .i64 b3]) (by simp [execOp, go_sem, e0]) rfl ⟨hch, hbx0.keep (by decide) (by decide) hm (Chg.refl NoB _) (fun _ _ x => x), hbx1.keep (by decide) (by decide) hm (Chg.refl NoB _) (fun _ _ x => x)⟩ (Chg.refl _ _) rfl
    · rintro kc m a w5 hkc ⟨hch, hbx0, hbx1⟩ hm hn
      obtain ⟨⟨_, e0, m0, A5, c5, T5, A6, c6, T6, rfl, hT5, hT6, hO5, hO6⟩, -⟩ := hn
      exact rg_val (v := .int .i64 mm) (by simp [execOp, go_sem, e0]) rfl ⟨hch, hbx0.keep (by decide) (by decide) hm (Chg.refl NoB _) (fun _ _ x => x), hbx1.keep (by decide) (by decide) hm (Chg.refl NoB _) (fun _ _ x => x)⟩ (Chg.refl _ _) rfl
    · rintro kc m a w5 hkc ⟨hch, hbx0, hbx1⟩ hm hn
      obtain ⟨⟨_, e0, m0, A5, c5, T5, A6, c6, T6, rfl, hT5, hT6, hO5, hO6⟩, -⟩ := hn
      exact rg_val (v := .bool okb) (by simp [execOp, go_sem, e0]) rfl ⟨hch, hbx0.keep (by decide) (by decide) hm (Chg.refl NoB _) (fun _ _ x => x), hbx1.keep (by decide) (by decide) hm (Chg.refl NoB _) (fun _ _ x => x)⟩ (Chg.refl _ _) rfl
    · rintro kc m a w5 hkc ⟨hch, hbx0, hbx1⟩ hm hn
      have hca : Chg NoB w5 (w5.alloc (.cells #[.slice none 0 0] 31)) := (Chg.refl _ _).alloc _
      exact rg_val (v := .pointer (some ⟨w5.heap.size, 0, none⟩)) (w' := w5.alloc (.cells #[.slice none 0 0] 31)) (by simp [execOp, go_sem]) rfl ⟨hch.alloc _, hbx0.alloc (by decide) hm hch.size, hbx1.keep (by decide) (by decide) hm hca (fun _ _ x => x)⟩ (RB2.of hca) trivial
    · rintro kc m a w5 hkc ⟨hch, hbx0, hbx1⟩ hm hn
      have hca : Chg NoB w5 (w5.alloc (.cells #[.int .i64 0, .int .i64 0, .int .i64 0] 46)) := (Chg.refl _ _).alloc _
      exact rg_val (v := .pointer (some ⟨w5.heap.size, 0, none⟩)) (w' := w5.alloc (.cells #[.int .i64 0, .int .i64 0, .int .i64 0] 46)) (by simp [execOp, go_sem]) rfl ⟨hch.alloc _, hbx0.keep (by decide) (by decide) hm hca (fun _ _ x => x), hbx1.alloc (by decide) hm hch.size⟩ (RB2.of hca) trivial
    · rintro kc m a w5 hkc ⟨hch, hbx0, hbx1⟩ hm hn
      obtain ⟨⟨_, e0, m0, A5, c5, T5, rfl, hT5, hO5⟩, -⟩ := hn
      exact rg_val (v := .slice A5 QD.length c5) (by simp [execOp, go_sem, e0]) rfl ⟨hch, hbx0.keep (by decide) (by decide) hm (Chg.refl NoB _) (fun _ _ x => x), hbx1.keep (by decide) (by decide) hm (Chg.refl NoB _) (fun _ _ x => x)⟩ (Chg.refl _ _) ⟨A5, c5, T5, rfl, hT5, hO5⟩
    · rintro kc m a w5 hkc ⟨hch, hbx0, hbx1⟩ hm hn
      obtain ⟨⟨p0, e0, m0, _⟩, ⟨_, e1, m1, A6, c6, T6, rfl, hT6, hO6⟩, -⟩ := hn
      obtain ⟨bx, rfl, hBx, hb⟩ := hbx0.ready hm m0
      have f0 := hb.frozen 0
      have x0 : w5.cell? ⟨bx, 0, none⟩ = some (.slice none 0 0) := (hb.cell _).trans rfl
      have hs : Chg (· = bx) w5 (w5.setCell ⟨bx, 0, none⟩ (.slice A6 QX.length c6)) := ((Chg.refl (· = bx) w5).setCell (p := ⟨bx, 0, none⟩) (.inl rfl) _)
      have hb' : Blk (w5.setCell ⟨bx, 0, none⟩ (.slice A6 QX.length c6)) (bx) 31 #[.slice A6 QX.length c6] := (hb.set_ 0 _)
      exact rg_skip (w' := (w5.setCell ⟨bx, 0, none⟩ (.slice A6 QX.length c6))) (by simp [execOp, go_sem, e0, e1, x0, f0]) rfl ⟨hch.own hs hBx, BoxI.store (by decide) (by decide) m0 hBx m1 hb', hbx1.keepT (T' := 31) (by decide) (by decide) hm hs (fun k hk => by have hk' : k = bx := hk; subst hk'; exact ⟨_, hb⟩) (by decide)⟩ (RB2.box1 hs hBx hb) trivial
    · rintro kc m a w5 hkc ⟨hch, hbx0, hbx1⟩ hm hn
      obtain ⟨⟨p0, e0, m0, _⟩, ⟨_, e1, m1, rfl⟩, -⟩ := hn
      obtain ⟨bx, rfl, hBx, hb⟩ := hbx1.ready hm m0
      have f0 := hb.frozen 0
      have x0 : w5.cell? ⟨bx, 0, none⟩ = some (.int .i64 0) := (hb.cell _).trans rfl
      have f1 := hb.frozen 1
      have x1 : w5.cell? ⟨bx, 1, none⟩ = some (.int .i64 0) := (hb.cell _).trans rfl
      have f2 := hb.frozen 2
      have x2 : w5.cell? ⟨bx, 2, none⟩ = some (.int .i64 0) := (hb.cell _).trans rfl
      have hs : Chg (· = bx) w5 (((w5.setCell ⟨bx, 0, none⟩ (.int .i64 b1)).setCell ⟨bx, 1, none⟩ (.int .i64 b2)).setCell ⟨bx, 2, none⟩ (.int .i64 b3)) := ((((Chg.refl (· = bx) w5).setCell (p := ⟨bx, 0, none⟩) (.inl rfl) _).setCell (p := ⟨bx, 1, none⟩) (.inl rfl) _).setCell (p := ⟨bx, 2, none⟩) (.inl rfl) _)
      have hb' : Blk (((w5.setCell ⟨bx, 0, none⟩ (.int .i64 b1)).setCell ⟨bx, 1, none⟩ (.int .i64 b2)).setCell ⟨bx, 2, none⟩ (.int .i64 b3)) (bx) 46 #[.int .i64 b1, .int .i64 b2, .int .i64 b3] := (((hb.set_ 0 _).set_ 1 _).set_ 2 _)
      exact rg_skip (w' := (((w5.setCell ⟨bx, 0, none⟩ (.int .i64 b1)).setCell ⟨bx, 1, none⟩ (.int .i64 b2)).setCell ⟨bx, 2, none⟩ (.int .i64 b3))) (by simp [execOp, go_sem, e0, e1, x0, x1, x2, f0, f1, f2]) rfl ⟨hch.own hs hBx, hbx0.keepT (T' := 46) (by decide) (by decide) hm hs (fun k hk => by have hk' : k = bx := hk; subst hk'; exact ⟨_, hb⟩) (by decide), BoxI.store (by decide) (by decide) m0 hBx m1 hb'⟩ (RB2.box2 hs hBx hb) trivial
    · rintro kc m a w5 hkc ⟨hch, hbx0, hbx1⟩ hm hn
      obtain ⟨⟨_, e0, m0, rfl⟩, -⟩ := hn
      exact rg_val (v := .int .i64 mm) (by simp [execOp, go_sem, e0]) rfl ⟨hch, hbx0.keep (by decide) (by decide) hm (Chg.refl NoB _) (fun _ _ x => x), hbx1.keep (by decide) (by decide) hm (Chg.refl NoB _) (fun _ _ x => x)⟩ (Chg.refl _ _) rfl
    · rintro kc m a w5 hkc ⟨hch, hbx0, hbx1⟩ hm hn
      obtain ⟨⟨_, e0, m0, rfl⟩, -⟩ := hn
      exact rg_val (v := .bool okb) (by simp [execOp, go_sem, e0]) rfl ⟨hch, hbx0.keep (by decide) (by decide) hm (Chg.refl NoB _) (fun _ _ x => x), hbx1.keep (by decide) (by decide) hm (Chg.refl NoB _) (fun _ _ x => x)⟩ (Chg.refl _ _) rfl
  rintro m w5 ⟨hch, hbx0, hbx1⟩
  simp only [AllVals]
  rintro q0 m0 p0 q1 m1 p1 q2 m2 p2 q3 m3 p3 q4 m4 p4 q5 m5 p5 q6 m6 p6 q7 m7 p7 q8 m8 p8 q9 m9 p9 q10 m10 p10 q11 m11 p11 q12 m12 p12 q13 m13 p13 q14 m14 p14 q15 m15 p15 q16 m16 p16 q17 m17 p17 q18 m18 p18 q19 m19 p19
  obtain ⟨Ai, ci, Ti, rfl, hTi, hOi⟩ := p15
  obtain ⟨Bi, di, Ui, rfl, hUi, hVi⟩ := p9
  obtain rfl := p10
  obtain rfl := p18
  obtain rfl := p19
  obtain ⟨bxi, rfl, hBi, hbi⟩ := hbx0.done m13 m16 m9
  obtain ⟨byi, rfl, hCi, hci⟩ := hbx1.done m14 m17 m10
  obtain ⟨w69, rfl⟩ : ∃ q, q = w5 := ⟨_, rfl⟩
  have hbbi : Blk w69 bxi 31 #[.slice Bi QX.length di] := hbi
  have hcci : Blk w69 byi 46 #[.int .i64 b1, .int .i64 b2, .int .i64 b3] := hci
  have hchi := hch
  clear hbi hci hbx0 hbx1 hch m0 m1 m2 m3 m4 m5 m6 m7 m8 m9 m10 m11 m12 m13 m14 m15 m16 m17 m18 m19
  clear p0 p1 p2 p3 p4 p5 p6 p7 p8 p11 p12 p13 p14 p16 p17
  simp only [Act.put, List.setIfInBounds_toArray, List.set_cons_succ, List.set_cons_zero]
  have HBXi := Lib.hid hBi
  have HBYi := Lib.hid hCi
  replace HCH := Lib.hid (HCH.out.trans hchi)
  replace HB_a := Lib.hid (HB_a.out.chg hchi (fun x => x))
  replace z_a_0 := Chg.cell hchi z_a_0 (fun x => x)
  replace HB_b := Lib.hid (HB_b.out.chg hchi (fun x => x))
  replace z_b_0 := Chg.cell hchi z_b_0 (fun x => x)
  replace z_b_1 := Chg.cell hchi z_b_1 (fun x => x)
  replace z_b_2 := Chg.cell hchi z_b_2 (fun x => x)
  replace HB_tw := Lib.hid (HB_tw.out.chg hchi (fun x => x))
  replace z_tw_0 := Chg.cell hchi z_tw_0 (fun x => x)
  replace HB_hw := Lib.hid (HB_hw.out.chg hchi (fun x => x))
  replace z_hw_0 := Chg.cell hchi z_hw_0 (fun x => x)
  replace z_hw_1 := Chg.cell hchi z_hw_1 (fun x => x)
  replace z_hw_2 := Chg.cell hchi z_hw_2 (fun x => x)
  replace HB_x := Lib.hid (HB_x.out.chg hchi (fun x => x))
  replace z_x_0 := Chg.cell hchi z_x_0 (fun x => x)
  replace HD := Lib.hid (HD.out.new hchi)
  replace HX := Lib.hid (HX.out.new hchi)
  replace RDw := Lib.hid (RDw.out.new hchi)
  replace RTw := Lib.hid (RTw.out.new hchi)
  replace RD1 := Lib.hid (RD1.out.new hchi)
  replace OD1 := Lib.hid (OD1.out.new hchi)
  replace RX1 := Lib.hid (RX1.out.new hchi)
  replace OX1 := Lib.hid (OX1.out.new hchi)
  have S70 := Lib.hid hchi.size
  have S71 := Lib.hid hbbi.lt
  have S72 := Lib.hid hcci.lt
  have HB_ti := Lib.hid hbbi
  have z_ti_0 : w69.cell? ⟨bxi, 0, none⟩ = some (.slice Bi QX.length di) := (HB_ti.out.cell _).trans rfl
  have HB_hi := Lib.hid hcci
  have z_hi_0 : w69.cell? ⟨byi, 0, none⟩ = some (.int .i64 b1) := (HB_hi.out.cell _).trans rfl
  have z_hi_1 : w69.cell? ⟨byi, 1, none⟩ = some (.int .i64 b2) := (HB_hi.out.cell _).trans rfl
  have z_hi_2 : w69.cell? ⟨byi, 2, none⟩ = some (.int .i64 b3) := (HB_hi.out.cell _).trans rfl
  clear hbbi hcci hchi hBi hCi
  have hRi := hOi.reads
  rw [hTi.out] at hRi
  have RDi := Lib.hid hRi
  have hSi := hVi.reads
  rw [hUi.out] at hSi
  have RTi := Lib.hid hSi
  have ODi := Lib.hid hOi.1
  have OTi := Lib.hid hVi
  clear hRi hSi hOi hVi
  go_wp2_with fail
  refine (eqBlockS_t _ _ _ _ _ _ QD _ RDi.out RDw.out HQS.out).mono ?_
  rintro e w73 ⟨rfl, hc74⟩
  replace HCH := Lib.hid (HCH.out.trans hc74)
  replace HB_a := Lib.hid (HB_a.out.chg hc74 (fun x => x))
  replace z_a_0 := Chg.cell hc74 z_a_0 (fun x => x)
  replace HB_b := Lib.hid (HB_b.out.chg hc74 (fun x => x))
  replace z_b_0 := Chg.cell hc74 z_b_0 (fun x => x)
  replace z_b_1 := Chg.cell hc74 z_b_1 (fun x => x)
  replace z_b_2 := Chg.cell hc74 z_b_2 (fun x => x)
  replace HB_tw := Lib.hid (HB_tw.out.chg hc74 (fun x => x))
  replace z_tw_0 := Chg.cell hc74 z_tw_0 (fun x => x)
  replace HB_hw := Lib.hid (HB_hw.out.chg hc74 (fun x => x))
  replace z_hw_0 := Chg.cell hc74 z_hw_0 (fun x => x)
  replace z_hw_1 := Chg.cell hc74 z_hw_1 (fun x => x)
  replace z_hw_2 := Chg.cell hc74 z_hw_2 (fun x => x)
  replace HB_x := Lib.hid (HB_x.out.chg hc74 (fun x => x))
  replace z_x_0 := Chg.cell hc74 z_x_0 (fun x => x)
  replace HB_ti := Lib.hid (HB_ti.out.chg hc74 (fun x => x))
  replace z_ti_0 := Chg.cell hc74 z_ti_0 (fun x => x)
  replace HB_hi := Lib.hid (HB_hi.out.chg hc74 (fun x => x))
  replace z_hi_0 := Chg.cell hc74 z_hi_0 (fun x => x)
  replace z_hi_1 := Chg.cell hc74 z_hi_1 (fun x => x)
  replace z_hi_2 := Chg.cell hc74 z_hi_2 (fun x => x)
  replace HD := Lib.hid (HD.out.new hc74)
  replace HX := Lib.hid (HX.out.new hc74)
  replace RDw := Lib.hid (RDw.out.new hc74)
  replace RTw := Lib.hid (RTw.out.new hc74)
  replace RD1 := Lib.hid (RD1.out.new hc74)
  replace OD1 := Lib.hid (OD1.out.new hc74)
  replace RX1 := Lib.hid (RX1.out.new hc74)
  replace OX1 := Lib.hid (OX1.out.new hc74)
  replace RDi := Lib.hid (RDi.out.new hc74)
  replace RTi := Lib.hid (RTi.out.new hc74)
  replace ODi := Lib.hid (ODi.out.new hc74)
  replace OTi := Lib.hid (OTi.out.new hc74)
  have S75 := Lib.hid hc74.size
  clear hc74
  go_wp2_with fail
  refine (eqTable_t _ _ _ _ _ _ QX _ RTi.out RTw.out HQT.out.1 HQT.out.2).mono ?_
  rintro e w76 ⟨rfl, hc77⟩
  replace HCH := Lib.hid (HCH.out.trans hc77)
  replace HB_a := Lib.hid (HB_a.out.chg hc77 (fun x => x))
  replace z_a_0 := Chg.cell hc77 z_a_0 (fun x => x)
  replace HB_b := Lib.hid (HB_b.out.chg hc77 (fun x => x))
  replace z_b_0 := Chg.cell hc77 z_b_0 (fun x => x)
  replace z_b_1 := Chg.cell hc77 z_b_1 (fun x => x)
  replace z_b_2 := Chg.cell hc77 z_b_2 (fun x => x)
  replace HB_tw := Lib.hid (HB_tw.out.chg hc77 (fun x => x))
  replace z_tw_0 := Chg.cell hc77 z_tw_0 (fun x => x)
  replace HB_hw := Lib.hid (HB_hw.out.chg hc77 (fun x => x))
  replace z_hw_0 := Chg.cell hc77 z_hw_0 (fun x => x)
  replace z_hw_1 := Chg.cell hc77 z_hw_1 (fun x => x)
  replace z_hw_2 := Chg.cell hc77 z_hw_2 (fun x => x)
  replace HB_x := Lib.hid (HB_x.out.chg hc77 (fun x => x))
  replace z_x_0 := Chg.cell hc77 z_x_0 (fun x => x)
  replace HB_ti := Lib.hid (HB_ti.out.chg hc77 (fun x => x))
  replace z_ti_0 := Chg.cell hc77 z_ti_0 (fun x => x)
  replace HB_hi := Lib.hid (HB_hi.out.chg hc77 (fun x => x))
  replace z_hi_0 := Chg.cell hc77 z_hi_0 (fun x => x)
  replace z_hi_1 := Chg.cell hc77 z_hi_1 (fun x => x)
  replace z_hi_2 := Chg.cell hc77 z_hi_2 (fun x => x)
  replace HD := Lib.hid (HD.out.new hc77)
  replace HX := Lib.hid (HX.out.new hc77)
  replace RDw := Lib.hid (RDw.out.new hc77)
  replace RTw := Lib.hid (RTw.out.new hc77)
  replace RD1 := Lib.hid (RD1.out.new hc77)
  replace OD1 := Lib.hid (OD1.out.new hc77)
  replace RX1 := Lib.hid (RX1.out.new hc77)
  replace OX1 := Lib.hid (OX1.out.new hc77)
  replace RDi := Lib.hid (RDi.out.new hc77)
  replace RTi := Lib.hid (RTi.out.new hc77)
  replace ODi := Lib.hid (ODi.out.new hc77)
  replace OTi := Lib.hid (OTi.out.new hc77)
  have S78 := Lib.hid hc77.size
  clear hc77
  go_wp2_with fail
  refine (eqHeads_t b1 b2 b3 _).mono ?_
  rintro e w79 ⟨rfl, hc80⟩
  replace HCH := Lib.hid (HCH.out.trans hc80)
  replace HB_a := Lib.hid (HB_a.out.chg hc80 (fun x => x))
  replace z_a_0 := Chg.cell hc80 z_a_0 (fun x => x)
  replace HB_b := Lib.hid (HB_b.out.chg hc80 (fun x => x))
  replace z_b_0 := Chg.cell hc80 z_b_0 (fun x => x)
  replace z_b_1 := Chg.cell hc80 z_b_1 (fun x => x)
  replace z_b_2 := Chg.cell hc80 z_b_2 (fun x => x)
  replace HB_tw := Lib.hid (HB_tw.out.chg hc80 (fun x => x))
  replace z_tw_0 := Chg.cell hc80 z_tw_0 (fun x => x)
  replace HB_hw := Lib.hid (HB_hw.out.chg hc80 (fun x => x))
  replace z_hw_0 := Chg.cell hc80 z_hw_0 (fun x => x)
  replace z_hw_1 := Chg.cell hc80 z_hw_1 (fun x => x)
  replace z_hw_2 := Chg.cell hc80 z_hw_2 (fun x => x)
  replace HB_x := Lib.hid (HB_x.out.chg hc80 (fun x => x))
  replace z_x_0 := Chg.cell hc80 z_x_0 (fun x => x)
  replace HB_ti := Lib.hid (HB_ti.out.chg hc80 (fun x => x))
  replace z_ti_0 := Chg.cell hc80 z_ti_0 (fun x => x)
  replace HB_hi := Lib.hid (HB_hi.out.chg hc80 (fun x => x))
  replace z_hi_0 := Chg.cell hc80 z_hi_0 (fun x => x)
  replace z_hi_1 := Chg.cell hc80 z_hi_1 (fun x => x)
  replace z_hi_2 := Chg.cell hc80 z_hi_2 (fun x => x)
  replace HD := Lib.hid (HD.out.new hc80)
  replace HX := Lib.hid (HX.out.new hc80)
  replace RDw := Lib.hid (RDw.out.new hc80)
  replace RTw := Lib.hid (RTw.out.new hc80)
  replace RD1 := Lib.hid (RD1.out.new hc80)
  replace OD1 := Lib.hid (OD1.out.new hc80)
  replace RX1 := Lib.hid (RX1.out.new hc80)
  replace OX1 := Lib.hid (OX1.out.new hc80)
  replace RDi := Lib.hid (RDi.out.new hc80)
  replace RTi := Lib.hid (RTi.out.new hc80)
  replace ODi := Lib.hid (ODi.out.new hc80)
  replace OTi := Lib.hid (OTi.out.new hc80)
  have S81 := Lib.hid hc80.size
  clear hc80
  go_wp2_with fail
  refine (toBlockS_any _ A c D _ HD.out HL.out HPP.out).mono ?_
  rintro e w82 ⟨gD2, TD2, rfl, hTD2, hc83, hOD2⟩
  replace HCH := Lib.hid (HCH.out.trans hc83)
  replace HB_a := Lib.hid (HB_a.out.chg hc83 (fun x => x))
  replace z_a_0 := Chg.cell hc83 z_a_0 (fun x => x)
  replace HB_b := Lib.hid (HB_b.out.chg hc83 (fun x => x))
  replace z_b_0 := Chg.cell hc83 z_b_0 (fun x => x)
  replace z_b_1 := Chg.cell hc83 z_b_1 (fun x => x)
  replace z_b_2 := Chg.cell hc83 z_b_2 (fun x => x)
  replace HB_tw := Lib.hid (HB_tw.out.chg hc83 (fun x => x))
  replace z_tw_0 := Chg.cell hc83 z_tw_0 (fun x => x)
  replace HB_hw := Lib.hid (HB_hw.out.chg hc83 (fun x => x))
  replace z_hw_0 := Chg.cell hc83 z_hw_0 (fun x => x)
  replace z_hw_1 := Chg.cell hc83 z_hw_1 (fun x => x)
  replace z_hw_2 := Chg.cell hc83 z_hw_2 (fun x => x)
  replace HB_x := Lib.hid (HB_x.out.chg hc83 (fun x => x))
  replace z_x_0 := Chg.cell hc83 z_x_0 (fun x => x)
  replace HB_ti := Lib.hid (HB_ti.out.chg hc83 (fun x => x))
  replace z_ti_0 := Chg.cell hc83 z_ti_0 (fun x => x)
  replace HB_hi := Lib.hid (HB_hi.out.chg hc83 (fun x => x))
  replace z_hi_0 := Chg.cell hc83 z_hi_0 (fun x => x)
  replace z_hi_1 := Chg.cell hc83 z_hi_1 (fun x => x)
  replace z_hi_2 := Chg.cell hc83 z_hi_2 (fun x => x)
  replace HD := Lib.hid (HD.out.new hc83)
  replace HX := Lib.hid (HX.out.new hc83)
  replace RDw := Lib.hid (RDw.out.new hc83)
  replace RTw := Lib.hid (RTw.out.new hc83)
  replace RD1 := Lib.hid (RD1.out.new hc83)
  replace OD1 := Lib.hid (OD1.out.new hc83)
  replace RX1 := Lib.hid (RX1.out.new hc83)
  replace OX1 := Lib.hid (OX1.out.new hc83)
  replace RDi := Lib.hid (RDi.out.new hc83)
  replace RTi := Lib.hid (RTi.out.new hc83)
  replace ODi := Lib.hid (ODi.out.new hc83)
  replace OTi := Lib.hid (OTi.out.new hc83)
  have S84 := Lib.hid hc83.size
  have hRD2 := hOD2.reads
  rw [hTD2] at hRD2
  have RD2 := Lib.hid hRD2
  have OD2 := Lib.hid hOD2
  have HTD2 := Lib.hid hTD2
  clear hRD2 hOD2 hTD2 hc83
  go_wp2_with fail
  refine (eqBlockS_t _ _ _ _ _ _ D _ RD1.out RD2.out HS.out).mono ?_
  rintro e w85 ⟨rfl, hc86⟩
  replace HCH := Lib.hid (HCH.out.trans hc86)
  replace HB_a := Lib.hid (HB_a.out.chg hc86 (fun x => x))
  replace z_a_0 := Chg.cell hc86 z_a_0 (fun x => x)
  replace HB_b := Lib.hid (HB_b.out.chg hc86 (fun x => x))
  replace z_b_0 := Chg.cell hc86 z_b_0 (fun x => x)
  replace z_b_1 := Chg.cell hc86 z_b_1 (fun x => x)
  replace z_b_2 := Chg.cell hc86 z_b_2 (fun x => x)
  replace HB_tw := Lib.hid (HB_tw.out.chg hc86 (fun x => x))
  replace z_tw_0 := Chg.cell hc86 z_tw_0 (fun x => x)
  replace HB_hw := Lib.hid (HB_hw.out.chg hc86 (fun x => x))
  replace z_hw_0 := Chg.cell hc86 z_hw_0 (fun x => x)
  replace z_hw_1 := Chg.cell hc86 z_hw_1 (fun x => x)
  replace z_hw_2 := Chg.cell hc86 z_hw_2 (fun x => x)
  replace HB_x := Lib.hid (HB_x.out.chg hc86 (fun x => x))
  replace z_x_0 := Chg.cell hc86 z_x_0 (fun x => x)
  replace HB_ti := Lib.hid (HB_ti.out.chg hc86 (fun x => x))
  replace z_ti_0 := Chg.cell hc86 z_ti_0 (fun x => x)
  replace HB_hi := Lib.hid (HB_hi.out.chg hc86 (fun x => x))
  replace z_hi_0 := Chg.cell hc86 z_hi_0 (fun x => x)
  replace z_hi_1 := Chg.cell hc86 z_hi_1 (fun x => x)
  replace z_hi_2 := Chg.cell hc86 z_hi_2 (fun x => x)
  replace HD := Lib.hid (HD.out.new hc86)
  replace HX := Lib.hid (HX.out.new hc86)
  replace RDw := Lib.hid (RDw.out.new hc86)
  replace RTw := Lib.hid (RTw.out.new hc86)
  replace RD1 := Lib.hid (RD1.out.new hc86)
  replace OD1 := Lib.hid (OD1.out.new hc86)
  replace RX1 := Lib.hid (RX1.out.new hc86)
  replace OX1 := Lib.hid (OX1.out.new hc86)
  replace RDi := Lib.hid (RDi.out.new hc86)
  replace RTi := Lib.hid (RTi.out.new hc86)
  replace ODi := Lib.hid (ODi.out.new hc86)
  replace OTi := Lib.hid (OTi.out.new hc86)
  replace RD2 := Lib.hid (RD2.out.new hc86)
  replace OD2 := Lib.hid (OD2.out.new hc86)
  have S87 := Lib.hid hc86.size
  clear hc86
  clear RD2
  clear OD2
  go_wp2_with fail
  go_region_held3 (fun w' => w'.cell? ⟨w.heap.size, 0, none⟩ = some (.slice B X.length d) ∧ w'.cell? ⟨w62.heap.size, 0, none⟩ = some (.slice (some ⟨gX1, 0, none⟩) X.length X.length))
    (first | go_keep | exact ⟨hcc.cell (by assumption) (fun x => x), hcc.cell (by assumption) (fun x => x)⟩ | exact ⟨(HK.out.trans hcc).cell (by assumption) (fun x => x), (HK.out.trans hcc).cell (by assumption) (fun x => x)⟩)
    (first
      | (go_at_call 23; refine (toTable_any _ B d X _ (HX.out.new (Chg.refl NoB w85).drew) HTX.out).mono ?_; rintro e' wt ⟨gt, Tt, rfl, hTt, hcc, hOt⟩; have HK := Lib.hid hcc; have HRT := Lib.hid (show TabR _ wt _ X from hTt ▸ hOt.reads))
      | (go_at_call 27; refine (eqTable_t _ _ _ _ _ _ X _ ((RX1.out.new (Chg.refl NoB w85).drew).new HK.out) HRT.out HXF.out.1 HXF.out.2).mono ?_; rintro e' we ⟨rfl, hcc⟩))
  have hrg : Chg NoB w85 we := ((Chg.refl NoB w85).drew.trans HK.out).trans hcc
  replace HCH := Lib.hid (HCH.out.trans hrg)
  replace HB_a := Lib.hid (HB_a.out.chg hrg (fun x => x))
  replace z_a_0 := Chg.cell hrg z_a_0 (fun x => x)
  replace HB_b := Lib.hid (HB_b.out.chg hrg (fun x => x))
  replace z_b_0 := Chg.cell hrg z_b_0 (fun x => x)
  replace z_b_1 := Chg.cell hrg z_b_1 (fun x => x)
  replace z_b_2 := Chg.cell hrg z_b_2 (fun x => x)
  replace HB_tw := Lib.hid (HB_tw.out.chg hrg (fun x => x))
  replace z_tw_0 := Chg.cell hrg z_tw_0 (fun x => x)
  replace HB_hw := Lib.hid (HB_hw.out.chg hrg (fun x => x))
  replace z_hw_0 := Chg.cell hrg z_hw_0 (fun x => x)
  replace z_hw_1 := Chg.cell hrg z_hw_1 (fun x => x)
  replace z_hw_2 := Chg.cell hrg z_hw_2 (fun x => x)
  replace HB_x := Lib.hid (HB_x.out.chg hrg (fun x => x))
  replace z_x_0 := Chg.cell hrg z_x_0 (fun x => x)
  replace HB_ti := Lib.hid (HB_ti.out.chg hrg (fun x => x))
  replace z_ti_0 := Chg.cell hrg z_ti_0 (fun x => x)
  replace HB_hi := Lib.hid (HB_hi.out.chg hrg (fun x => x))
  replace z_hi_0 := Chg.cell hrg z_hi_0 (fun x => x)
  replace z_hi_1 := Chg.cell hrg z_hi_1 (fun x => x)
  replace z_hi_2 := Chg.cell hrg z_hi_2 (fun x => x)
  replace HD := Lib.hid (HD.out.new hrg)
  replace HX := Lib.hid (HX.out.new hrg)
  replace RDw := Lib.hid (RDw.out.new hrg)
  replace RTw := Lib.hid (RTw.out.new hrg)
  replace RD1 := Lib.hid (RD1.out.new hrg)
  replace OD1 := Lib.hid (OD1.out.new hrg)
  replace RX1 := Lib.hid (RX1.out.new hrg)
  replace OX1 := Lib.hid (OX1.out.new hrg)
  replace RDi := Lib.hid (RDi.out.new hrg)
  replace RTi := Lib.hid (RTi.out.new hrg)
  replace ODi := Lib.hid (ODi.out.new hrg)
  replace OTi := Lib.hid (OTi.out.new hrg)
  have S88 := Lib.hid hrg.size
  clear hrg hcc HK HRT hTt hOt
  have HTL := Lib.hid (show TD1.length = D.length by rw [← HTD1.out, bksOf_length])
  have hmkd := markBlockS_any _ _ (some ⟨gD1, 0, none⟩) D.length TD1 1 we OD1.out (rows_fit HTD1.out HSZ.out) (by rw [HTL.out]; exact HL.out) (by omega) (by have := endT_sz TD1 1; rw [HTD1.out] at this; have := HSZ.out; omega)
  rw [HTL.out] at hmkd
  have HMKD := Lib.hid hmkd
  clear hmkd
  go_wp2_with fail
  refine (HMKD.out).mono ?_
  rintro e w89 ⟨rfl, hc90, -⟩
  clear RD1
  replace HCH := Lib.hid (HCH.out.trans' hc90 (fun i hi => .inr (by have := S43.out; have := S44.out; have := S47.out; have := S48.out; have := S51.out; have := S54.out; have := S56.out; have := HBXw.out; have := HBYw.out; have := S57.out; have := S58.out; have := S61.out; have := S64.out; have := S67.out; have := S68.out; have := S70.out; have := HBXi.out; have := HBYi.out; have := S71.out; have := S72.out; have := S75.out; have := S78.out; have := S81.out; have := S84.out; have := S87.out; have := S88.out; omega)))
  replace HB_a := Lib.hid (HB_a.out.chg hc90 (by have := S43.out; have := S44.out; have := S47.out; have := S48.out; have := S51.out; have := S54.out; have := S56.out; have := HBXw.out; have := HBYw.out; have := S57.out; have := S58.out; have := S61.out; have := S64.out; have := S67.out; have := S68.out; have := S70.out; have := HBXi.out; have := HBYi.out; have := S71.out; have := S72.out; have := S75.out; have := S78.out; have := S81.out; have := S84.out; have := S87.out; have := S88.out; omega))
  replace z_a_0 := Chg.cell hc90 z_a_0 (by simp only; have := S43.out; have := S44.out; have := S47.out; have := S48.out; have := S51.out; have := S54.out; have := S56.out; have := HBXw.out; have := HBYw.out; have := S57.out; have := S58.out; have := S61.out; have := S64.out; have := S67.out; have := S68.out; have := S70.out; have := HBXi.out; have := HBYi.out; have := S71.out; have := S72.out; have := S75.out; have := S78.out; have := S81.out; have := S84.out; have := S87.out; have := S88.out; omega)
  replace HB_b := Lib.hid (HB_b.out.chg hc90 (by have := S43.out; have := S44.out; have := S47.out; have := S48.out; have := S51.out; have := S54.out; have := S56.out; have := HBXw.out; have := HBYw.out; have := S57.out; have := S58.out; have := S61.out; have := S64.out; have := S67.out; have := S68.out; have := S70.out; have := HBXi.out; have := HBYi.out; have := S71.out; have := S72.out; have := S75.out; have := S78.out; have := S81.out; have := S84.out; have := S87.out; have := S88.out; omega))
  replace z_b_0 := Chg.cell hc90 z_b_0 (by simp only; have := S43.out; have := S44.out; have := S47.out; have := S48.out; have := S51.out; have := S54.out; have := S56.out; have := HBXw.out; have := HBYw.out; have := S57.out; have := S58.out; have := S61.out; have := S64.out; have := S67.out; have := S68.out; have := S70.out; have := HBXi.out; have := HBYi.out; have := S71.out; have := S72.out; have := S75.out; have := S78.out; have := S81.out; have := S84.out; have := S87.out; have := S88.out; omega)
  replace z_b_1 := Chg.cell hc90 z_b_1 (by simp only; have := S43.out; have := S44.out; have := S47.out; have := S48.out; have := S51.out; have := S54.out; have := S56.out; have := HBXw.out; have := HBYw.out; have := S57.out; have := S58.out; have := S61.out; have := S64.out; have := S67.out; have := S68.out; have := S70.out; have := HBXi.out; have := HBYi.out; have := S71.out; have := S72.out; have := S75.out; have := S78.out; have := S81.out; have := S84.out; have := S87.out; have := S88.out; omega)
  replace z_b_2 := Chg.cell hc90 z_b_2 (by simp only; have := S43.out; have := S44.out; have := S47.out; have := S48.out; have := S51.out; have := S54.out; have := S56.out; have := HBXw.out; have := HBYw.out; have := S57.out; have := S58.out; have := S61.out; have := S64.out; have := S67.out; have := S68.out; have := S70.out; have := HBXi.out; have := HBYi.out; have := S71.out; have := S72.out; have := S75.out; have := S78.out; have := S81.out; have := S84.out; have := S87.out; have := S88.out; omega)
  replace HB_tw := Lib.hid (HB_tw.out.chg hc90 (by have := S43.out; have := S44.out; have := S47.out; have := S48.out; have := S51.out; have := S54.out; have := S56.out; have := HBXw.out; have := HBYw.out; have := S57.out; have := S58.out; have := S61.out; have := S64.out; have := S67.out; have := S68.out; have := S70.out; have := HBXi.out; have := HBYi.out; have := S71.out; have := S72.out; have := S75.out; have := S78.out; have := S81.out; have := S84.out; have := S87.out; have := S88.out; omega))
  replace z_tw_0 := Chg.cell hc90 z_tw_0 (by simp only; have := S43.out; have := S44.out; have := S47.out; have := S48.out; have := S51.out; have := S54.out; have := S56.out; have := HBXw.out; have := HBYw.out; have := S57.out; have := S58.out; have := S61.out; have := S64.out; have := S67.out; have := S68.out; have := S70.out; have := HBXi.out; have := HBYi.out; have := S71.out; have := S72.out; have := S75.out; have := S78.out; have := S81.out; have := S84.out; have := S87.out; have := S88.out; omega)
  replace HB_hw := Lib.hid (HB_hw.out.chg hc90 (by have := S43.out; have := S44.out; have := S47.out; have := S48.out; have := S51.out; have := S54.out; have := S56.out; have := HBXw.out; have := HBYw.out; have := S57.out; have := S58.out; have := S61.out; have := S64.out; have := S67.out; have := S68.out; have := S70.out; have := HBXi.out; have := HBYi.out; have := S71.out; have := S72.out; have := S75.out; have := S78.out; have := S81.out; have := S84.out; have := S87.out; have := S88.out; omega))
  replace z_hw_0 := Chg.cell hc90 z_hw_0 (by simp only; have := S43.out; have := S44.out; have := S47.out; have := S48.out; have := S51.out; have := S54.out; have := S56.out; have := HBXw.out; have := HBYw.out; have := S57.out; have := S58.out; have := S61.out; have := S64.out; have := S67.out; have := S68.out; have := S70.out; have := HBXi.out; have := HBYi.out; have := S71.out; have := S72.out; have := S75.out; have := S78.out; have := S81.out; have := S84.out; have := S87.out; have := S88.out; omega)
  replace z_hw_1 := Chg.cell hc90 z_hw_1 (by simp only; have := S43.out; have := S44.out; have := S47.out; have := S48.out; have := S51.out; have := S54.out; have := S56.out; have := HBXw.out; have := HBYw.out; have := S57.out; have := S58.out; have := S61.out; have := S64.out; have := S67.out; have := S68.out; have := S70.out; have := HBXi.out; have := HBYi.out; have := S71.out; have := S72.out; have := S75.out; have := S78.out; have := S81.out; have := S84.out; have := S87.out; have := S88.out; omega)
  replace z_hw_2 := Chg.cell hc90 z_hw_2 (by simp only; have := S43.out; have := S44.out; have := S47.out; have := S48.out; have := S51.out; have := S54.out; have := S56.out; have := HBXw.out; have := HBYw.out; have := S57.out; have := S58.out; have := S61.out; have := S64.out; have := S67.out; have := S68.out; have := S70.out; have := HBXi.out; have := HBYi.out; have := S71.out; have := S72.out; have := S75.out; have := S78.out; have := S81.out; have := S84.out; have := S87.out; have := S88.out; omega)
  replace HB_x := Lib.hid (HB_x.out.chg hc90 (by have := S43.out; have := S44.out; have := S47.out; have := S48.out; have := S51.out; have := S54.out; have := S56.out; have := HBXw.out; have := HBYw.out; have := S57.out; have := S58.out; have := S61.out; have := S64.out; have := S67.out; have := S68.out; have := S70.out; have := HBXi.out; have := HBYi.out; have := S71.out; have := S72.out; have := S75.out; have := S78.out; have := S81.out; have := S84.out; have := S87.out; have := S88.out; omega))
  replace z_x_0 := Chg.cell hc90 z_x_0 (by simp only; have := S43.out; have := S44.out; have := S47.out; have := S48.out; have := S51.out; have := S54.out; have := S56.out; have := HBXw.out; have := HBYw.out; have := S57.out; have := S58.out; have := S61.out; have := S64.out; have := S67.out; have := S68.out; have := S70.out; have := HBXi.out; have := HBYi.out; have := S71.out; have := S72.out; have := S75.out; have := S78.out; have := S81.out; have := S84.out; have := S87.out; have := S88.out; omega)
  replace HB_ti := Lib.hid (HB_ti.out.chg hc90 (by have := S43.out; have := S44.out; have := S47.out; have := S48.out; have := S51.out; have := S54.out; have := S56.out; have := HBXw.out; have := HBYw.out; have := S57.out; have := S58.out; have := S61.out; have := S64.out; have := S67.out; have := S68.out; have := S70.out; have := HBXi.out; have := HBYi.out; have := S71.out; have := S72.out; have := S75.out; have := S78.out; have := S81.out; have := S84.out; have := S87.out; have := S88.out; omega))
  replace z_ti_0 := Chg.cell hc90 z_ti_0 (by simp only; have := S43.out; have := S44.out; have := S47.out; have := S48.out; have := S51.out; have := S54.out; have := S56.out; have := HBXw.out; have := HBYw.out; have := S57.out; have := S58.out; have := S61.out; have := S64.out; have := S67.out; have := S68.out; have := S70.out; have := HBXi.out; have := HBYi.out; have := S71.out; have := S72.out; have := S75.out; have := S78.out; have := S81.out; have := S84.out; have := S87.out; have := S88.out; omega)
  replace HB_hi := Lib.hid (HB_hi.out.chg hc90 (by have := S43.out; have := S44.out; have := S47.out; have := S48.out; have := S51.out; have := S54.out; have := S56.out; have := HBXw.out; have := HBYw.out; have := S57.out; have := S58.out; have := S61.out; have := S64.out; have := S67.out; have := S68.out; have := S70.out; have := HBXi.out; have := HBYi.out; have := S71.out; have := S72.out; have := S75.out; have := S78.out; have := S81.out; have := S84.out; have := S87.out; have := S88.out; omega))
  replace z_hi_0 := Chg.cell hc90 z_hi_0 (by simp only; have := S43.out; have := S44.out; have := S47.out; have := S48.out; have := S51.out; have := S54.out; have := S56.out; have := HBXw.out; have := HBYw.out; have := S57.out; have := S58.out; have := S61.out; have := S64.out; have := S67.out; have := S68.out; have := S70.out; have := HBXi.out; have := HBYi.out; have := S71.out; have := S72.out; have := S75.out; have := S78.out; have := S81.out; have := S84.out; have := S87.out; have := S88.out; omega)
  replace z_hi_1 := Chg.cell hc90 z_hi_1 (by simp only; have := S43.out; have := S44.out; have := S47.out; have := S48.out; have := S51.out; have := S54.out; have := S56.out; have := HBXw.out; have := HBYw.out; have := S57.out; have := S58.out; have := S61.out; have := S64.out; have := S67.out; have := S68.out; have := S70.out; have := HBXi.out; have := HBYi.out; have := S71.out; have := S72.out; have := S75.out; have := S78.out; have := S81.out; have := S84.out; have := S87.out; have := S88.out; omega)
  replace z_hi_2 := Chg.cell hc90 z_hi_2 (by simp only; have := S43.out; have := S44.out; have := S47.out; have := S48.out; have := S51.out; have := S54.out; have := S56.out; have := HBXw.out; have := HBYw.out; have := S57.out; have := S58.out; have := S61.out; have := S64.out; have := S67.out; have := S68.out; have := S70.out; have := HBXi.out; have := HBYi.out; have := S71.out; have := S72.out; have := S75.out; have := S78.out; have := S81.out; have := S84.out; have := S87.out; have := S88.out; omega)
  replace HD := Lib.hid (HD.out.chg hc90 (fun i h1 h2 => by have := S43.out; have := S44.out; have := S47.out; have := S48.out; have := S51.out; have := S54.out; have := S56.out; have := HBXw.out; have := HBYw.out; have := S57.out; have := S58.out; have := S61.out; have := S64.out; have := S67.out; have := S68.out; have := S70.out; have := HBXi.out; have := HBYi.out; have := S71.out; have := S72.out; have := S75.out; have := S78.out; have := S81.out; have := S84.out; have := S87.out; have := S88.out; omega))
  replace HX := Lib.hid (HX.out.chg hc90 (fun i h1 h2 => by have := S43.out; have := S44.out; have := S47.out; have := S48.out; have := S51.out; have := S54.out; have := S56.out; have := HBXw.out; have := HBYw.out; have := S57.out; have := S58.out; have := S61.out; have := S64.out; have := S67.out; have := S68.out; have := S70.out; have := HBXi.out; have := HBYi.out; have := S71.out; have := S72.out; have := S75.out; have := S78.out; have := S81.out; have := S84.out; have := S87.out; have := S88.out; omega))
  replace RDw := Lib.hid (RDw.out.chg hc90 (fun i h1 h2 => by have := S43.out; have := S44.out; have := S47.out; have := S48.out; have := S51.out; have := S54.out; have := S56.out; have := HBXw.out; have := HBYw.out; have := S57.out; have := S58.out; have := S61.out; have := S64.out; have := S67.out; have := S68.out; have := S70.out; have := HBXi.out; have := HBYi.out; have := S71.out; have := S72.out; have := S75.out; have := S78.out; have := S81.out; have := S84.out; have := S87.out; have := S88.out; omega))
  replace RTw := Lib.hid (RTw.out.chg hc90 (fun i h1 h2 => by have := S43.out; have := S44.out; have := S47.out; have := S48.out; have := S51.out; have := S54.out; have := S56.out; have := HBXw.out; have := HBYw.out; have := S57.out; have := S58.out; have := S61.out; have := S64.out; have := S67.out; have := S68.out; have := S70.out; have := HBXi.out; have := HBYi.out; have := S71.out; have := S72.out; have := S75.out; have := S78.out; have := S81.out; have := S84.out; have := S87.out; have := S88.out; omega))
  replace RX1 := Lib.hid (RX1.out.chg hc90 (fun i h1 h2 => by have := S43.out; have := S44.out; have := S47.out; have := S48.out; have := S51.out; have := S54.out; have := S56.out; have := HBXw.out; have := HBYw.out; have := S57.out; have := S58.out; have := S61.out; have := S64.out; have := S67.out; have := S68.out; have := S70.out; have := HBXi.out; have := HBYi.out; have := S71.out; have := S72.out; have := S75.out; have := S78.out; have := S81.out; have := S84.out; have := S87.out; have := S88.out; omega))
  replace OX1 := Lib.hid (OX1.out.chg hc90 (fun i h1 h2 h3 => by have := S43.out; have := S44.out; have := S47.out; have := S48.out; have := S51.out; have := S54.out; have := S56.out; have := HBXw.out; have := HBYw.out; have := S57.out; have := S58.out; have := S61.out; have := S64.out; have := S67.out; have := S68.out; have := S70.out; have := HBXi.out; have := HBYi.out; have := S71.out; have := S72.out; have := S75.out; have := S78.out; have := S81.out; have := S84.out; have := S87.out; have := S88.out; omega))
  replace RDi := Lib.hid (RDi.out.chg hc90 (fun i h1 h2 => by have := S43.out; have := S44.out; have := S47.out; have := S48.out; have := S51.out; have := S54.out; have := S56.out; have := HBXw.out; have := HBYw.out; have := S57.out; have := S58.out; have := S61.out; have := S64.out; have := S67.out; have := S68.out; have := S70.out; have := HBXi.out; have := HBYi.out; have := S71.out; have := S72.out; have := S75.out; have := S78.out; have := S81.out; have := S84.out; have := S87.out; have := S88.out; omega))
  replace RTi := Lib.hid (RTi.out.chg hc90 (fun i h1 h2 => by have := S43.out; have := S44.out; have := S47.out; have := S48.out; have := S51.out; have := S54.out; have := S56.out; have := HBXw.out; have := HBYw.out; have := S57.out; have := S58.out; have := S61.out; have := S64.out; have := S67.out; have := S68.out; have := S70.out; have := HBXi.out; have := HBYi.out; have := S71.out; have := S72.out; have := S75.out; have := S78.out; have := S81.out; have := S84.out; have := S87.out; have := S88.out; omega))
  replace ODi := Lib.hid (ODi.out.chg hc90 (fun i h1 h2 h3 => by have := S43.out; have := S44.out; have := S47.out; have := S48.out; have := S51.out; have := S54.out; have := S56.out; have := HBXw.out; have := HBYw.out; have := S57.out; have := S58.out; have := S61.out; have := S64.out; have := S67.out; have := S68.out; have := S70.out; have := HBXi.out; have := HBYi.out; have := S71.out; have := S72.out; have := S75.out; have := S78.out; have := S81.out; have := S84.out; have := S87.out; have := S88.out; omega))
  replace OTi := Lib.hid (OTi.out.chg hc90 (fun i h1 h2 h3 => by have := S43.out; have := S44.out; have := S47.out; have := S48.out; have := S51.out; have := S54.out; have := S56.out; have := HBXw.out; have := HBYw.out; have := S57.out; have := S58.out; have := S61.out; have := S64.out; have := S67.out; have := S68.out; have := S70.out; have := HBXi.out; have := HBYi.out; have := S71.out; have := S72.out; have := S75.out; have := S78.out; have := S81.out; have := S84.out; have := S87.out; have := S88.out; omega))
  have S91 := Lib.hid hc90.size
  clear OD1 hc90
  have hke := endT_le TD1 1
  have hke2 : endT TD1 1 ≤ 10000000 := by have := endT_sz TD1 1; rw [HTD1.out] at this; have := HSZ.out; omega
  have HKE := Lib.hid (And.intro hke hke2)
  obtain ⟨kd, hkd⟩ : ∃ kd, endT TD1 1 = kd := ⟨_, rfl⟩
  rw [hkd] at HKE hke hke2 ⊢
  clear hkd
  have HTXL := Lib.hid (show TX1.length = X.length by rw [← HTX1.out, listsOf_length])
  have hmkt := markTable_any _ _ (some ⟨gX1, 0, none⟩) X.length TX1 kd w89 OX1.out (by rw [HTX1.out]; exact HTX.out) (by have := HKE.out; omega) (by have := HKE.out; omega)
  rw [HTXL.out, HTX1.out] at hmkt
  have HMKT := Lib.hid hmkt
  clear hmkt
  go_wp2_with fail
  refine (HMKT.out).mono ?_
  rintro e w92 ⟨TXm, rfl, hc93, -, -, -⟩
  clear RX1
  replace HCH := Lib.hid (HCH.out.trans' hc93 (fun i hi => .inr (by have := S43.out; have := S44.out; have := S47.out; have := S48.out; have := S51.out; have := S54.out; have := S56.out; have := HBXw.out; have := HBYw.out; have := S57.out; have := S58.out; have := S61.out; have := S64.out; have := S67.out; have := S68.out; have := S70.out; have := HBXi.out; have := HBYi.out; have := S71.out; have := S72.out; have := S75.out; have := S78.out; have := S81.out; have := S84.out; have := S87.out; have := S88.out; have := S91.out; omega)))
  replace HB_a := Lib.hid (HB_a.out.chg hc93 (by have := S43.out; have := S44.out; have := S47.out; have := S48.out; have := S51.out; have := S54.out; have := S56.out; have := HBXw.out; have := HBYw.out; have := S57.out; have := S58.out; have := S61.out; have := S64.out; have := S67.out; have := S68.out; have := S70.out; have := HBXi.out; have := HBYi.out; have := S71.out; have := S72.out; have := S75.out; have := S78.out; have := S81.out; have := S84.out; have := S87.out; have := S88.out; have := S91.out; omega))
  replace z_a_0 := Chg.cell hc93 z_a_0 (by simp only; have := S43.out; have := S44.out; have := S47.out; have := S48.out; have := S51.out; have := S54.out; have := S56.out; have := HBXw.out; have := HBYw.out; have := S57.out; have := S58.out; have := S61.out; have := S64.out; have := S67.out; have := S68.out; have := S70.out; have := HBXi.out; have := HBYi.out; have := S71.out; have := S72.out; have := S75.out; have := S78.out; have := S81.out; have := S84.out; have := S87.out; have := S88.out; have := S91.out; omega)
  replace HB_b := Lib.hid (HB_b.out.chg hc93 (by have := S43.out; have := S44.out; have := S47.out; have := S48.out; have := S51.out; have := S54.out; have := S56.out; have := HBXw.out; have := HBYw.out; have := S57.out; have := S58.out; have := S61.out; have := S64.out; have := S67.out; have := S68.out; have := S70.out; have := HBXi.out; have := HBYi.out; have := S71.out; have := S72.out; have := S75.out; have := S78.out; have := S81.out; have := S84.out; have := S87.out; have := S88.out; have := S91.out; omega))
  replace z_b_0 := Chg.cell hc93 z_b_0 (by simp only; have := S43.out; have := S44.out; have := S47.out; have := S48.out; have := S51.out; have := S54.out; have := S56.out; have := HBXw.out; have := HBYw.out; have := S57.out; have := S58.out; have := S61.out; have := S64.out; have := S67.out; have := S68.out; have := S70.out; have := HBXi.out; have := HBYi.out; have := S71.out; have := S72.out; have := S75.out; have := S78.out; have := S81.out; have := S84.out; have := S87.out; have := S88.out; have := S91.out; omega)
  replace z_b_1 := Chg.cell hc93 z_b_1 (by simp only; have := S43.out; have := S44.out; have := S47.out; have := S48.out; have := S51.out; have := S54.out; have := S56.out; have := HBXw.out; have := HBYw.out; have := S57.out; have := S58.out; have := S61.out; have := S64.out; have := S67.out; have := S68.out; have := S70.out; have := HBXi.out; have := HBYi.out; have := S71.out; have := S72.out; have := S75.out; have := S78.out; have := S81.out; have := S84.out; have := S87.out; have := S88.out; have := S91.out; omega)
  replace z_b_2 := Chg.cell hc93 z_b_2 (by simp only; have := S43.out; have := S44.out; have := S47.out; have := S48.out; have := S51.out; have := S54.out; have := S56.out; have := HBXw.out; have := HBYw.out; have := S57.out; have := S58.out; have := S61.out; have := S64.out; have := S67.out; have := S68.out; have := S70.out; have := HBXi.out; have := HBYi.out; have := S71.out; have := S72.out; have := S75.out; have := S78.out; have := S81.out; have := S84.out; have := S87.out; have := S88.out; have := S91.out; omega)
  replace HB_tw := Lib.hid (HB_tw.out.chg hc93 (by have := S43.out; have := S44.out; have := S47.out; have := S48.out; have := S51.out; have := S54.out; have := S56.out; have := HBXw.out; have := HBYw.out; have := S57.out; have := S58.out; have := S61.out; have := S64.out; have := S67.out; have := S68.out; have := S70.out; have := HBXi.out; have := HBYi.out; have := S71.out; have := S72.out; have := S75.out; have := S78.out; have := S81.out; have := S84.out; have := S87.out; have := S88.out; have := S91.out; omega))
  replace z_tw_0 := Chg.cell hc93 z_tw_0 (by simp only; have := S43.out; have := S44.out; have := S47.out; have := S48.out; have := S51.out; have := S54.out; have := S56.out; have := HBXw.out; have := HBYw.out; have := S57.out; have := S58.out; have := S61.out; have := S64.out; have := S67.out; have := S68.out; have := S70.out; have := HBXi.out; have := HBYi.out; have := S71.out; have := S72.out; have := S75.out; have := S78.out; have := S81.out; have := S84.out; have := S87.out; have := S88.out; have := S91.out; omega)
  replace HB_hw := Lib.hid (HB_hw.out.chg hc93 (by have := S43.out; have := S44.out; have := S47.out; have := S48.out; have := S51.out; have := S54.out; have := S56.out; have := HBXw.out; have := HBYw.out; have := S57.out; have := S58.out; have := S61.out; have := S64.out; have := S67.out; have := S68.out; have := S70.out; have := HBXi.out; have := HBYi.out; have := S71.out; have := S72.out; have := S75.out; have := S78.out; have := S81.out; have := S84.out; have := S87.out; have := S88.out; have := S91.out; omega))
  replace z_hw_0 := Chg.cell hc93 z_hw_0 (by simp only; have := S43.out; have := S44.out; have := S47.out; have := S48.out; have := S51.out; have := S54.out; have := S56.out; have := HBXw.out; have := HBYw.out; have := S57.out; have := S58.out; have := S61.out; have := S64.out; have := S67.out; have := S68.out; have := S70.out; have := HBXi.out; have := HBYi.out; have := S71.out; have := S72.out; have := S75.out; have := S78.out; have := S81.out; have := S84.out; have := S87.out; have := S88.out; have := S91.out; omega)
  replace z_hw_1 := Chg.cell hc93 z_hw_1 (by simp only; have := S43.out; have := S44.out; have := S47.out; have := S48.out; have := S51.out; have := S54.out; have := S56.out; have := HBXw.out; have := HBYw.out; have := S57.out; have := S58.out; have := S61.out; have := S64.out; have := S67.out; have := S68.out; have := S70.out; have := HBXi.out; have := HBYi.out; have := S71.out; have := S72.out; have := S75.out; have := S78.out; have := S81.out; have := S84.out; have := S87.out; have := S88.out; have := S91.out; omega)
  replace z_hw_2 := Chg.cell hc93 z_hw_2 (by simp only; have := S43.out; have := S44.out; have := S47.out; have := S48.out; have := S51.out; have := S54.out; have := S56.out; have := HBXw.out; have := HBYw.out; have := S57.out; have := S58.out; have := S61.out; have := S64.out; have := S67.out; have := S68.out; have := S70.out; have := HBXi.out; have := HBYi.out; have := S71.out; have := S72.out; have := S75.out; have := S78.out; have := S81.out; have := S84.out; have := S87.out; have := S88.out; have := S91.out; omega)
  replace HB_x := Lib.hid (HB_x.out.chg hc93 (by have := S43.out; have := S44.out; have := S47.out; have := S48.out; have := S51.out; have := S54.out; have := S56.out; have := HBXw.out; have := HBYw.out; have := S57.out; have := S58.out; have := S61.out; have := S64.out; have := S67.out; have := S68.out; have := S70.out; have := HBXi.out; have := HBYi.out; have := S71.out; have := S72.out; have := S75.out; have := S78.out; have := S81.out; have := S84.out; have := S87.out; have := S88.out; have := S91.out; omega))
  replace z_x_0 := Chg.cell hc93 z_x_0 (by simp only; have := S43.out; have := S44.out; have := S47.out; have := S48.out; have := S51.out; have := S54.out; have := S56.out; have := HBXw.out; have := HBYw.out; have := S57.out; have := S58.out; have := S61.out; have := S64.out; have := S67.out; have := S68.out; have := S70.out; have := HBXi.out; have := HBYi.out; have := S71.out; have := S72.out; have := S75.out; have := S78.out; have := S81.out; have := S84.out; have := S87.out; have := S88.out; have := S91.out; omega)
  replace HB_ti := Lib.hid (HB_ti.out.chg hc93 (by have := S43.out; have := S44.out; have := S47.out; have := S48.out; have := S51.out; have := S54.out; have := S56.out; have := HBXw.out; have := HBYw.out; have := S57.out; have := S58.out; have := S61.out; have := S64.out; have := S67.out; have := S68.out; have := S70.out; have := HBXi.out; have := HBYi.out; have := S71.out; have := S72.out; have := S75.out; have := S78.out; have := S81.out; have := S84.out; have := S87.out; have := S88.out; have := S91.out; omega))
  replace z_ti_0 := Chg.cell hc93 z_ti_0 (by simp only; have := S43.out; have := S44.out; have := S47.out; have := S48.out; have := S51.out; have := S54.out; have := S56.out; have := HBXw.out; have := HBYw.out; have := S57.out; have := S58.out; have := S61.out; have := S64.out; have := S67.out; have := S68.out; have := S70.out; have := HBXi.out; have := HBYi.out; have := S71.out; have := S72.out; have := S75.out; have := S78.out; have := S81.out; have := S84.out; have := S87.out; have := S88.out; have := S91.out; omega)
  replace HB_hi := Lib.hid (HB_hi.out.chg hc93 (by have := S43.out; have := S44.out; have := S47.out; have := S48.out; have := S51.out; have := S54.out; have := S56.out; have := HBXw.out; have := HBYw.out; have := S57.out; have := S58.out; have := S61.out; have := S64.out; have := S67.out; have := S68.out; have := S70.out; have := HBXi.out; have := HBYi.out; have := S71.out; have := S72.out; have := S75.out; have := S78.out; have := S81.out; have := S84.out; have := S87.out; have := S88.out; have := S91.out; omega))
  replace z_hi_0 := Chg.cell hc93 z_hi_0 (by simp only; have := S43.out; have := S44.out; have := S47.out; have := S48.out; have := S51.out; have := S54.out; have := S56.out; have := HBXw.out; have := HBYw.out; have := S57.out; have := S58.out; have := S61.out; have := S64.out; have := S67.out; have := S68.out; have := S70.out; have := HBXi.out; have := HBYi.out; have := S71.out; have := S72.out; have := S75.out; have := S78.out; have := S81.out; have := S84.out; have := S87.out; have := S88.out; have := S91.out; omega)
  replace z_hi_1 := Chg.cell hc93 z_hi_1 (by simp only; have := S43.out; have := S44.out; have := S47.out; have := S48.out; have := S51.out; have := S54.out; have := S56.out; have := HBXw.out; have := HBYw.out; have := S57.out; have := S58.out; have := S61.out; have := S64.out; have := S67.out; have := S68.out; have := S70.out; have := HBXi.out; have := HBYi.out; have := S71.out; have := S72.out; have := S75.out; have := S78.out; have := S81.out; have := S84.out; have := S87.out; have := S88.out; have := S91.out; omega)
  replace z_hi_2 := Chg.cell hc93 z_hi_2 (by simp only; have := S43.out; have := S44.out; have := S47.out; have := S48.out; have := S51.out; have := S54.out; have := S56.out; have := HBXw.out; have := HBYw.out; have := S57.out; have := S58.out; have := S61.out; have := S64.out; have := S67.out; have := S68.out; have := S70.out; have := HBXi.out; have := HBYi.out; have := S71.out; have := S72.out; have := S75.out; have := S78.out; have := S81.out; have := S84.out; have := S87.out; have := S88.out; have := S91.out; omega)
  replace HD := Lib.hid (HD.out.chg hc93 (fun i h1 h2 => by have := S43.out; have := S44.out; have := S47.out; have := S48.out; have := S51.out; have := S54.out; have := S56.out; have := HBXw.out; have := HBYw.out; have := S57.out; have := S58.out; have := S61.out; have := S64.out; have := S67.out; have := S68.out; have := S70.out; have := HBXi.out; have := HBYi.out; have := S71.out; have := S72.out; have := S75.out; have := S78.out; have := S81.out; have := S84.out; have := S87.out; have := S88.out; have := S91.out; omega))
  replace HX := Lib.hid (HX.out.chg hc93 (fun i h1 h2 => by have := S43.out; have := S44.out; have := S47.out; have := S48.out; have := S51.out; have := S54.out; have := S56.out; have := HBXw.out; have := HBYw.out; have := S57.out; have := S58.out; have := S61.out; have := S64.out; have := S67.out; have := S68.out; have := S70.out; have := HBXi.out; have := HBYi.out; have := S71.out; have := S72.out; have := S75.out; have := S78.out; have := S81.out; have := S84.out; have := S87.out; have := S88.out; have := S91.out; omega))
  replace RDw := Lib.hid (RDw.out.chg hc93 (fun i h1 h2 => by have := S43.out; have := S44.out; have := S47.out; have := S48.out; have := S51.out; have := S54.out; have := S56.out; have := HBXw.out; have := HBYw.out; have := S57.out; have := S58.out; have := S61.out; have := S64.out; have := S67.out; have := S68.out; have := S70.out; have := HBXi.out; have := HBYi.out; have := S71.out; have := S72.out; have := S75.out; have := S78.out; have := S81.out; have := S84.out; have := S87.out; have := S88.out; have := S91.out; omega))
  replace RTw := Lib.hid (RTw.out.chg hc93 (fun i h1 h2 => by have := S43.out; have := S44.out; have := S47.out; have := S48.out; have := S51.out; have := S54.out; have := S56.out; have := HBXw.out; have := HBYw.out; have := S57.out; have := S58.out; have := S61.out; have := S64.out; have := S67.out; have := S68.out; have := S70.out; have := HBXi.out; have := HBYi.out; have := S71.out; have := S72.out; have := S75.out; have := S78.out; have := S81.out; have := S84.out; have := S87.out; have := S88.out; have := S91.out; omega))
  replace RDi := Lib.hid (RDi.out.chg hc93 (fun i h1 h2 => by have := S43.out; have := S44.out; have := S47.out; have := S48.out; have := S51.out; have := S54.out; have := S56.out; have := HBXw.out; have := HBYw.out; have := S57.out; have := S58.out; have := S61.out; have := S64.out; have := S67.out; have := S68.out; have := S70.out; have := HBXi.out; have := HBYi.out; have := S71.out; have := S72.out; have := S75.out; have := S78.out; have := S81.out; have := S84.out; have := S87.out; have := S88.out; have := S91.out; omega))
  replace RTi := Lib.hid (RTi.out.chg hc93 (fun i h1 h2 => by have := S43.out; have := S44.out; have := S47.out; have := S48.out; have := S51.out; have := S54.out; have := S56.out; have := HBXw.out; have := HBYw.out; have := S57.out; have := S58.out; have := S61.out; have := S64.out; have := S67.out; have := S68.out; have := S70.out; have := HBXi.out; have := HBYi.out; have := S71.out; have := S72.out; have := S75.out; have := S78.out; have := S81.out; have := S84.out; have := S87.out; have := S88.out; have := S91.out; omega))
  replace ODi := Lib.hid (ODi.out.chg hc93 (fun i h1 h2 h3 => by have := S43.out; have := S44.out; have := S47.out; have := S48.out; have := S51.out; have := S54.out; have := S56.out; have := HBXw.out; have := HBYw.out; have := S57.out; have := S58.out; have := S61.out; have := S64.out; have := S67.out; have := S68.out; have := S70.out; have := HBXi.out; have := HBYi.out; have := S71.out; have := S72.out; have := S75.out; have := S78.out; have := S81.out; have := S84.out; have := S87.out; have := S88.out; have := S91.out; omega))
  replace OTi := Lib.hid (OTi.out.chg hc93 (fun i h1 h2 h3 => by have := S43.out; have := S44.out; have := S47.out; have := S48.out; have := S51.out; have := S54.out; have := S56.out; have := HBXw.out; have := HBYw.out; have := S57.out; have := S58.out; have := S61.out; have := S64.out; have := S67.out; have := S68.out; have := S70.out; have := HBXi.out; have := HBYi.out; have := S71.out; have := S72.out; have := S75.out; have := S78.out; have := S81.out; have := S84.out; have := S87.out; have := S88.out; have := S91.out; omega))
  have S94 := Lib.hid hc93.size
  clear OX1 hc93
  have hk0 : ¬ (kd + ((lens X : Nat) : Int) < 0) := by omega
  go_wp2_with fail
  refine (eqBlockS_t _ _ _ _ _ _ QD _ RDi.out RDw.out HQS.out).mono ?_
  rintro e w95 ⟨rfl, hc96⟩
  replace HCH := Lib.hid (HCH.out.trans hc96)
  replace HB_a := Lib.hid (HB_a.out.chg hc96 (fun x => x))
  replace z_a_0 := Chg.cell hc96 z_a_0 (fun x => x)
  replace HB_b := Lib.hid (HB_b.out.chg hc96 (fun x => x))
  replace z_b_0 := Chg.cell hc96 z_b_0 (fun x => x)
  replace z_b_1 := Chg.cell hc96 z_b_1 (fun x => x)
  replace z_b_2 := Chg.cell hc96 z_b_2 (fun x => x)
  replace HB_tw := Lib.hid (HB_tw.out.chg hc96 (fun x => x))
  replace z_tw_0 := Chg.cell hc96 z_tw_0 (fun x => x)
  replace HB_hw := Lib.hid (HB_hw.out.chg hc96 (fun x => x))
  replace z_hw_0 := Chg.cell hc96 z_hw_0 (fun x => x)
  replace z_hw_1 := Chg.cell hc96 z_hw_1 (fun x => x)
  replace z_hw_2 := Chg.cell hc96 z_hw_2 (fun x => x)
  replace HB_x := Lib.hid (HB_x.out.chg hc96 (fun x => x))
  replace z_x_0 := Chg.cell hc96 z_x_0 (fun x => x)
  replace HB_ti := Lib.hid (HB_ti.out.chg hc96 (fun x => x))
  replace z_ti_0 := Chg.cell hc96 z_ti_0 (fun x => x)
  replace HB_hi := Lib.hid (HB_hi.out.chg hc96 (fun x => x))
  replace z_hi_0 := Chg.cell hc96 z_hi_0 (fun x => x)
  replace z_hi_1 := Chg.cell hc96 z_hi_1 (fun x => x)
  replace z_hi_2 := Chg.cell hc96 z_hi_2 (fun x => x)
  replace HD := Lib.hid (HD.out.new hc96)
  replace HX := Lib.hid (HX.out.new hc96)
  replace RDw := Lib.hid (RDw.out.new hc96)
  replace RTw := Lib.hid (RTw.out.new hc96)
  replace RDi := Lib.hid (RDi.out.new hc96)
  replace RTi := Lib.hid (RTi.out.new hc96)
  replace ODi := Lib.hid (ODi.out.new hc96)
  replace OTi := Lib.hid (OTi.out.new hc96)
  have S97 := Lib.hid hc96.size
  clear hc96
  go_wp2_with fail
  refine (eqTable_t _ _ _ _ _ _ QX _ RTi.out RTw.out HQT.out.1 HQT.out.2).mono ?_
  rintro e w98 ⟨rfl, hc99⟩
  replace HCH := Lib.hid (HCH.out.trans hc99)
  replace HB_a := Lib.hid (HB_a.out.chg hc99 (fun x => x))
  replace z_a_0 := Chg.cell hc99 z_a_0 (fun x => x)
  replace HB_b := Lib.hid (HB_b.out.chg hc99 (fun x => x))
  replace z_b_0 := Chg.cell hc99 z_b_0 (fun x => x)
  replace z_b_1 := Chg.cell hc99 z_b_1 (fun x => x)
  replace z_b_2 := Chg.cell hc99 z_b_2 (fun x => x)
  replace HB_tw := Lib.hid (HB_tw.out.chg hc99 (fun x => x))
  replace z_tw_0 := Chg.cell hc99 z_tw_0 (fun x => x)
  replace HB_hw := Lib.hid (HB_hw.out.chg hc99 (fun x => x))
  replace z_hw_0 := Chg.cell hc99 z_hw_0 (fun x => x)
  replace z_hw_1 := Chg.cell hc99 z_hw_1 (fun x => x)
  replace z_hw_2 := Chg.cell hc99 z_hw_2 (fun x => x)
  replace HB_x := Lib.hid (HB_x.out.chg hc99 (fun x => x))
  replace z_x_0 := Chg.cell hc99 z_x_0 (fun x => x)
  replace HB_ti := Lib.hid (HB_ti.out.chg hc99 (fun x => x))
  replace z_ti_0 := Chg.cell hc99 z_ti_0 (fun x => x)
  replace HB_hi := Lib.hid (HB_hi.out.chg hc99 (fun x => x))
  replace z_hi_0 := Chg.cell hc99 z_hi_0 (fun x => x)
  replace z_hi_1 := Chg.cell hc99 z_hi_1 (fun x => x)
  replace z_hi_2 := Chg.cell hc99 z_hi_2 (fun x => x)
  replace HD := Lib.hid (HD.out.new hc99)
  replace HX := Lib.hid (HX.out.new hc99)
  replace RDw := Lib.hid (RDw.out.new hc99)
  replace RTw := Lib.hid (RTw.out.new hc99)
  replace RDi := Lib.hid (RDi.out.new hc99)
  replace RTi := Lib.hid (RTi.out.new hc99)
  replace ODi := Lib.hid (ODi.out.new hc99)
  replace OTi := Lib.hid (OTi.out.new hc99)
  have S100 := Lib.hid hc99.size
  clear hc99
  go_wp2_with fail
  refine (eqHeads_t b1 b2 b3 _).mono ?_
  rintro e w101 ⟨rfl, hc102⟩
  replace HCH := Lib.hid (HCH.out.trans hc102)
  replace HB_a := Lib.hid (HB_a.out.chg hc102 (fun x => x))
  replace z_a_0 := Chg.cell hc102 z_a_0 (fun x => x)
  replace HB_b := Lib.hid (HB_b.out.chg hc102 (fun x => x))
  replace z_b_0 := Chg.cell hc102 z_b_0 (fun x => x)
  replace z_b_1 := Chg.cell hc102 z_b_1 (fun x => x)
  replace z_b_2 := Chg.cell hc102 z_b_2 (fun x => x)
  replace HB_tw := Lib.hid (HB_tw.out.chg hc102 (fun x => x))
  replace z_tw_0 := Chg.cell hc102 z_tw_0 (fun x => x)
  replace HB_hw := Lib.hid (HB_hw.out.chg hc102 (fun x => x))
  replace z_hw_0 := Chg.cell hc102 z_hw_0 (fun x => x)
  replace z_hw_1 := Chg.cell hc102 z_hw_1 (fun x => x)
  replace z_hw_2 := Chg.cell hc102 z_hw_2 (fun x => x)
  replace HB_x := Lib.hid (HB_x.out.chg hc102 (fun x => x))
  replace z_x_0 := Chg.cell hc102 z_x_0 (fun x => x)
  replace HB_ti := Lib.hid (HB_ti.out.chg hc102 (fun x => x))
  replace z_ti_0 := Chg.cell hc102 z_ti_0 (fun x => x)
  replace HB_hi := Lib.hid (HB_hi.out.chg hc102 (fun x => x))
  replace z_hi_0 := Chg.cell hc102 z_hi_0 (fun x => x)
  replace z_hi_1 := Chg.cell hc102 z_hi_1 (fun x => x)
  replace z_hi_2 := Chg.cell hc102 z_hi_2 (fun x => x)
  replace HD := Lib.hid (HD.out.new hc102)
  replace HX := Lib.hid (HX.out.new hc102)
  replace RDw := Lib.hid (RDw.out.new hc102)
  replace RTw := Lib.hid (RTw.out.new hc102)
  replace RDi := Lib.hid (RDi.out.new hc102)
  replace RTi := Lib.hid (RTi.out.new hc102)
  replace ODi := Lib.hid (ODi.out.new hc102)
  replace OTi := Lib.hid (OTi.out.new hc102)
  have S103 := Lib.hid hc102.size
  clear hc102
  have HTI := Lib.hid (show Ti.length = QD.length by rw [← hTi.out, bksOf_length])
  have HUI := Lib.hid (show Ui.length = QX.length by rw [← hUi.out, listsOf_length])
  have HKI := Lib.hid (show 1 ≤ endT Ti 1 ∧ endT Ti 1 ≤ 10000000 by have h1 := endT_le Ti 1; have h2 := endT_sz Ti 1; rw [hTi.out] at h2; have := HQF.out.1; omega)
  have hmk := markBlockS_f (DvB w65.heap.size w69.heap.size w101) _ _ Ai ci Ti 1 w101 ODi.out (rows_fit hTi.out HQF.out.1) (by rw [HTI.out]; have := devSize_len QD; have := HQF.out.1; omega) (by omega) (by have := HKI.out; omega) (fun g cs _ h1 h2 hb => ⟨⟨h1, h2⟩, .inl ⟨_, hb⟩⟩) (fun r hr => ⟨⟨(ODi.out.2.1 r hr).1, (ODi.out.2.1 r hr).2.1⟩, .inr ⟨_, (ODi.out.2.1 r hr).2.2.1⟩⟩)
  rw [HTI.out] at hmk
  have HMK := Lib.hid hmk
  clear hmk
  go_wp2_with fail
  refine (HMK.out).mono ?_
  rintro e w104 ⟨rfl, hc105, hDm⟩
  have hqti : Blk w104 bxi 31 #[.slice Bi QX.length di] := HB_ti.out.chg hc105 (DvB.not HB_ti.out (by decide) (by decide))
  have hqhi : Blk w104 byi 46 #[.int .i64 b1, .int .i64 b2, .int .i64 b3] := HB_hi.out.chg hc105 (DvB.not HB_hi.out (by decide) (by decide))
  have hVn := OTi.out.blkT hc105 (fun i hi => hi.2)
  clear RDi
  clear RTi
  clear HB_ti z_ti_0
  clear HB_hi z_hi_0 z_hi_1 z_hi_2
  have hmo := hc105.mono (G := fun i => w65.heap.size ≤ i ∧ i < w69.heap.size) (fun i _ hi => hi.1)
  clear ODi OTi
  replace HCH := Lib.hid (HCH.out.trans' hmo (fun i hi => .inr (by have := S43.out; have := S44.out; have := S47.out; have := S48.out; have := S51.out; have := S54.out; have := S56.out; have := HBXw.out; have := HBYw.out; have := S57.out; have := S58.out; have := S61.out; have := S64.out; have := S67.out; have := S68.out; have := S70.out; have := HBXi.out; have := HBYi.out; have := S71.out; have := S72.out; have := S75.out; have := S78.out; have := S81.out; have := S84.out; have := S87.out; have := S88.out; have := S91.out; have := S94.out; have := S97.out; have := S100.out; have := S103.out; omega)))
  replace HB_a := Lib.hid (HB_a.out.chg hmo (by have := S43.out; have := S44.out; have := S47.out; have := S48.out; have := S51.out; have := S54.out; have := S56.out; have := HBXw.out; have := HBYw.out; have := S57.out; have := S58.out; have := S61.out; have := S64.out; have := S67.out; have := S68.out; have := S70.out; have := HBXi.out; have := HBYi.out; have := S71.out; have := S72.out; have := S75.out; have := S78.out; have := S81.out; have := S84.out; have := S87.out; have := S88.out; have := S91.out; have := S94.out; have := S97.out; have := S100.out; have := S103.out; omega))
  replace z_a_0 := Chg.cell hmo z_a_0 (by simp only; have := S43.out; have := S44.out; have := S47.out; have := S48.out; have := S51.out; have := S54.out; have := S56.out; have := HBXw.out; have := HBYw.out; have := S57.out; have := S58.out; have := S61.out; have := S64.out; have := S67.out; have := S68.out; have := S70.out; have := HBXi.out; have := HBYi.out; have := S71.out; have := S72.out; have := S75.out; have := S78.out; have := S81.out; have := S84.out; have := S87.out; have := S88.out; have := S91.out; have := S94.out; have := S97.out; have := S100.out; have := S103.out; omega)
  replace HB_b := Lib.hid (HB_b.out.chg hmo (by have := S43.out; have := S44.out; have := S47.out; have := S48.out; have := S51.out; have := S54.out; have := S56.out; have := HBXw.out; have := HBYw.out; have := S57.out; have := S58.out; have := S61.out; have := S64.out; have := S67.out; have := S68.out; have := S70.out; have := HBXi.out; have := HBYi.out; have := S71.out; have := S72.out; have := S75.out; have := S78.out; have := S81.out; have := S84.out; have := S87.out; have := S88.out; have := S91.out; have := S94.out; have := S97.out; have := S100.out; have := S103.out; omega))
  replace z_b_0 := Chg.cell hmo z_b_0 (by simp only; have := S43.out; have := S44.out; have := S47.out; have := S48.out; have := S51.out; have := S54.out; have := S56.out; have := HBXw.out; have := HBYw.out; have := S57.out; have := S58.out; have := S61.out; have := S64.out; have := S67.out; have := S68.out; have := S70.out; have := HBXi.out; have := HBYi.out; have := S71.out; have := S72.out; have := S75.out; have := S78.out; have := S81.out; have := S84.out; have := S87.out; have := S88.out; have := S91.out; have := S94.out; have := S97.out; have := S100.out; have := S103.out; omega)
  replace z_b_1 := Chg.cell hmo z_b_1 (by simp only; have := S43.out; have := S44.out; have := S47.out; have := S48.out; have := S51.out; have := S54.out; have := S56.out; have := HBXw.out; have := HBYw.out; have := S57.out; have := S58.out; have := S61.out; have := S64.out; have := S67.out; have := S68.out; have := S70.out; have := HBXi.out; have := HBYi.out; have := S71.out; have := S72.out; have := S75.out; have := S78.out; have := S81.out; have := S84.out; have := S87.out; have := S88.out; have := S91.out; have := S94.out; have := S97.out; have := S100.out; have := S103.out; omega)
  replace z_b_2 := Chg.cell hmo z_b_2 (by simp only; have := S43.out; have := S44.out; have := S47.out; have := S48.out; have := S51.out; have := S54.out; have := S56.out; have := HBXw.out; have := HBYw.out; have := S57.out; have := S58.out; have := S61.out; have := S64.out; have := S67.out; have := S68.out; have := S70.out; have := HBXi.out; have := HBYi.out; have := S71.out; have := S72.out; have := S75.out; have := S78.out; have := S81.out; have := S84.out; have := S87.out; have := S88.out; have := S91.out; have := S94.out; have := S97.out; have := S100.out; have := S103.out; omega)
  replace HB_tw := Lib.hid (HB_tw.out.chg hmo (by have := S43.out; have := S44.out; have := S47.out; have := S48.out; have := S51.out; have := S54.out; have := S56.out; have := HBXw.out; have := HBYw.out; have := S57.out; have := S58.out; have := S61.out; have := S64.out; have := S67.out; have := S68.out; have := S70.out; have := HBXi.out; have := HBYi.out; have := S71.out; have := S72.out; have := S75.out; have := S78.out; have := S81.out; have := S84.out; have := S87.out; have := S88.out; have := S91.out; have := S94.out; have := S97.out; have := S100.out; have := S103.out; omega))
  replace z_tw_0 := Chg.cell hmo z_tw_0 (by simp only; have := S43.out; have := S44.out; have := S47.out; have := S48.out; have := S51.out; have := S54.out; have := S56.out; have := HBXw.out; have := HBYw.out; have := S57.out; have := S58.out; have := S61.out; have := S64.out; have := S67.out; have := S68.out; have := S70.out; have := HBXi.out; have := HBYi.out; have := S71.out; have := S72.out; have := S75.out; have := S78.out; have := S81.out; have := S84.out; have := S87.out; have := S88.out; have := S91.out; have := S94.out; have := S97.out; have := S100.out; have := S103.out; omega)
  replace HB_hw := Lib.hid (HB_hw.out.chg hmo (by have := S43.out; have := S44.out; have := S47.out; have := S48.out; have := S51.out; have := S54.out; have := S56.out; have := HBXw.out; have := HBYw.out; have := S57.out; have := S58.out; have := S61.out; have := S64.out; have := S67.out; have := S68.out; have := S70.out; have := HBXi.out; have := HBYi.out; have := S71.out; have := S72.out; have := S75.out; have := S78.out; have := S81.out; have := S84.out; have := S87.out; have := S88.out; have := S91.out; have := S94.out; have := S97.out; have := S100.out; have := S103.out; omega))
  replace z_hw_0 := Chg.cell hmo z_hw_0 (by simp only; have := S43.out; have := S44.out; have := S47.out; have := S48.out; have := S51.out; have := S54.out; have := S56.out; have := HBXw.out; have := HBYw.out; have := S57.out; have := S58.out; have := S61.out; have := S64.out; have := S67.out; have := S68.out; have := S70.out; have := HBXi.out; have := HBYi.out; have := S71.out; have := S72.out; have := S75.out; have := S78.out; have := S81.out; have := S84.out; have := S87.out; have := S88.out; have := S91.out; have := S94.out; have := S97.out; have := S100.out; have := S103.out; omega)
  replace z_hw_1 := Chg.cell hmo z_hw_1 (by simp only; have := S43.out; have := S44.out; have := S47.out; have := S48.out; have := S51.out; have := S54.out; have := S56.out; have := HBXw.out; have := HBYw.out; have := S57.out; have := S58.out; have := S61.out; have := S64.out; have := S67.out; have := S68.out; have := S70.out; have := HBXi.out; have := HBYi.out; have := S71.out; have := S72.out; have := S75.out; have := S78.out; have := S81.out; have := S84.out; have := S87.out; have := S88.out; have := S91.out; have := S94.out; have := S97.out; have := S100.out; have := S103.out; omega)
  replace z_hw_2 := Chg.cell hmo z_hw_2 (by simp only; have := S43.out; have := S44.out; have := S47.out; have := S48.out; have := S51.out; have := S54.out; have := S56.out; have := HBXw.out; have := HBYw.out; have := S57.out; have := S58.out; have := S61.out; have := S64.out; have := S67.out; have := S68.out; have := S70.out; have := HBXi.out; have := HBYi.out; have := S71.out; have := S72.out; have := S75.out; have := S78.out; have := S81.out; have := S84.out; have := S87.out; have := S88.out; have := S91.out; have := S94.out; have := S97.out; have := S100.out; have := S103.out; omega)
  replace HB_x := Lib.hid (HB_x.out.chg hmo (by have := S43.out; have := S44.out; have := S47.out; have := S48.out; have := S51.out; have := S54.out; have := S56.out; have := HBXw.out; have := HBYw.out; have := S57.out; have := S58.out; have := S61.out; have := S64.out; have := S67.out; have := S68.out; have := S70.out; have := HBXi.out; have := HBYi.out; have := S71.out; have := S72.out; have := S75.out; have := S78.out; have := S81.out; have := S84.out; have := S87.out; have := S88.out; have := S91.out; have := S94.out; have := S97.out; have := S100.out; have := S103.out; omega))
  replace z_x_0 := Chg.cell hmo z_x_0 (by simp only; have := S43.out; have := S44.out; have := S47.out; have := S48.out; have := S51.out; have := S54.out; have := S56.out; have := HBXw.out; have := HBYw.out; have := S57.out; have := S58.out; have := S61.out; have := S64.out; have := S67.out; have := S68.out; have := S70.out; have := HBXi.out; have := HBYi.out; have := S71.out; have := S72.out; have := S75.out; have := S78.out; have := S81.out; have := S84.out; have := S87.out; have := S88.out; have := S91.out; have := S94.out; have := S97.out; have := S100.out; have := S103.out; omega)
  replace HD := Lib.hid (HD.out.chg hmo (fun i h1 h2 => by have := S43.out; have := S44.out; have := S47.out; have := S48.out; have := S51.out; have := S54.out; have := S56.out; have := HBXw.out; have := HBYw.out; have := S57.out; have := S58.out; have := S61.out; have := S64.out; have := S67.out; have := S68.out; have := S70.out; have := HBXi.out; have := HBYi.out; have := S71.out; have := S72.out; have := S75.out; have := S78.out; have := S81.out; have := S84.out; have := S87.out; have := S88.out; have := S91.out; have := S94.out; have := S97.out; have := S100.out; have := S103.out; omega))
  replace HX := Lib.hid (HX.out.chg hmo (fun i h1 h2 => by have := S43.out; have := S44.out; have := S47.out; have := S48.out; have := S51.out; have := S54.out; have := S56.out; have := HBXw.out; have := HBYw.out; have := S57.out; have := S58.out; have := S61.out; have := S64.out; have := S67.out; have := S68.out; have := S70.out; have := HBXi.out; have := HBYi.out; have := S71.out; have := S72.out; have := S75.out; have := S78.out; have := S81.out; have := S84.out; have := S87.out; have := S88.out; have := S91.out; have := S94.out; have := S97.out; have := S100.out; have := S103.out; omega))
  replace RDw := Lib.hid (RDw.out.chg hmo (fun i h1 h2 => by have := S43.out; have := S44.out; have := S47.out; have := S48.out; have := S51.out; have := S54.out; have := S56.out; have := HBXw.out; have := HBYw.out; have := S57.out; have := S58.out; have := S61.out; have := S64.out; have := S67.out; have := S68.out; have := S70.out; have := HBXi.out; have := HBYi.out; have := S71.out; have := S72.out; have := S75.out; have := S78.out; have := S81.out; have := S84.out; have := S87.out; have := S88.out; have := S91.out; have := S94.out; have := S97.out; have := S100.out; have := S103.out; omega))
  replace RTw := Lib.hid (RTw.out.chg hmo (fun i h1 h2 => by have := S43.out; have := S44.out; have := S47.out; have := S48.out; have := S51.out; have := S54.out; have := S56.out; have := HBXw.out; have := HBYw.out; have := S57.out; have := S58.out; have := S61.out; have := S64.out; have := S67.out; have := S68.out; have := S70.out; have := HBXi.out; have := HBYi.out; have := S71.out; have := S72.out; have := S75.out; have := S78.out; have := S81.out; have := S84.out; have := S87.out; have := S88.out; have := S91.out; have := S94.out; have := S97.out; have := S100.out; have := S103.out; omega))
  have S106 := Lib.hid hmo.size
  clear hmo hc105
  have HB_ti := Lib.hid hqti
  have z_ti_0 : w104.cell? ⟨bxi, 0, none⟩ = some (.slice Bi QX.length di) := (HB_ti.out.cell _).trans rfl
  clear hqti
  have HB_hi := Lib.hid hqhi
  have z_hi_0 : w104.cell? ⟨byi, 0, none⟩ = some (.int .i64 b1) := (HB_hi.out.cell _).trans rfl
  have z_hi_1 : w104.cell? ⟨byi, 1, none⟩ = some (.int .i64 b2) := (HB_hi.out.cell _).trans rfl
  have z_hi_2 : w104.cell? ⟨byi, 2, none⟩ = some (.int .i64 b3) := (HB_hi.out.cell _).trans rfl
  clear hqhi
  have OTi := Lib.hid hVn
  have ODm := Lib.hid hDm
  clear hVn hDm
  obtain ⟨ki, hki⟩ : ∃ ki, endT Ti 1 = ki := ⟨_, rfl⟩
  have HKIE := Lib.hid hki
  rw [hki] at HKI ⊢
  clear hki
  have hki1 := HKI.out.1
  have hmk := markTable_f (TbB w65.heap.size w69.heap.size w104) _ _ Bi di Ui ki w104 OTi.out (by rw [hUi.out]; exact HQF.out.2) (by have := HKI.out; omega) (by have := HKI.out; omega) (fun r hr => ⟨⟨(OTi.out.2.1 r hr).1, (OTi.out.2.1 r hr).2.1⟩, ⟨_, (OTi.out.2.1 r hr).2.2.1⟩⟩)
  rw [HUI.out, hUi.out] at hmk
  have HMK2 := Lib.hid hmk
  clear hmk
  go_wp2_with fail
  refine (HMK2.out).mono ?_
  rintro e w107 ⟨Um, rfl, hc108, hUm, -, hVm⟩
  have hqti : Blk w107 bxi 31 #[.slice Bi QX.length di] := HB_ti.out.chg hc108 (TbB.not HB_ti.out (by decide))
  have hqhi : Blk w107 byi 46 #[.int .i64 b1, .int .i64 b2, .int .i64 b3] := HB_hi.out.chg hc108 (TbB.not HB_hi.out (by decide))
  have hDn := ODm.out.blkT hc108 (fun i hi => hi.2)
  clear HB_ti z_ti_0
  clear HB_hi z_hi_0 z_hi_1 z_hi_2
  have hmo := hc108.mono (G := fun i => w65.heap.size ≤ i ∧ i < w69.heap.size) (fun i _ hi => hi.1)
  clear ODm OTi
  replace HCH := Lib.hid (HCH.out.trans' hmo (fun i hi => .inr (by have := S43.out; have := S44.out; have := S47.out; have := S48.out; have := S51.out; have := S54.out; have := S56.out; have := HBXw.out; have := HBYw.out; have := S57.out; have := S58.out; have := S61.out; have := S64.out; have := S67.out; have := S68.out; have := S70.out; have := HBXi.out; have := HBYi.out; have := S71.out; have := S72.out; have := S75.out; have := S78.out; have := S81.out; have := S84.out; have := S87.out; have := S88.out; have := S91.out; have := S94.out; have := S97.out; have := S100.out; have := S103.out; have := S106.out; omega)))
  replace HB_a := Lib.hid (HB_a.out.chg hmo (by have := S43.out; have := S44.out; have := S47.out; have := S48.out; have := S51.out; have := S54.out; have := S56.out; have := HBXw.out; have := HBYw.out; have := S57.out; have := S58.out; have := S61.out; have := S64.out; have := S67.out; have := S68.out; have := S70.out; have := HBXi.out; have := HBYi.out; have := S71.out; have := S72.out; have := S75.out; have := S78.out; have := S81.out; have := S84.out; have := S87.out; have := S88.out; have := S91.out; have := S94.out; have := S97.out; have := S100.out; have := S103.out; have := S106.out; omega))
  replace z_a_0 := Chg.cell hmo z_a_0 (by simp only; have := S43.out; have := S44.out; have := S47.out; have := S48.out; have := S51.out; have := S54.out; have := S56.out; have := HBXw.out; have := HBYw.out; have := S57.out; have := S58.out; have := S61.out; have := S64.out; have := S67.out; have := S68.out; have := S70.out; have := HBXi.out; have := HBYi.out; have := S71.out; have := S72.out; have := S75.out; have := S78.out; have := S81.out; have := S84.out; have := S87.out; have := S88.out; have := S91.out; have := S94.out; have := S97.out; have := S100.out; have := S103.out; have := S106.out; omega)
  replace HB_b := Lib.hid (HB_b.out.chg hmo (by have := S43.out; have := S44.out; have := S47.out; have := S48.out; have := S51.out; have := S54.out; have := S56.out; have := HBXw.out; have := HBYw.out; have := S57.out; have := S58.out; have := S61.out; have := S64.out; have := S67.out; have := S68.out; have := S70.out; have := HBXi.out; have := HBYi.out; have := S71.out; have := S72.out; have := S75.out; have := S78.out; have := S81.out; have := S84.out; have := S87.out; have := S88.out; have := S91.out; have := S94.out; have := S97.out; have := S100.out; have := S103.out; have := S106.out; omega))
  replace z_b_0 := Chg.cell hmo z_b_0 (by simp only; have := S43.out; have := S44.out; have := S47.out; have := S48.out; have := S51.out; have := S54.out; have := S56.out; have := HBXw.out; have := HBYw.out; have := S57.out; have := S58.out; have := S61.out; have := S64.out; have := S67.out; have := S68.out; have := S70.out; have := HBXi.out; have := HBYi.out; have := S71.out; have := S72.out; have := S75.out; have := S78.out; have := S81.out; have := S84.out; have := S87.out; have := S88.out; have := S91.out; have := S94.out; have := S97.out; have := S100.out; have := S103.out; have := S106.out; omega)
  replace z_b_1 := Chg.cell hmo z_b_1 (by simp only; have := S43.out; have := S44.out; have := S47.out; have := S48.out; have := S51.out; have := S54.out; have := S56.out; have := HBXw.out; have := HBYw.out; have := S57.out; have := S58.out; have := S61.out; have := S64.out; have := S67.out; have := S68.out; have := S70.out; have := HBXi.out; have := HBYi.out; have := S71.out; have := S72.out; have := S75.out; have := S78.out; have := S81.out; have := S84.out; have := S87.out; have := S88.out; have := S91.out; have := S94.out; have := S97.out; have := S100.out; have := S103.out; have := S106.out; omega)
  replace z_b_2 := Chg.cell hmo z_b_2 (by simp only; have := S43.out; have := S44.out; have := S47.out; have := S48.out; have := S51.out; have := S54.out; have := S56.out; have := HBXw.out; have := HBYw.out; have := S57.out; have := S58.out; have := S61.out; have := S64.out; have := S67.out; have := S68.out; have := S70.out; have := HBXi.out; have := HBYi.out; have := S71.out; have := S72.out; have := S75.out; have := S78.out; have := S81.out; have := S84.out; have := S87.out; have := S88.out; have := S91.out; have := S94.out; have := S97.out; have := S100.out; have := S103.out; have := S106.out; omega)
  replace HB_tw := Lib.hid (HB_tw.out.chg hmo (by have := S43.out; have := S44.out; have := S47.out; have := S48.out; have := S51.out; have := S54.out; have := S56.out; have := HBXw.out; have := HBYw.out; have := S57.out; have := S58.out; have := S61.out; have := S64.out; have := S67.out; have := S68.out; have := S70.out; have := HBXi.out; have := HBYi.out; have := S71.out; have := S72.out; have := S75.out; have := S78.out; have := S81.out; have := S84.out; have := S87.out; have := S88.out; have := S91.out; have := S94.out; have := S97.out; have := S100.out; have := S103.out; have := S106.out; omega))
  replace z_tw_0 := Chg.cell hmo z_tw_0 (by simp only; have := S43.out; have := S44.out; have := S47.out; have := S48.out; have := S51.out; have := S54.out; have := S56.out; have := HBXw.out; have := HBYw.out; have := S57.out; have := S58.out; have := S61.out; have := S64.out; have := S67.out; have := S68.out; have := S70.out; have := HBXi.out; have := HBYi.out; have := S71.out; have := S72.out; have := S75.out; have := S78.out; have := S81.out; have := S84.out; have := S87.out; have := S88.out; have := S91.out; have := S94.out; have := S97.out; have := S100.out; have := S103.out; have := S106.out; omega)
  replace HB_hw := Lib.hid (HB_hw.out.chg hmo (by have := S43.out; have := S44.out; have := S47.out; have := S48.out; have := S51.out; have := S54.out; have := S56.out; have := HBXw.out; have := HBYw.out; have := S57.out; have := S58.out; have := S61.out; have := S64.out; have := S67.out; have := S68.out; have := S70.out; have := HBXi.out; have := HBYi.out; have := S71.out; have := S72.out; have := S75.out; have := S78.out; have := S81.out; have := S84.out; have := S87.out; have := S88.out; have := S91.out; have := S94.out; have := S97.out; have := S100.out; have := S103.out; have := S106.out; omega))
  replace z_hw_0 := Chg.cell hmo z_hw_0 (by simp only; have := S43.out; have := S44.out; have := S47.out; have := S48.out; have := S51.out; have := S54.out; have := S56.out; have := HBXw.out; have := HBYw.out; have := S57.out; have := S58.out; have := S61.out; have := S64.out; have := S67.out; have := S68.out; have := S70.out; have := HBXi.out; have := HBYi.out; have := S71.out; have := S72.out; have := S75.out; have := S78.out; have := S81.out; have := S84.out; have := S87.out; have := S88.out; have := S91.out; have := S94.out; have := S97.out; have := S100.out; have := S103.out; have := S106.out; omega)
  replace z_hw_1 := Chg.cell hmo z_hw_1 (by simp only; have := S43.out; have := S44.out; have := S47.out; have := S48.out; have := S51.out; have := S54.out; have := S56.out; have := HBXw.out; have := HBYw.out; have := S57.out; have := S58.out; have := S61.out; have := S64.out; have := S67.out; have := S68.out; have := S70.out; have := HBXi.out; have := HBYi.out; have := S71.out; have := S72.out; have := S75.out; have := S78.out; have := S81.out; have := S84.out; have := S87.out; have := S88.out; have := S91.out; have := S94.out; have := S97.out; have := S100.out; have := S103.out; have := S106.out; omega)
  replace z_hw_2 := Chg.cell hmo z_hw_2 (by simp only; have := S43.out; have := S44.out; have := S47.out; have := S48.out; have := S51.out; have := S54.out; have := S56.out; have := HBXw.out; have := HBYw.out; have := S57.out; have := S58.out; have := S61.out; have := S64.out; have := S67.out; have := S68.out; have := S70.out; have := HBXi.out; have := HBYi.out; have := S71.out; have := S72.out; have := S75.out; have := S78.out; have := S81.out; have := S84.out; have := S87.out; have := S88.out; have := S91.out; have := S94.out; have := S97.out; have := S100.out; have := S103.out; have := S106.out; omega)
  replace HB_x := Lib.hid (HB_x.out.chg hmo (by have := S43.out; have := S44.out; have := S47.out; have := S48.out; have := S51.out; have := S54.out; have := S56.out; have := HBXw.out; have := HBYw.out; have := S57.out; have := S58.out; have := S61.out; have := S64.out; have := S67.out; have := S68.out; have := S70.out; have := HBXi.out; have := HBYi.out; have := S71.out; have := S72.out; have := S75.out; have := S78.out; have := S81.out; have := S84.out; have := S87.out; have := S88.out; have := S91.out; have := S94.out; have := S97.out; have := S100.out; have := S103.out; have := S106.out; omega))
  replace z_x_0 := Chg.cell hmo z_x_0 (by simp only; have := S43.out; have := S44.out; have := S47.out; have := S48.out; have := S51.out; have := S54.out; have := S56.out; have := HBXw.out; have := HBYw.out; have := S57.out; have := S58.out; have := S61.out; have := S64.out; have := S67.out; have := S68.out; have := S70.out; have := HBXi.out; have := HBYi.out; have := S71.out; have := S72.out; have := S75.out; have := S78.out; have := S81.out; have := S84.out; have := S87.out; have := S88.out; have := S91.out; have := S94.out; have := S97.out; have := S100.out; have := S103.out; have := S106.out; omega)
  replace HD := Lib.hid (HD.out.chg hmo (fun i h1 h2 => by have := S43.out; have := S44.out; have := S47.out; have := S48.out; have := S51.out; have := S54.out; have := S56.out; have := HBXw.out; have := HBYw.out; have := S57.out; have := S58.out; have := S61.out; have := S64.out; have := S67.out; have := S68.out; have := S70.out; have := HBXi.out; have := HBYi.out; have := S71.out; have := S72.out; have := S75.out; have := S78.out; have := S81.out; have := S84.out; have := S87.out; have := S88.out; have := S91.out; have := S94.out; have := S97.out; have := S100.out; have := S103.out; have := S106.out; omega))
  replace HX := Lib.hid (HX.out.chg hmo (fun i h1 h2 => by have := S43.out; have := S44.out; have := S47.out; have := S48.out; have := S51.out; have := S54.out; have := S56.out; have := HBXw.out; have := HBYw.out; have := S57.out; have := S58.out; have := S61.out; have := S64.out; have := S67.out; have := S68.out; have := S70.out; have := HBXi.out; have := HBYi.out; have := S71.out; have := S72.out; have := S75.out; have := S78.out; have := S81.out; have := S84.out; have := S87.out; have := S88.out; have := S91.out; have := S94.out; have := S97.out; have := S100.out; have := S103.out; have := S106.out; omega))
  replace RDw := Lib.hid (RDw.out.chg hmo (fun i h1 h2 => by have := S43.out; have := S44.out; have := S47.out; have := S48.out; have := S51.out; have := S54.out; have := S56.out; have := HBXw.out; have := HBYw.out; have := S57.out; have := S58.out; have := S61.out; have := S64.out; have := S67.out; have := S68.out; have := S70.out; have := HBXi.out; have := HBYi.out; have := S71.out; have := S72.out; have := S75.out; have := S78.out; have := S81.out; have := S84.out; have := S87.out; have := S88.out; have := S91.out; have := S94.out; have := S97.out; have := S100.out; have := S103.out; have := S106.out; omega))
  replace RTw := Lib.hid (RTw.out.chg hmo (fun i h1 h2 => by have := S43.out; have := S44.out; have := S47.out; have := S48.out; have := S51.out; have := S54.out; have := S56.out; have := HBXw.out; have := HBYw.out; have := S57.out; have := S58.out; have := S61.out; have := S64.out; have := S67.out; have := S68.out; have := S70.out; have := HBXi.out; have := HBYi.out; have := S71.out; have := S72.out; have := S75.out; have := S78.out; have := S81.out; have := S84.out; have := S87.out; have := S88.out; have := S91.out; have := S94.out; have := S97.out; have := S100.out; have := S103.out; have := S106.out; omega))
  have S109 := Lib.hid hmo.size
  clear hmo hc108
  have HB_ti := Lib.hid hqti
  have z_ti_0 : w107.cell? ⟨bxi, 0, none⟩ = some (.slice Bi QX.length di) := (HB_ti.out.cell _).trans rfl
  clear hqti
  have HB_hi := Lib.hid hqhi
  have z_hi_0 : w107.cell? ⟨byi, 0, none⟩ = some (.int .i64 b1) := (HB_hi.out.cell _).trans rfl
  have z_hi_1 : w107.cell? ⟨byi, 1, none⟩ = some (.int .i64 b2) := (HB_hi.out.cell _).trans rfl
  have z_hi_2 : w107.cell? ⟨byi, 2, none⟩ = some (.int .i64 b3) := (HB_hi.out.cell _).trans rfl
  clear hqhi
  have hRm := hDn.reads
  have RDm := Lib.hid hRm
  have hSm := hVm.reads
  rw [hUm] at hSm
  have RTm := Lib.hid hSm
  clear hRm hSm hDn hVm hUm
  have HHB := Lib.hid (show ∀ (F : Nat → Prop) (wq : World), DevR F wq Ai (bksOf (markT Ti 1)) → Calls Try.prog 31 #[.slice Ai QD.length ci, .int .i64 1] wq fun e w' => e = .returned (.int .i64 ki) ∧ wq = w' from fun F wq hq => by
    have := heldBlockS_any F Ai ci Ti 1 wq hq (rows_fit hTi.out HQF.out.1) (by rw [HTI.out]; have := devSize_len QD; have := HQF.out.1; omega) (by omega) (by rw [HKIE.out]; have := HKI.out; omega)
    rwa [HTI.out, HKIE.out] at this)
  have hkn : ¬ ki < 0 := by omega
  have hkn2 : ¬ (ki + ((lens QX : Nat) : Int) < 0) := by omega
  have hkk : ((ki + ((lens QX : Nat) : Int)) != (ki + ((lens QX : Nat) : Int))) = false := by simp
  go_wp2_with fail
  refine (HHB.out _ _ RDm.out).mono ?_
  rintro e w' ⟨rfl, rfl⟩
  go_wp2_with fail
  refine (heldTable_any _ _ _ QX ki _ RTm.out HQF.out.2 (by omega) (by have := HKI.out; omega)).mono ?_
  rintro e w110 ⟨rfl, hc111⟩
  replace HCH := Lib.hid (HCH.out.trans hc111)
  replace HB_a := Lib.hid (HB_a.out.chg hc111 (fun x => x))
  replace z_a_0 := Chg.cell hc111 z_a_0 (fun x => x)
  replace HB_b := Lib.hid (HB_b.out.chg hc111 (fun x => x))
  replace z_b_0 := Chg.cell hc111 z_b_0 (fun x => x)
  replace z_b_1 := Chg.cell hc111 z_b_1 (fun x => x)
  replace z_b_2 := Chg.cell hc111 z_b_2 (fun x => x)
  replace HB_tw := Lib.hid (HB_tw.out.chg hc111 (fun x => x))
  replace z_tw_0 := Chg.cell hc111 z_tw_0 (fun x => x)
  replace HB_hw := Lib.hid (HB_hw.out.chg hc111 (fun x => x))
  replace z_hw_0 := Chg.cell hc111 z_hw_0 (fun x => x)
  replace z_hw_1 := Chg.cell hc111 z_hw_1 (fun x => x)
  replace z_hw_2 := Chg.cell hc111 z_hw_2 (fun x => x)
  replace HB_x := Lib.hid (HB_x.out.chg hc111 (fun x => x))
  replace z_x_0 := Chg.cell hc111 z_x_0 (fun x => x)
  replace HB_ti := Lib.hid (HB_ti.out.chg hc111 (fun x => x))
  replace z_ti_0 := Chg.cell hc111 z_ti_0 (fun x => x)
  replace HB_hi := Lib.hid (HB_hi.out.chg hc111 (fun x => x))
  replace z_hi_0 := Chg.cell hc111 z_hi_0 (fun x => x)
  replace z_hi_1 := Chg.cell hc111 z_hi_1 (fun x => x)
  replace z_hi_2 := Chg.cell hc111 z_hi_2 (fun x => x)
  replace HD := Lib.hid (HD.out.new hc111)
  replace HX := Lib.hid (HX.out.new hc111)
  replace RDw := Lib.hid (RDw.out.new hc111)
  replace RTw := Lib.hid (RTw.out.new hc111)
  replace RDm := Lib.hid (RDm.out.new hc111)
  replace RTm := Lib.hid (RTm.out.new hc111)
  have S112 := Lib.hid hc111.size
  clear hc111
  go_wp2_with fail
  refine wp_region_rg (WInv := fun _ m w5 => Chg (NoB) w110 w5 ∧ BoxI (w110.heap.size) 31 #[.slice none 0 0] 15 18 11 m w5 ∧ BoxI (w110.heap.size) 46 #[.int .i64 0, .int .i64 0, .int .i64 0] 16 19 12 m w5) (R := RB2 (w110.heap.size) 31 46) (Post := PL [fun v w => v = .slice A D.length c, fun v w => ∃ g1 : Nat, ∃ T1 : List BkO, v = .slice (some ⟨g1, 0, none⟩) D.length D.length ∧ Hid (bksOf T1 = D) ∧ DevO w110.heap.size w.heap.size w (some ⟨g1, 0, none⟩) D.length T1, fun v w => v = .agg #[.slice B X.length d], fun v w => ∃ g2 : Nat, ∃ T2 : List RowO, v = .agg #[.slice (some ⟨g2, 0, none⟩) X.length X.length] ∧ Hid (listsOf T2 = X) ∧ TabO w110.heap.size w.heap.size w (some ⟨g2, 0, none⟩) X.length T2, fun v w => v = .agg #[.int .i64 a1, .int .i64 a2, .int .i64 a3], fun v w => v = .agg #[.int .i64 a1, .int .i64 a2, .int .i64 a3], fun v w => v = .int .i64 n, fun v w => v = .int .i64 s, fun v w => ∃ A5 : Option Addr, ∃ c5 : Nat, ∃ T5 : List BkO, ∃ A6 : Option Addr, ∃ c6 : Nat, ∃ T6 : List RowO, v = .tuple #[.slice A5 QD.length c5, .agg #[.slice A6 QX.length c6], .agg #[.int .i64 b1, .int .i64 b2, .int .i64 b3], .int .i64 mm, .bool okb] ∧ Hid (bksOf T5 = QD) ∧ Hid (listsOf T6 = QX) ∧ DevQ w110.heap.size w.heap.size w A5 c5 T5 ∧ TabO w110.heap.size w.heap.size w A6 c6 T6, fun v w => ∃ A5 : Option Addr, ∃ c5 : Nat, ∃ T5 : List BkO, ∃ A6 : Option Addr, ∃ c6 : Nat, ∃ T6 : List RowO, v = .tuple #[.slice A5 QD.length c5, .agg #[.slice A6 QX.length c6], .agg #[.int .i64 b1, .int .i64 b2, .int .i64 b3], .int .i64 mm, .bool okb] ∧ Hid (bksOf T5 = QD) ∧ Hid (listsOf T6 = QX) ∧ DevQ w110.heap.size w.heap.size w A5 c5 T5 ∧ TabO w110.heap.size w.heap.size w A6 c6 T6, fun v w => ∃ A5 : Option Addr, ∃ c5 : Nat, ∃ T5 : List BkO, v = .slice A5 QD.length c5 ∧ Hid (bksOf T5 = QD) ∧ DevQ w110.heap.size w.heap.size w A5 c5 T5, fun v w => ∃ A6 : Option Addr, ∃ c6 : Nat, ∃ T6 : List RowO, v = .agg #[.slice A6 QX.length c6] ∧ Hid (listsOf T6 = QX) ∧ TabO w110.heap.size w.heap.size w A6 c6 T6, fun v w => v = .agg #[.int .i64 b1, .int .i64 b2, .int .i64 b3], fun v w => v = .int .i64 mm, fun v w => v = .bool okb, fun _ _ => True, fun _ _ => True, fun v w => ∃ A5 : Option Addr, ∃ c5 : Nat, ∃ T5 : List BkO, v = .slice A5 QD.length c5 ∧ Hid (bksOf T5 = QD) ∧ DevQ w110.heap.size w.heap.size w A5 c5 T5, fun _ _ => True, fun _ _ => True, fun v w => v = .int .i64 mm, fun v w => v = .bool okb]) (by kernel_rfl) (by kernel_rfl) ?_ (pl_stab ⟨(fun _ _ _ h _ => h), (fun _ _ _ ⟨g1, T1, hv, hT1, hO1⟩ hR => ⟨g1, T1, hv, hT1, ((hO1.box2 hR).more (Nat.le_refl _) (Chg.size hR))⟩), (fun _ _ _ h _ => h), (fun _ _ _ ⟨g2, T2, hv, hT2, hO2⟩ hR => ⟨g2, T2, hv, hT2, ((hO2.box2 hR).more (Nat.le_refl _) (Chg.size hR))⟩), (fun _ _ _ h _ => h), (fun _ _ _ h _ => h), (fun _ _ _ h _ => h), (fun _ _ _ h _ => h), (fun _ _ _ ⟨A5, c5, T5, A6, c6, T6, hv, hT5, hT6, hO5, hO6⟩ hR => ⟨A5, c5, T5, A6, c6, T6, hv, hT5, hT6, ((hO5.box2 hR).more (Nat.le_refl _) (Chg.size hR)), ((hO6.box2 hR).more (Nat.le_refl _) (Chg.size hR))⟩), (fun _ _ _ ⟨A5, c5, T5, A6, c6, T6, hv, hT5, hT6, hO5, hO6⟩ hR => ⟨A5, c5, T5, A6, c6, T6, hv, hT5, hT6, ((hO5.box2 hR).more (Nat.le_refl _) (Chg.size hR)), ((hO6.box2 hR).more (Nat.le_refl _) (Chg.size hR))⟩), (fun _ _ _ ⟨A5, c5, T5, hv, hT5, hO5⟩ hR => ⟨A5, c5, T5, hv, hT5, ((hO5.box2 hR).more (Nat.le_refl _) (Chg.size hR))⟩), (fun _ _ _ ⟨A6, c6, T6, hv, hT6, hO6⟩ hR => ⟨A6, c6, T6, hv, hT6, ((hO6.box2 hR).more (Nat.le_refl _) (Chg.size hR))⟩), (fun _ _ _ h _ => h), (fun _ _ _ h _ => h), (fun _ _ _ h _ => h), (fun _ _ _ _ _ => trivial), (fun _ _ _ _ _ => trivial), (fun _ _ _ ⟨A5, c5, T5, hv, hT5, hO5⟩ hR => ⟨A5, c5, T5, hv, hT5, ((hO5.box2 hR).more (Nat.le_refl _) (Chg.size hR))⟩), (fun _ _ _ _ _ => trivial), (fun _ _ _ _ _ => trivial), (fun _ _ _ h _ => h), (fun _ _ _ h _ => h), trivial⟩) ⟨(Chg.refl _ _).drew, BoxI.start, BoxI.start⟩ ?_ ?_
  · exact fun _ _ _ _ h _ _ => h
  · refine ⟨?_, ?_, ?_, ?_, ?_, ?_, ?_, ?_, ?_, ?_, ?_, ?_, ?_, ?_, ?_, ?_, ?_, ?_, ?_, ?_, ?_, ?_, trivial⟩
    · rintro kc m a w5 hkc ⟨hch, hbx0, hbx1⟩ hm hn
      obtain ⟨h0, -⟩ := hn
      have e0 : a.tmps[0]?.getD undef = .slice A D.length c := h0
      exact rg_val (v := .slice A D.length c) (by simp [execOp, go_sem, e0]) rfl ⟨hch, hbx0.keep (by decide) (by decide) hm (Chg.refl NoB _) (fun _ _ x => x), hbx1.keep (by decide) (by decide) hm (Chg.refl NoB _) (fun _ _ x => x)⟩ (Chg.refl _ _) rfl
    · rintro kc m a w5 hkc ⟨hch, hbx0, hbx1⟩ hm hn
      obtain ⟨⟨_, e0, m0, rfl⟩, -⟩ := hn
      refine rg_call (f := 22) (args := #[.slice A D.length c]) (by simp [go_sem, e0]) rfl ?_
      refine (toBlockS_any _ A c D _ (HD.out.new hch) HL.out HPP.out).mono ?_
      rintro e' w6 ⟨g1, T1, rfl, hT1', hc6, hO1⟩
      have hT1 := Lib.hid hT1'
      exact ⟨_, rfl, ⟨hch.trans' hc6 (fun _ x => x.elim), hbx0.keep (by decide) (by decide) hm hc6 (fun _ _ x => x), hbx1.keep (by decide) (by decide) hm hc6 (fun _ _ x => x)⟩, (RB2.of hc6), ⟨g1, T1, rfl, hT1, (hO1.more hch.size (Nat.le_refl _))⟩⟩
    · rintro kc m a w5 hkc ⟨hch, hbx0, hbx1⟩ hm hn
      obtain ⟨h0, -⟩ := hn
      have e0 : a.tmps[6]?.getD undef = .pointer (some ⟨w.heap.size, 0, none⟩) := h0
      have y0 := Chg.cell hch z_a_0 (fun x => x)
      exact rg_val (v := .agg #[.slice B X.length d]) (by simp [execOp, go_sem, e0, y0]) rfl ⟨hch, hbx0.keep (by decide) (by decide) hm (Chg.refl NoB _) (fun _ _ x => x), hbx1.keep (by decide) (by decide) hm (Chg.refl NoB _) (fun _ _ x => x)⟩ (Chg.refl _ _) rfl
    · rintro kc m a w5 hkc ⟨hch, hbx0, hbx1⟩ hm hn
      obtain ⟨⟨_, e0, m0, rfl⟩, -⟩ := hn
      refine rg_call (f := 23) (args := #[.agg #[.slice B X.length d]]) (by simp [go_sem, e0]) rfl ?_
      refine (toTable_any _ B d X _ (HX.out.new hch) HTX.out).mono ?_
      rintro e' w6 ⟨g2, T2, rfl, hT2', hc6, hO2⟩
      have hT2 := Lib.hid hT2'
      exact ⟨_, rfl, ⟨hch.trans' hc6 (fun _ x => x.elim), hbx0.keep (by decide) (by decide) hm hc6 (fun _ _ x => x), hbx1.keep (by decide) (by decide) hm hc6 (fun _ _ x => x)⟩, (RB2.of hc6), ⟨g2, T2, rfl, hT2, (hO2.more hch.size (Nat.le_refl _))⟩⟩
    · rintro kc m a w5 hkc ⟨hch, hbx0, hbx1⟩ hm hn
      obtain ⟨h0, -⟩ := hn
      have e0 : a.tmps[7]?.getD undef = .pointer (some ⟨w.heap.size + 1, 0, none⟩) := h0
      have y0 := Chg.cell hch z_b_0 (fun x => x)
      have y1 := Chg.cell hch z_b_1 (fun x => x)
      have y2 := Chg.cell hch z_b_2 (fun x => x)
      exact rg_val (v := .agg #[.int .i64 a1, .int .i64 a2, .int .i64 a3]) (by simp [execOp, go_sem, e0, y0, y1, y2]) rfl ⟨hch, hbx0.keep (by decide) (by decide) hm (Chg.refl NoB _) (fun _ _ x => x), hbx1.keep (by decide) (by decide) hm (Chg.refl NoB _) (fun _ _ x => x)⟩ (Chg.refl _ _) rfl
    · rintro kc m a w5 hkc ⟨hch, hbx0, hbx1⟩ hm hn
      obtain ⟨⟨_, e0, m0, rfl⟩, -⟩ := hn
      refine rg_call (f := 24) (args := #[.agg #[.int .i64 a1, .int .i64 a2, .int .i64 a3]]) (by simp [go_sem, e0]) rfl ?_
      refine (toHeads_any a1 a2 a3 _).mono ?_
      rintro e' w6 ⟨rfl, hc6⟩
      exact ⟨_, rfl, ⟨hch.trans' hc6 (fun _ x => x.elim), hbx0.keep (by decide) (by decide) hm hc6 (fun _ _ x => x), hbx1.keep (by decide) (by decide) hm hc6 (fun _ _ x => x)⟩, (RB2.of hc6), rfl⟩
    · rintro kc m a w5 hkc ⟨hch, hbx0, hbx1⟩ hm hn
      obtain ⟨h0, -⟩ := hn
      have e0 : a.tmps[3]?.getD undef = .int .i64 n := h0
      exact rg_val (v := .int .i64 n) (by simp [execOp, go_sem, e0]) rfl ⟨hch, hbx0.keep (by decide) (by decide) hm (Chg.refl NoB _) (fun _ _ x => x), hbx1.keep (by decide) (by decide) hm (Chg.refl NoB _) (fun _ _ x => x)⟩ (Chg.refl _ _) rfl
    · rintro kc m a w5 hkc ⟨hch, hbx0, hbx1⟩ hm hn
      obtain ⟨h0, -⟩ := hn
      have e0 : a.tmps[4]?.getD undef = .int .i64 s := h0
      exact rg_val (v := .int .i64 s) (by simp [execOp, go_sem, e0]) rfl ⟨hch, hbx0.keep (by decide) (by decide) hm (Chg.refl NoB _) (fun _ _ x => x), hbx1.keep (by decide) (by decide) hm (Chg.refl NoB _) (fun _ _ x => x)⟩ (Chg.refl _ _) rfl
    · rintro kc m a w5 hkc ⟨hch, hbx0, hbx1⟩ hm hn
      obtain ⟨⟨_, e0, m0, g1, T1, rfl, hT1, hO1⟩, ⟨_, e1, m1, g2, T2, rfl, hT2, hO2⟩, ⟨_, e2, m2, rfl⟩, ⟨_, e3, m3, rfl⟩, ⟨_, e4, m4, rfl⟩, -⟩ := hn
      refine rg_call (f := 25) (args := #[.slice (some ⟨g1, 0, none⟩) D.length D.length, .agg #[.slice (some ⟨g2, 0, none⟩) X.length X.length], .agg #[.int .i64 a1, .int .i64 a2, .int .i64 a3], .int .i64 n, .int .i64 s]) (by simp [go_sem, e0, e1, e2, e3, e4]) rfl ?_
      refine (HCI.out _ _ _ _ _ _ _ (hT1.out ▸ hO1.reads) (hT2.out ▸ hO2.reads)).mono ?_
      rintro e' w6 ⟨A5, c5, T5, A6, c6, T6, rfl, hT5, hT6, hO5, hO6, hc6⟩
      exact ⟨_, rfl, ⟨hch.trans' hc6 (fun _ x => x.elim), hbx0.keep (by decide) (by decide) hm hc6 (fun _ _ x => x), hbx1.keep (by decide) (by decide) hm hc6 (fun _ _ x => x)⟩, (RB2.of hc6), ⟨A5, c5, T5, A6, c6, T6, rfl, hT5, hT6, (hO5.more hch.size (Nat.le_refl _)), (hO6.more hch.size (Nat.le_refl _))⟩⟩
    · rintro kc m a w5 hkc ⟨hch, hbx0, hbx1⟩ hm hn
      obtain ⟨⟨_, e0, m0, A5, c5, T5, A6, c6, T6, rfl, hT5, hT6, hO5, hO6⟩, -⟩ := hn
      exact rg_val (v := .tuple #[.slice A5 QD.length c5, .agg #[.slice A6 QX.length c6], .agg #[.int .i64 b1, .int .i64 b2, .int .i64 b3], .int .i64 mm, .bool okb]) (by simp [execOp, go_sem, e0]) rfl ⟨hch, hbx0.keep (by decide) (by decide) hm (Chg.refl NoB _) (fun _ _ x => x), hbx1.keep (by decide) (by decide) hm (Chg.refl NoB _) (fun _ _ x => x)⟩ (Chg.refl _ _) ⟨A5, c5, T5, A6, c6, T6, rfl, hT5, hT6, hO5, hO6⟩
    · rintro kc m a w5 hkc ⟨hch, hbx0, hbx1⟩ hm hn
      obtain ⟨⟨_, e0, m0, A5, c5, T5, A6, c6, T6, rfl, hT5, hT6, hO5, hO6⟩, -⟩ := hn
      exact rg_val (v := .slice A5 QD.length c5) (by simp [execOp, go_sem, e0]) rfl ⟨hch, hbx0.keep (by decide) (by decide) hm (Chg.refl NoB _) (fun _ _ x => x), hbx1.keep (by decide) (by decide) hm (Chg.refl NoB _) (fun _ _ x => x)⟩ (Chg.refl _ _) ⟨A5, c5, T5, rfl, hT5, hO5⟩
    · rintro kc m a w5 hkc ⟨hch, hbx0, hbx1⟩ hm hn
      obtain ⟨⟨_, e0, m0, A5, c5, T5, A6, c6, T6, rfl, hT5, hT6, hO5, hO6⟩, -⟩ := hn
      exact rg_val (v := .agg #[.slice A6 QX.length c6]) (by simp [execOp, go_sem, e0]) rfl ⟨hch, hbx0.keep (by decide) (by decide) hm (Chg.refl NoB _) (fun _ _ x => x), hbx1.keep (by decide) (by decide) hm (Chg.refl NoB _) (fun _ _ x => x)⟩ (Chg.refl _ _) ⟨A6, c6, T6, rfl, hT6, hO6⟩
    · rintro kc m a w5 hkc ⟨hch, hbx0, hbx1⟩ hm hn
      obtain ⟨⟨_, e0, m0, A5, c5, T5, A6, c6, T6, rfl, hT5, hT6, hO5, hO6⟩, -⟩ := hn
      exact rg_val (v := .agg #[.int .i64 b1, .int .i64 b2, .int .i64 b3]) (by simp [execOp, go_sem, e0]) rfl ⟨hch, hbx0.keep (by decide) (by decide) hm (Chg.refl NoB _) (fun _ _ x => x), hbx1.keep (by decide) (by decide) hm (Chg.refl NoB _) (fun _ _ x => x)⟩ (Chg.refl _ _) rfl
    · rintro kc m a w5 hkc ⟨hch, hbx0, hbx1⟩ hm hn
      obtain ⟨⟨_, e0, m0, A5, c5, T5, A6, c6, T6, rfl, hT5, hT6, hO5, hO6⟩, -⟩ := hn
      exact rg_val (v := .int .i64 mm) (by simp [execOp, go_sem, e0]) rfl ⟨hch, hbx0.keep (by decide) (by decide) hm (Chg.refl NoB _) (fun _ _ x => x), hbx1.keep (by decide) (by decide) hm (Chg.refl NoB _) (fun _ _ x => x)⟩ (Chg.refl _ _) rfl
    · rintro kc m a w5 hkc ⟨hch, hbx0, hbx1⟩ hm hn
      obtain ⟨⟨_, e0, m0, A5, c5, T5, A6, c6, T6, rfl, hT5, hT6, hO5, hO6⟩, -⟩ := hn
      exact rg_val (v := .bool okb) (by simp [execOp, go_sem, e0]) rfl ⟨hch, hbx0.keep (by decide) (by decide) hm (Chg.refl NoB _) (fun _ _ x => x), hbx1.keep (by decide) (by decide) hm (Chg.refl NoB _) (fun _ _ x => x)⟩ (Chg.refl _ _) rfl
    · rintro kc m a w5 hkc ⟨hch, hbx0, hbx1⟩ hm hn
      have hca : Chg NoB w5 (w5.alloc (.cells #[.slice none 0 0] 31)) := (Chg.refl _ _).alloc _
      exact rg_val (v := .pointer (some ⟨w5.heap.size, 0, none⟩)) (w' := w5.alloc (.cells #[.slice none 0 0] 31)) (by simp [execOp, go_sem]) rfl ⟨hch.alloc _, hbx0.alloc (by decide) hm hch.size, hbx1.keep (by decide) (by decide) hm hca (fun _ _ x => x)⟩ (RB2.of hca) trivial
    · rintro kc m a w5 hkc ⟨hch, hbx0, hbx1⟩ hm hn
      have hca : Chg NoB w5 (w5.alloc (.cells #[.int .i64 0, .int .i64 0, .int .i64 0] 46)) := (Chg.refl _ _).alloc _
      exact rg_val (v := .pointer (some ⟨w5.heap.size, 0, none⟩)) (w' := w5.alloc (.cells #[.int .i64 0, .int .i64 0, .int .i64 0] 46)) (by simp [execOp, go_sem]) rfl ⟨hch.alloc _, hbx0.keep (by decide) (by decide) hm hca (fun _ _ x => x), hbx1.alloc (by decide) hm hch.size⟩ (RB2.of hca) trivial
    · rintro kc m a w5 hkc ⟨hch, hbx0, hbx1⟩ hm hn
      obtain ⟨⟨_, e0, m0, A5, c5, T5, rfl, hT5, hO5⟩, -⟩ := hn
      exact rg_val (v := .slice A5 QD.length c5) (by simp [execOp, go_sem, e0]) rfl ⟨hch, hbx0.keep (by decide) (by decide) hm (Chg.refl NoB _) (fun _ _ x => x), hbx1.keep (by decide) (by decide) hm (Chg.refl NoB _) (fun _ _ x => x)⟩ (Chg.refl _ _) ⟨A5, c5, T5, rfl, hT5, hO5⟩
    · rintro kc m a w5 hkc ⟨hch, hbx0, hbx1⟩ hm hn
      obtain ⟨⟨p0, e0, m0, _⟩, ⟨_, e1, m1, A6, c6, T6, rfl, hT6, hO6⟩, -⟩ := hn
      obtain ⟨bx, rfl, hBx, hb⟩ := hbx0.ready hm m0
      have f0 := hb.frozen 0
      have x0 : w5.cell? ⟨bx, 0, none⟩ = some (.slice none 0 0) := (hb.cell _).trans rfl
      have hs : Chg (· = bx) w5 (w5.setCell ⟨bx, 0, none⟩ (.slice A6 QX.length c6)) := ((Chg.refl (· = bx) w5).setCell (p := ⟨bx, 0, none⟩) (.inl rfl) _)
      have hb' : Blk (w5.setCell ⟨bx, 0, none⟩ (.slice A6 QX.length c6)) (bx) 31 #[.slice A6 QX.length c6] := (hb.set_ 0 _)
      exact rg_skip (w' := (w5.setCell ⟨bx, 0, none⟩ (.slice A6 QX.length c6))) (by simp [execOp, go_sem, e0, e1, x0, f0]) rfl ⟨hch.own hs hBx, BoxI.store (by decide) (by decide) m0 hBx m1 hb', hbx1.keepT (T' := 31) (by decide) (by decide) hm hs (fun k hk => by have hk' : k = bx := hk; subst hk'; exact ⟨_, hb⟩) (by decide)⟩ (RB2.box1 hs hBx hb) trivial
    · rintro kc m a w5 hkc ⟨hch, hbx0, hbx1⟩ hm hn
      obtain ⟨⟨p0, e0, m0, _⟩, ⟨_, e1, m1, rfl⟩, -⟩ := hn
      obtain ⟨bx, rfl, hBx, hb⟩ := hbx1.ready hm m0
      have f0 := hb.frozen 0
      have x0 : w5.cell? ⟨bx, 0, none⟩ = some (.int .i64 0) := (hb.cell _).trans rfl
      have f1 := hb.frozen 1
      have x1 : w5.cell? ⟨bx, 1, none⟩ = some (.int .i64 0) := (hb.cell _).trans rfl
      have f2 := hb.frozen 2
      have x2 : w5.cell? ⟨bx, 2, none⟩ = some (.int .i64 0) := (hb.cell _).trans rfl
      have hs : Chg (· = bx) w5 (((w5.setCell ⟨bx, 0, none⟩ (.int .i64 b1)).setCell ⟨bx, 1, none⟩ (.int .i64 b2)).setCell ⟨bx, 2, none⟩ (.int .i64 b3)) := ((((Chg.refl (· = bx) w5).setCell (p := ⟨bx, 0, none⟩) (.inl rfl) _).setCell (p := ⟨bx, 1, none⟩) (.inl rfl) _).setCell (p := ⟨bx, 2, none⟩) (.inl rfl) _)
      have hb' : Blk (((w5.setCell ⟨bx, 0, none⟩ (.int .i64 b1)).setCell ⟨bx, 1, none⟩ (.int .i64 b2)).setCell ⟨bx, 2, none⟩ (.int .i64 b3)) (bx) 46 #[.int .i64 b1, .int .i64 b2, .int .i64 b3] := (((hb.set_ 0 _).set_ 1 _).set_ 2 _)
      exact rg_skip (w' := (((w5.setCell ⟨bx, 0, none⟩ (.int .i64 b1)).setCell ⟨bx, 1, none⟩ (.int .i64 b2)).setCell ⟨bx, 2, none⟩ (.int .i64 b3))) (by simp [execOp, go_sem, e0, e1, x0, x1, x2, f0, f1, f2]) rfl ⟨hch.own hs hBx, hbx0.keepT (T' := 46) (by decide) (by decide) hm hs (fun k hk => by have hk' : k = bx := hk; subst hk'; exact ⟨_, hb⟩) (by decide), BoxI.store (by decide) (by decide) m0 hBx m1 hb'⟩ (RB2.box2 hs hBx hb) trivial
    · rintro kc m a w5 hkc ⟨hch, hbx0, hbx1⟩ hm hn
      obtain ⟨⟨_, e0, m0, rfl⟩, -⟩ := hn
      exact rg_val (v := .int .i64 mm) (by simp [execOp, go_sem, e0]) rfl ⟨hch, hbx0.keep (by decide) (by decide) hm (Chg.refl NoB _) (fun _ _ x => x), hbx1.keep (by decide) (by decide) hm (Chg.refl NoB _) (fun _ _ x => x)⟩ (Chg.refl _ _) rfl
    · rintro kc m a w5 hkc ⟨hch, hbx0, hbx1⟩ hm hn
      obtain ⟨⟨_, e0, m0, rfl⟩, -⟩ := hn
      exact rg_val (v := .bool okb) (by simp [execOp, go_sem, e0]) rfl ⟨hch, hbx0.keep (by decide) (by decide) hm (Chg.refl NoB _) (fun _ _ x => x), hbx1.keep (by decide) (by decide) hm (Chg.refl NoB _) (fun _ _ x => x)⟩ (Chg.refl _ _) rfl
  rintro m w5 ⟨hch, hbx0, hbx1⟩
  simp only [AllVals]
  rintro q0 m0 p0 q1 m1 p1 q2 m2 p2 q3 m3 p3 q4 m4 p4 q5 m5 p5 q6 m6 p6 q7 m7 p7 q8 m8 p8 q9 m9 p9 q10 m10 p10 q11 m11 p11 q12 m12 p12 q13 m13 p13 q14 m14 p14 q15 m15 p15 q16 m16 p16 q17 m17 p17 q18 m18 p18 q19 m19 p19 q20 m20 p20 q21 m21 p21
  obtain ⟨Ae, ce, Te, rfl, hTe, hOe⟩ := p17
  obtain ⟨Be, de, Ue, rfl, hUe, hVe⟩ := p11
  obtain rfl := p12
  obtain rfl := p20
  obtain rfl := p21
  obtain ⟨bxe, rfl, hBe, hbe⟩ := hbx0.done m15 m18 m11
  obtain ⟨bye, rfl, hCe, hce⟩ := hbx1.done m16 m19 m12
  obtain ⟨w113, rfl⟩ : ∃ q, q = w5 := ⟨_, rfl⟩
  have hbbe : Blk w113 bxe 31 #[.slice Be QX.length de] := hbe
  have hcce : Blk w113 bye 46 #[.int .i64 b1, .int .i64 b2, .int .i64 b3] := hce
  have hche := hch
  clear hbe hce hbx0 hbx1 hch m0 m1 m2 m3 m4 m5 m6 m7 m8 m9 m10 m11 m12 m13 m14 m15 m16 m17 m18 m19 m20 m21
  clear p0 p1 p2 p3 p4 p5 p6 p7 p8 p9 p10 p13 p14 p15 p16 p18 p19
  simp only [Act.put, List.setIfInBounds_toArray, List.set_cons_succ, List.set_cons_zero]
  have HBXe := Lib.hid hBe
  have HBYe := Lib.hid hCe
  replace HCH := Lib.hid (HCH.out.trans hche)
  replace HB_a := Lib.hid (HB_a.out.chg hche (fun x => x))
  replace z_a_0 := Chg.cell hche z_a_0 (fun x => x)
  replace HB_b := Lib.hid (HB_b.out.chg hche (fun x => x))
  replace z_b_0 := Chg.cell hche z_b_0 (fun x => x)
  replace z_b_1 := Chg.cell hche z_b_1 (fun x => x)
  replace z_b_2 := Chg.cell hche z_b_2 (fun x => x)
  replace HB_tw := Lib.hid (HB_tw.out.chg hche (fun x => x))
  replace z_tw_0 := Chg.cell hche z_tw_0 (fun x => x)
  replace HB_hw := Lib.hid (HB_hw.out.chg hche (fun x => x))
  replace z_hw_0 := Chg.cell hche z_hw_0 (fun x => x)
  replace z_hw_1 := Chg.cell hche z_hw_1 (fun x => x)
  replace z_hw_2 := Chg.cell hche z_hw_2 (fun x => x)
  replace HB_x := Lib.hid (HB_x.out.chg hche (fun x => x))
  replace z_x_0 := Chg.cell hche z_x_0 (fun x => x)
  replace HB_ti := Lib.hid (HB_ti.out.chg hche (fun x => x))
  replace z_ti_0 := Chg.cell hche z_ti_0 (fun x => x)
  replace HB_hi := Lib.hid (HB_hi.out.chg hche (fun x => x))
  replace z_hi_0 := Chg.cell hche z_hi_0 (fun x => x)
  replace z_hi_1 := Chg.cell hche z_hi_1 (fun x => x)
  replace z_hi_2 := Chg.cell hche z_hi_2 (fun x => x)
  replace HD := Lib.hid (HD.out.new hche)
  replace HX := Lib.hid (HX.out.new hche)
  replace RDw := Lib.hid (RDw.out.new hche)
  replace RTw := Lib.hid (RTw.out.new hche)
  replace RDm := Lib.hid (RDm.out.new hche)
  replace RTm := Lib.hid (RTm.out.new hche)
  have S114 := Lib.hid hche.size
  have S115 := Lib.hid hbbe.lt
  have S116 := Lib.hid hcce.lt
  have HB_te := Lib.hid hbbe
  have z_te_0 : w113.cell? ⟨bxe, 0, none⟩ = some (.slice Be QX.length de) := (HB_te.out.cell _).trans rfl
  have HB_he := Lib.hid hcce
  have z_he_0 : w113.cell? ⟨bye, 0, none⟩ = some (.int .i64 b1) := (HB_he.out.cell _).trans rfl
  have z_he_1 : w113.cell? ⟨bye, 1, none⟩ = some (.int .i64 b2) := (HB_he.out.cell _).trans rfl
  have z_he_2 : w113.cell? ⟨bye, 2, none⟩ = some (.int .i64 b3) := (HB_he.out.cell _).trans rfl
  clear hbbe hcce hche hBe hCe
  have hRe := hOe.reads
  rw [hTe.out] at hRe
  have RDe := Lib.hid hRe
  have hSe := hVe.reads
  rw [hUe.out] at hSe
  have RTe := Lib.hid hSe
  have ODe := Lib.hid hOe.1
  have OTe := Lib.hid hVe
  clear hRe hSe hOe hVe
  go_wp2_with fail
  refine (eqBlockS_t _ _ _ _ _ _ QD _ RDe.out RDw.out HQS.out).mono ?_
  rintro e w117 ⟨rfl, hc118⟩
  replace HCH := Lib.hid (HCH.out.trans hc118)
  replace HB_a := Lib.hid (HB_a.out.chg hc118 (fun x => x))
  replace z_a_0 := Chg.cell hc118 z_a_0 (fun x => x)
  replace HB_b := Lib.hid (HB_b.out.chg hc118 (fun x => x))
  replace z_b_0 := Chg.cell hc118 z_b_0 (fun x => x)
  replace z_b_1 := Chg.cell hc118 z_b_1 (fun x => x)
  replace z_b_2 := Chg.cell hc118 z_b_2 (fun x => x)
  replace HB_tw := Lib.hid (HB_tw.out.chg hc118 (fun x => x))
  replace z_tw_0 := Chg.cell hc118 z_tw_0 (fun x => x)
  replace HB_hw := Lib.hid (HB_hw.out.chg hc118 (fun x => x))
  replace z_hw_0 := Chg.cell hc118 z_hw_0 (fun x => x)
  replace z_hw_1 := Chg.cell hc118 z_hw_1 (fun x => x)
  replace z_hw_2 := Chg.cell hc118 z_hw_2 (fun x => x)
  replace HB_x := Lib.hid (HB_x.out.chg hc118 (fun x => x))
  replace z_x_0 := Chg.cell hc118 z_x_0 (fun x => x)
  replace HB_ti := Lib.hid (HB_ti.out.chg hc118 (fun x => x))
  replace z_ti_0 := Chg.cell hc118 z_ti_0 (fun x => x)
  replace HB_hi := Lib.hid (HB_hi.out.chg hc118 (fun x => x))
  replace z_hi_0 := Chg.cell hc118 z_hi_0 (fun x => x)
  replace z_hi_1 := Chg.cell hc118 z_hi_1 (fun x => x)
  replace z_hi_2 := Chg.cell hc118 z_hi_2 (fun x => x)
  replace HB_te := Lib.hid (HB_te.out.chg hc118 (fun x => x))
  replace z_te_0 := Chg.cell hc118 z_te_0 (fun x => x)
  replace HB_he := Lib.hid (HB_he.out.chg hc118 (fun x => x))
  replace z_he_0 := Chg.cell hc118 z_he_0 (fun x => x)
  replace z_he_1 := Chg.cell hc118 z_he_1 (fun x => x)
  replace z_he_2 := Chg.cell hc118 z_he_2 (fun x => x)
  replace HD := Lib.hid (HD.out.new hc118)
  replace HX := Lib.hid (HX.out.new hc118)
  replace RDw := Lib.hid (RDw.out.new hc118)
  replace RTw := Lib.hid (RTw.out.new hc118)
  replace RDm := Lib.hid (RDm.out.new hc118)
  replace RTm := Lib.hid (RTm.out.new hc118)
  replace RDe := Lib.hid (RDe.out.new hc118)
  replace RTe := Lib.hid (RTe.out.new hc118)
  replace ODe := Lib.hid (ODe.out.new hc118)
  replace OTe := Lib.hid (OTe.out.new hc118)
  have S119 := Lib.hid hc118.size
  clear hc118
  go_wp2_with fail
  refine (eqTable_t _ _ _ _ _ _ QX _ RTe.out RTw.out HQT.out.1 HQT.out.2).mono ?_
  rintro e w120 ⟨rfl, hc121⟩
  replace HCH := Lib.hid (HCH.out.trans hc121)
  replace HB_a := Lib.hid (HB_a.out.chg hc121 (fun x => x))
  replace z_a_0 := Chg.cell hc121 z_a_0 (fun x => x)
  replace HB_b := Lib.hid (HB_b.out.chg hc121 (fun x => x))
  replace z_b_0 := Chg.cell hc121 z_b_0 (fun x => x)
  replace z_b_1 := Chg.cell hc121 z_b_1 (fun x => x)
  replace z_b_2 := Chg.cell hc121 z_b_2 (fun x => x)
  replace HB_tw := Lib.hid (HB_tw.out.chg hc121 (fun x => x))
  replace z_tw_0 := Chg.cell hc121 z_tw_0 (fun x => x)
  replace HB_hw := Lib.hid (HB_hw.out.chg hc121 (fun x => x))
  replace z_hw_0 := Chg.cell hc121 z_hw_0 (fun x => x)
  replace z_hw_1 := Chg.cell hc121 z_hw_1 (fun x => x)
  replace z_hw_2 := Chg.cell hc121 z_hw_2 (fun x => x)
  replace HB_x := Lib.hid (HB_x.out.chg hc121 (fun x => x))
  replace z_x_0 := Chg.cell hc121 z_x_0 (fun x => x)
  replace HB_ti := Lib.hid (HB_ti.out.chg hc121 (fun x => x))
  replace z_ti_0 := Chg.cell hc121 z_ti_0 (fun x => x)
  replace HB_hi := Lib.hid (HB_hi.out.chg hc121 (fun x => x))
  replace z_hi_0 := Chg.cell hc121 z_hi_0 (fun x => x)
  replace z_hi_1 := Chg.cell hc121 z_hi_1 (fun x => x)
  replace z_hi_2 := Chg.cell hc121 z_hi_2 (fun x => x)
  replace HB_te := Lib.hid (HB_te.out.chg hc121 (fun x => x))
  replace z_te_0 := Chg.cell hc121 z_te_0 (fun x => x)
  replace HB_he := Lib.hid (HB_he.out.chg hc121 (fun x => x))
  replace z_he_0 := Chg.cell hc121 z_he_0 (fun x => x)
  replace z_he_1 := Chg.cell hc121 z_he_1 (fun x => x)
  replace z_he_2 := Chg.cell hc121 z_he_2 (fun x => x)
  replace HD := Lib.hid (HD.out.new hc121)
  replace HX := Lib.hid (HX.out.new hc121)
  replace RDw := Lib.hid (RDw.out.new hc121)
  replace RTw := Lib.hid (RTw.out.new hc121)
  replace RDm := Lib.hid (RDm.out.new hc121)
  replace RTm := Lib.hid (RTm.out.new hc121)
  replace RDe := Lib.hid (RDe.out.new hc121)
  replace RTe := Lib.hid (RTe.out.new hc121)
  replace ODe := Lib.hid (ODe.out.new hc121)
  replace OTe := Lib.hid (OTe.out.new hc121)
  have S122 := Lib.hid hc121.size
  clear hc121
  go_wp2_with fail
  refine (eqHeads_t b1 b2 b3 _).mono ?_
  rintro e w123 ⟨rfl, hc124⟩
  replace HCH := Lib.hid (HCH.out.trans hc124)
  replace HB_a := Lib.hid (HB_a.out.chg hc124 (fun x => x))
  replace z_a_0 := Chg.cell hc124 z_a_0 (fun x => x)
  replace HB_b := Lib.hid (HB_b.out.chg hc124 (fun x => x))
  replace z_b_0 := Chg.cell hc124 z_b_0 (fun x => x)
  replace z_b_1 := Chg.cell hc124 z_b_1 (fun x => x)
  replace z_b_2 := Chg.cell hc124 z_b_2 (fun x => x)
  replace HB_tw := Lib.hid (HB_tw.out.chg hc124 (fun x => x))
  replace z_tw_0 := Chg.cell hc124 z_tw_0 (fun x => x)
  replace HB_hw := Lib.hid (HB_hw.out.chg hc124 (fun x => x))
  replace z_hw_0 := Chg.cell hc124 z_hw_0 (fun x => x)
  replace z_hw_1 := Chg.cell hc124 z_hw_1 (fun x => x)
  replace z_hw_2 := Chg.cell hc124 z_hw_2 (fun x => x)
  replace HB_x := Lib.hid (HB_x.out.chg hc124 (fun x => x))
  replace z_x_0 := Chg.cell hc124 z_x_0 (fun x => x)
  replace HB_ti := Lib.hid (HB_ti.out.chg hc124 (fun x => x))
  replace z_ti_0 := Chg.cell hc124 z_ti_0 (fun x => x)
  replace HB_hi := Lib.hid (HB_hi.out.chg hc124 (fun x => x))
  replace z_hi_0 := Chg.cell hc124 z_hi_0 (fun x => x)
  replace z_hi_1 := Chg.cell hc124 z_hi_1 (fun x => x)
  replace z_hi_2 := Chg.cell hc124 z_hi_2 (fun x => x)
  replace HB_te := Lib.hid (HB_te.out.chg hc124 (fun x => x))
  replace z_te_0 := Chg.cell hc124 z_te_0 (fun x => x)
  replace HB_he := Lib.hid (HB_he.out.chg hc124 (fun x => x))
  replace z_he_0 := Chg.cell hc124 z_he_0 (fun x => x)
  replace z_he_1 := Chg.cell hc124 z_he_1 (fun x => x)
  replace z_he_2 := Chg.cell hc124 z_he_2 (fun x => x)
  replace HD := Lib.hid (HD.out.new hc124)
  replace HX := Lib.hid (HX.out.new hc124)
  replace RDw := Lib.hid (RDw.out.new hc124)
  replace RTw := Lib.hid (RTw.out.new hc124)
  replace RDm := Lib.hid (RDm.out.new hc124)
  replace RTm := Lib.hid (RTm.out.new hc124)
  replace RDe := Lib.hid (RDe.out.new hc124)
  replace RTe := Lib.hid (RTe.out.new hc124)
  replace ODe := Lib.hid (ODe.out.new hc124)
  replace OTe := Lib.hid (OTe.out.new hc124)
  have S125 := Lib.hid hc124.size
  clear hc124
  go_wp2_with fail
  refine (HHB.out _ _ RDm.out).mono ?_
  rintro e w' ⟨rfl, rfl⟩
  go_wp2_with fail
  refine (heldTable_any _ _ _ QX ki _ RTm.out HQF.out.2 (by omega) (by have := HKI.out; omega)).mono ?_
  rintro e w126 ⟨rfl, hc127⟩
  replace HCH := Lib.hid (HCH.out.trans hc127)
  replace HB_a := Lib.hid (HB_a.out.chg hc127 (fun x => x))
  replace z_a_0 := Chg.cell hc127 z_a_0 (fun x => x)
  replace HB_b := Lib.hid (HB_b.out.chg hc127 (fun x => x))
  replace z_b_0 := Chg.cell hc127 z_b_0 (fun x => x)
  replace z_b_1 := Chg.cell hc127 z_b_1 (fun x => x)
  replace z_b_2 := Chg.cell hc127 z_b_2 (fun x => x)
  replace HB_tw := Lib.hid (HB_tw.out.chg hc127 (fun x => x))
  replace z_tw_0 := Chg.cell hc127 z_tw_0 (fun x => x)
  replace HB_hw := Lib.hid (HB_hw.out.chg hc127 (fun x => x))
  replace z_hw_0 := Chg.cell hc127 z_hw_0 (fun x => x)
  replace z_hw_1 := Chg.cell hc127 z_hw_1 (fun x => x)
  replace z_hw_2 := Chg.cell hc127 z_hw_2 (fun x => x)
  replace HB_x := Lib.hid (HB_x.out.chg hc127 (fun x => x))
  replace z_x_0 := Chg.cell hc127 z_x_0 (fun x => x)
  replace HB_ti := Lib.hid (HB_ti.out.chg hc127 (fun x => x))
  replace z_ti_0 := Chg.cell hc127 z_ti_0 (fun x => x)
  replace HB_hi := Lib.hid (HB_hi.out.chg hc127 (fun x => x))
  replace z_hi_0 := Chg.cell hc127 z_hi_0 (fun x => x)
  replace z_hi_1 := Chg.cell hc127 z_hi_1 (fun x => x)
  replace z_hi_2 := Chg.cell hc127 z_hi_2 (fun x => x)
  replace HB_te := Lib.hid (HB_te.out.chg hc127 (fun x => x))
  replace z_te_0 := Chg.cell hc127 z_te_0 (fun x => x)
  replace HB_he := Lib.hid (HB_he.out.chg hc127 (fun x => x))
  replace z_he_0 := Chg.cell hc127 z_he_0 (fun x => x)
  replace z_he_1 := Chg.cell hc127 z_he_1 (fun x => x)
  replace z_he_2 := Chg.cell hc127 z_he_2 (fun x => x)
  replace HD := Lib.hid (HD.out.new hc127)
  replace HX := Lib.hid (HX.out.new hc127)
  replace RDw := Lib.hid (RDw.out.new hc127)
  replace RTw := Lib.hid (RTw.out.new hc127)
  replace RDm := Lib.hid (RDm.out.new hc127)
  replace RTm := Lib.hid (RTm.out.new hc127)
  replace RDe := Lib.hid (RDe.out.new hc127)
  replace RTe := Lib.hid (RTe.out.new hc127)
  replace ODe := Lib.hid (ODe.out.new hc127)
  replace OTe := Lib.hid (OTe.out.new hc127)
  have S128 := Lib.hid hc127.size
  clear hc127
  go_wp2
  go_ret
  exact ⟨rfl, HCH.out⟩
end Go.Proofs.Ytpiojofmflfkkaa
