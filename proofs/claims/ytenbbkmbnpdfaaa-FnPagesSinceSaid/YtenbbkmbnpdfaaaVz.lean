/- AppendPage of the reference, where what it takes is valid. -/
import Derived.Test.YtenbbkmbnpdfaaaVy
import Derived.Test.YtenbbkmbnpdfaaaVl
import Derived.Deep.RegionHeld3
namespace Go.Proofs.Ytenbbkmbnpdfaaa
open Go.RowKit
theorem chg3h {F : Nat → Prop} {w W : World} {g : Nat} {a b c : Value} (h : Chg F w W) (hg : F g ∨ w.heap.size ≤ g) :
    Chg F w (((W.setCell ⟨g, 0, none⟩ a).setCell ⟨g, 1, none⟩ b).setCell ⟨g, 2, none⟩ c) :=
  ((h.setCell (p := ⟨g, 0, none⟩) hg _).setCell (p := ⟨g, 1, none⟩) hg _).setCell (p := ⟨g, 2, none⟩) hg _
theorem HeadsOk.get {D : List Bk} {h : Hd} (hh : HeadsOk D h) (n : Nat) : -1 ≤ h.get n ∧ h.get n < (D.length : Int) := by
  obtain ⟨h1, h2, h3, -⟩ := hh.2
  unfold Hd.get
  split
  · exact h1
  · split
    · exact h2
    · exact h3
theorem fresh_range {D : List Bk} {h : Hd} : -1 ≤ fresh D h ∧ fresh D h < (D.length : Int) := by
  unfold fresh
  split
  · exact bestTo_range _ _ _
  · omega
theorem fresh_not {D : List Bk} {h : Hd} (hf : 0 ≤ fresh D h) : ¬ isHead h (fresh D h) := by
  unfold fresh at hf ⊢
  split at hf
  · rename_i hh
    rw [if_pos hh]
    have := bestTo_good _ _ _ hf
    generalize bestTo (freshGood D h) (wearAt D) D.length = b at *
    unfold freshGood at this
    simp only [Bool.and_eq_true, Bool.not_eq_true', decide_eq_false_iff_not] at this
    intro hc
    apply this.2
    rwa [Int.toNat_of_nonneg hf]
  · omega
theorem HdOk.put {L : Nat} {h : Hd} (hh : HdOk L h) (n : Nat) {x : Int} (hx : 0 ≤ x ∧ x < (L : Int)) (hn : ¬ isHead h x) : HdOk L (h.put n x) := by
  obtain ⟨a1, a2, a3⟩ := h
  unfold isHead at hn
  unfold HdOk at hh
  unfold Hd.put HdOk
  simp only at *
  split
  · simp only; omega
  · split
    · simp only; omega
    · simp only; omega
theorem appendPage_head {D : List Bk} {h : Hd} {n : Nat} {p : Pg} (hh : HeadsOk D h) (hn : n < 3) (hp : PgOk p) (hf : p.full = true) {x : Nat} (hx : h.get n = (x : Int)) (hk : x < D.length) (hl : lead D[x].pages < 4) :
    appendPage D h n p = ((program D (x : Int) p).1, h, (program D (x : Int) p).2) := by
  unfold appendPage
  rw [if_pos ⟨hh, ⟨by omega, by omega⟩, hp, hf⟩, hx, Int.toNat_natCast, getD_get _ _ hk, if_pos ⟨by omega, hl⟩]
theorem appendPage_none {D : List Bk} {h : Hd} {n : Nat} {p : Pg} (hh : HeadsOk D h) (hn : n < 3) (hp : PgOk p) (hf : p.full = true) (hx : ¬ (0 ≤ h.get n ∧ lead (D.getD (h.get n).toNat zBk).pages < 4)) (hl : fresh D h < 0) :
    appendPage D h n p = (D, h, -1) := by
  unfold appendPage
  rw [if_pos ⟨hh, ⟨by omega, by omega⟩, hp, hf⟩, if_neg hx, if_pos hl]
theorem appendPage_fresh {D : List Bk} {h : Hd} {n : Nat} {p : Pg} (hh : HeadsOk D h) (hn : n < 3) (hp : PgOk p) (hf : p.full = true) (hx : ¬ (0 ≤ h.get n ∧ lead (D.getD (h.get n).toNat zBk).pages < 4)) {x : Nat} (hl : fresh D h = (x : Int)) :
    appendPage D h n p = ((program D (x : Int) p).1, h.put n x, (program D (x : Int) p).2) := by
  unfold appendPage
  rw [if_pos ⟨hh, ⟨by omega, by omega⟩, hp, hf⟩, if_neg hx, hl, if_neg (by omega)]
theorem HeadsOk.append {D : List Bk} {h : Hd} {n : Nat} {p : Pg} (hh : HeadsOk D h) (hn : n < 3) (hp : PgOk p) (hf : p.full = true) : HeadsOk (appendPage D h n p).1 (appendPage D h n p).2.1 ∧ (appendPage D h n p).1.length = D.length := by
  by_cases hx : 0 ≤ h.get n ∧ lead (D.getD (h.get n).toNat zBk).pages < 4
  · obtain ⟨x, e⟩ := Int.eq_ofNat_of_zero_le hx.1
    have hk : x < D.length := by have := (hh.get n).2; omega
    have hl := hx.2
    rw [e, Int.toNat_natCast, getD_get _ _ hk] at hl
    rw [appendPage_head hh hn hp hf e hk hl]
    obtain ⟨h1, h2⟩ := hh.1.program hk hp hf
    exact ⟨⟨h1, by rw [h2]; exact hh.2⟩, h2⟩
  · by_cases hl : fresh D h < 0
    · rw [appendPage_none hh hn hp hf hx hl]; exact ⟨hh, rfl⟩
    · obtain ⟨x, e⟩ := Int.eq_ofNat_of_zero_le (show 0 ≤ fresh D h by omega)
      have hk : x < D.length := by have := (fresh_range (D := D) (h := h)).2; omega
      rw [appendPage_fresh hh hn hp hf hx e]
      obtain ⟨h1, h2⟩ := hh.1.program hk hp hf
      refine ⟨⟨h1, ?_⟩, h2⟩
      rw [h2]
      exact hh.2.put n ⟨by omega, by omega⟩ (by have := fresh_not (D := D) (h := h) (by omega); rwa [e] at this)
def AppP (w : World) (D : List Bk) (h : Hd) (n : Nat) (p : Pg) (e : Ending) (w' : World) : Prop :=
  ∃ A c T, e = .returned (.tuple #[.slice A D.length c, hval (appendPage D h n p).2.1, .int .i64 (appendPage D h n p).2.2]) ∧ bksOf T = (appendPage D h n p).1 ∧ DevQ w.heap.size w'.heap.size w' A c T ∧ Chg NoB w w'
set_option maxRecDepth 100000 in
set_option maxHeartbeats 8000000 in
theorem sAppendPage_any (F : Nat → Prop) (A : Option Addr) (c : Nat) (D : List Bk) (h : Hd) (n : Nat) (p : Pg) (w : World) (hr : DevR F w A D) (hh : HeadsOk D h) (hn : n < 3) (hp : PgOk p) (hf : p.full = true) :
    Calls Try.prog 87 #[.slice A D.length c, hval h, .int .i64 n, pval p] w (AppP w D h n p) := by
  obtain ⟨fu, fi, pl, va, st⟩ := p
  obtain rfl : fu = true := hf
  have hgr := hh.get n
  have HNX := Lib.hid (fun (x : Nat) (hx : h.get n = (x : Int)) (hk : x < D.length) hl => appendPage_head hh hn hp rfl hx hk hl)
  have HNN := Lib.hid (fun hx hl => appendPage_none hh hn hp rfl hx hl)
  have HNF := Lib.hid (fun (x : Nat) hx (hl : fresh D h = (x : Int)) => appendPage_fresh hh hn hp rfl hx hl)
  have HDH := Lib.hid (show ∀ wq (Aq : Option Addr) (cq : Nat) (G : Nat → Prop), DevR G wq Aq D → Calls Try.prog 98 #[.slice Aq D.length cq, hval h, .int .i64 n] wq fun e w' => e = .returned (.int .i64 (h.get n)) ∧ Chg NoB wq w' from fun wq Aq cq G hq => sHeadOf_any G Aq cq D h n wq hq hh hn)
  have HFR := Lib.hid (show ∀ wq (Aq : Option Addr) (cq : Nat) (G : Nat → Prop), DevR G wq Aq D → Calls Try.prog 99 #[.slice Aq D.length cq, hval h] wq fun e w' => e = .returned (.int .i64 (fresh D h)) ∧ Chg NoB wq w' from fun wq Aq cq G hq => sFreshBlock_any G Aq cq D h wq hq hh.1.small)
  have HST := Lib.hid (show ∀ (x : Int) wq, Calls Try.prog 100 #[hval h, .int .i64 n, .int .i64 x] wq fun e w' => e = .returned (hval (h.put n x)) ∧ Chg NoB wq w' from fun x wq => l6Set_any h n x wq hn)
  have HHV := Lib.hid (show ∀ wq (Aq : Option Addr) (cq : Nat) (G : Nat → Prop), DevR G wq Aq D → Calls Try.prog 66 #[.slice Aq D.length cq, hval h] wq fun e w' => e = .returned (.bool true) ∧ Chg NoB wq w' from fun wq Aq cq G hq => (sHeadsValid_any G Aq cq D h wq hq hh.1.small).mono fun e w' ⟨he, hw⟩ => ⟨by rw [he, decide_eq_true hh], hw⟩)
  obtain ⟨z, hz⟩ : ∃ z, h.get n = z := ⟨_, rfl⟩
  have HZ := Lib.hid hz
  rw [hz] at HDH hgr
  obtain ⟨y, hy⟩ : ∃ y, fresh D h = y := ⟨_, rfl⟩
  have HYR := Lib.hid (fresh_range (D := D) (h := h))
  have HY := Lib.hid hy
  rw [hy] at HFR HYR
  obtain ⟨PR, hPR⟩ : ∃ PR, PR = AppP w D h n ⟨true, fi, pl, va, st⟩ := ⟨_, rfl⟩
  have HPR := Lib.hid hPR
  rw [← hPR]
  obtain ⟨a1, a2, a3⟩ := h
  obtain ⟨q1, q2, q3⟩ := lit2 w 38 60 #[.int .i64 a1, .int .i64 a2, .int .i64 a3] #[.bool true, .int .i64 fi, .int .i64 pl, .int .i64 va, .int .i64 st]
  obtain ⟨w2, hw2⟩ : ∃ w2, (w.alloc (.cells #[.int .i64 a1, .int .i64 a2, .int .i64 a3] 38)).alloc (.cells #[.bool true, .int .i64 fi, .int .i64 pl, .int .i64 va, .int .i64 st] 60) = w2 := ⟨_, rfl⟩
  have hsz2 : w2.heap.size = w.heap.size + 1 + 1 := by rw [← hw2]; simp [World.size_alloc]
  have hca := (Chg.refl NoB w2).alloc (.cells #[.int .i64 0, .int .i64 0, .int .i64 0] 38)
  have q4 := Blk.new w2 38 #[.int .i64 0, .int .i64 0, .int .i64 0]
  rw [hw2] at q1 q2 q3
  obtain ⟨w3, hw3⟩ : ∃ w3, w2.alloc (.cells #[.int .i64 0, .int .i64 0, .int .i64 0] 38) = w3 := ⟨_, rfl⟩
  rw [hw3] at hca q4
  rw [hsz2] at q4
  have HBH := Lib.hid (q1.chg hca (fun x => x))
  have HBP := Lib.hid (q2.chg hca (fun x => x))
  have HBR := Lib.hid q4
  have HC := Lib.hid (q3.trans hca)
  have HR := Lib.hid (hr.lt.new (q3.trans hca))
  have HW2 := Lib.hid hw2
  have HW3 := Lib.hid hw3
  have HD := Lib.hid hh.1
  have HP := Lib.hid hp
  have hnn0 : (0 : Int) ≤ (n : Int) := Int.natCast_nonneg _
  have HNL := Lib.hid hn
  have hl := hh.1.1
  clear q1 q2 q3 q4 hr hca hw2 hw3 hsz2 hp hh hz hy hPR
  go_enter Try.func87, Try.ntmps87
  go_wp2_with fail
  rw [HW2.out, HW3.out]
  clear HW2 HW3
  refine (HHV.out _ A c _ HR.out).mono ?_
  rintro e w4 ⟨rfl, hc4⟩
  replace HBH := Lib.hid (HBH.out.chg hc4 (fun x => x))
  replace HBP := Lib.hid (HBP.out.chg hc4 (fun x => x))
  replace HBR := Lib.hid (HBR.out.chg hc4 (fun x => x))
  replace HC := Lib.hid (HC.out.trans hc4)
  replace HR := Lib.hid (HR.out.new hc4)
  clear hc4
  have hbh := HBH.out
  have x0 : w4.cell? ⟨w.heap.size, 0, none⟩ = some (.int .i64 a1) := (hbh.cell _).trans rfl
  have xf0 := hbh.frozen 0
  have x1 : w4.cell? ⟨w.heap.size, 1, none⟩ = some (.int .i64 a2) := (hbh.cell _).trans rfl
  have xf1 := hbh.frozen 1
  have x2 : w4.cell? ⟨w.heap.size, 2, none⟩ = some (.int .i64 a3) := (hbh.cell _).trans rfl
  have xf2 := hbh.frozen 2
  clear hbh
  have hbp := HBP.out
  have p0 : w4.cell? ⟨(w.heap.size + 1), 0, none⟩ = some (.bool true) := (hbp.cell _).trans rfl
  have p1 : w4.cell? ⟨(w.heap.size + 1), 1, none⟩ = some (.int .i64 fi) := (hbp.cell _).trans rfl
  have p2 : w4.cell? ⟨(w.heap.size + 1), 2, none⟩ = some (.int .i64 pl) := (hbp.cell _).trans rfl
  have p3 : w4.cell? ⟨(w.heap.size + 1), 3, none⟩ = some (.int .i64 va) := (hbp.cell _).trans rfl
  have p4 : w4.cell? ⟨(w.heap.size + 1), 4, none⟩ = some (.int .i64 st) := (hbp.cell _).trans rfl
  clear hbp
  go_wp2_with fail
  refine (l1In_t (n : Int) 0 2 _ ⟨by omega, by have := HNL.out; omega⟩).mono ?_
  rintro e w' ⟨rfl, rfl⟩
  go_wp2_with fail
  refine (sPageValid_t ⟨true, fi, pl, va, st⟩ _ HP.out).mono ?_
  rintro e w5 ⟨rfl, hc5⟩
  clear x0 x1 x2 xf0 xf1 xf2 p0 p1 p2 p3 p4
  replace HBH := Lib.hid (HBH.out.chg hc5 (fun x => x))
  replace HBP := Lib.hid (HBP.out.chg hc5 (fun x => x))
  replace HBR := Lib.hid (HBR.out.chg hc5 (fun x => x))
  replace HC := Lib.hid (HC.out.trans hc5)
  replace HR := Lib.hid (HR.out.new hc5)
  clear hc5
  have hbh := HBH.out
  have x0 : w5.cell? ⟨w.heap.size, 0, none⟩ = some (.int .i64 a1) := (hbh.cell _).trans rfl
  have xf0 := hbh.frozen 0
  have x1 : w5.cell? ⟨w.heap.size, 1, none⟩ = some (.int .i64 a2) := (hbh.cell _).trans rfl
  have xf1 := hbh.frozen 1
  have x2 : w5.cell? ⟨w.heap.size, 2, none⟩ = some (.int .i64 a3) := (hbh.cell _).trans rfl
  have xf2 := hbh.frozen 2
  clear hbh
  have hbp := HBP.out
  have p0 : w5.cell? ⟨(w.heap.size + 1), 0, none⟩ = some (.bool true) := (hbp.cell _).trans rfl
  have p1 : w5.cell? ⟨(w.heap.size + 1), 1, none⟩ = some (.int .i64 fi) := (hbp.cell _).trans rfl
  have p2 : w5.cell? ⟨(w.heap.size + 1), 2, none⟩ = some (.int .i64 pl) := (hbp.cell _).trans rfl
  have p3 : w5.cell? ⟨(w.heap.size + 1), 3, none⟩ = some (.int .i64 va) := (hbp.cell _).trans rfl
  have p4 : w5.cell? ⟨(w.heap.size + 1), 4, none⟩ = some (.int .i64 st) := (hbp.cell _).trans rfl
  clear hbp
  go_wp2_with fail
  refine (HDH.out _ A c _ HR.out).mono ?_
  rintro e w6 ⟨rfl, hc6⟩
  clear x0 x1 x2 xf0 xf1 xf2 p0 p1 p2 p3 p4
  replace HBH := Lib.hid (HBH.out.chg hc6 (fun x => x))
  replace HBP := Lib.hid (HBP.out.chg hc6 (fun x => x))
  replace HBR := Lib.hid (HBR.out.chg hc6 (fun x => x))
  replace HC := Lib.hid (HC.out.trans hc6)
  replace HR := Lib.hid (HR.out.new hc6)
  clear hc6
  have hbh := HBH.out
  have x0 : w6.cell? ⟨w.heap.size, 0, none⟩ = some (.int .i64 a1) := (hbh.cell _).trans rfl
  have xf0 := hbh.frozen 0
  have x1 : w6.cell? ⟨w.heap.size, 1, none⟩ = some (.int .i64 a2) := (hbh.cell _).trans rfl
  have xf1 := hbh.frozen 1
  have x2 : w6.cell? ⟨w.heap.size, 2, none⟩ = some (.int .i64 a3) := (hbh.cell _).trans rfl
  have xf2 := hbh.frozen 2
  clear hbh
  have hbp := HBP.out
  have p0 : w6.cell? ⟨(w.heap.size + 1), 0, none⟩ = some (.bool true) := (hbp.cell _).trans rfl
  have p1 : w6.cell? ⟨(w.heap.size + 1), 1, none⟩ = some (.int .i64 fi) := (hbp.cell _).trans rfl
  have p2 : w6.cell? ⟨(w.heap.size + 1), 2, none⟩ = some (.int .i64 pl) := (hbp.cell _).trans rfl
  have p3 : w6.cell? ⟨(w.heap.size + 1), 3, none⟩ = some (.int .i64 va) := (hbp.cell _).trans rfl
  have p4 : w6.cell? ⟨(w.heap.size + 1), 4, none⟩ = some (.int .i64 st) := (hbp.cell _).trans rfl
  clear hbp
  by_cases hz : z < 0
  case pos =>
    obtain ⟨hg0, hg1⟩ := hgr
    go_wp2_with fail
    refine (HFR.out _ A c _ HR.out).mono ?_
    rintro e w7 ⟨rfl, hc7⟩
    clear x0 x1 x2 xf0 xf1 xf2 p0 p1 p2 p3 p4
    replace HBH := Lib.hid (HBH.out.chg hc7 (fun x => x))
    replace HBP := Lib.hid (HBP.out.chg hc7 (fun x => x))
    replace HBR := Lib.hid (HBR.out.chg hc7 (fun x => x))
    replace HC := Lib.hid (HC.out.trans hc7)
    replace HR := Lib.hid (HR.out.new hc7)
    clear hc7
    have hbh := HBH.out
    have x0 : w7.cell? ⟨w.heap.size, 0, none⟩ = some (.int .i64 a1) := (hbh.cell _).trans rfl
    have xf0 := hbh.frozen 0
    have x1 : w7.cell? ⟨w.heap.size, 1, none⟩ = some (.int .i64 a2) := (hbh.cell _).trans rfl
    have xf1 := hbh.frozen 1
    have x2 : w7.cell? ⟨w.heap.size, 2, none⟩ = some (.int .i64 a3) := (hbh.cell _).trans rfl
    have xf2 := hbh.frozen 2
    clear hbh
    have hbp := HBP.out
    have p0 : w7.cell? ⟨(w.heap.size + 1), 0, none⟩ = some (.bool true) := (hbp.cell _).trans rfl
    have p1 : w7.cell? ⟨(w.heap.size + 1), 1, none⟩ = some (.int .i64 fi) := (hbp.cell _).trans rfl
    have p2 : w7.cell? ⟨(w.heap.size + 1), 2, none⟩ = some (.int .i64 pl) := (hbp.cell _).trans rfl
    have p3 : w7.cell? ⟨(w.heap.size + 1), 3, none⟩ = some (.int .i64 va) := (hbp.cell _).trans rfl
    have p4 : w7.cell? ⟨(w.heap.size + 1), 4, none⟩ = some (.int .i64 st) := (hbp.cell _).trans rfl
    clear hbp
    have HWR := Lib.hid HBR.out.lt
    have hyr := HYR.out
    obtain ⟨hy0, hy1⟩ := hyr
    have HWHY := Lib.hid (show ¬ (0 ≤ Hd.get ⟨a1, a2, a3⟩ n ∧ lead (D.getD (Hd.get ⟨a1, a2, a3⟩ n).toNat zBk).pages < 4) from fun hh => by have := HZ.out; have := hh.1; omega)
    by_cases hy : y < 0
    · have HYN := Lib.hid (show fresh D ⟨a1, a2, a3⟩ < 0 by rw [HY.out]; exact hy)
      have hbr := HBR.out
      have hne1 : w.heap.size ≠ w.heap.size + 1 + 1 := by omega
      have hne2 : w.heap.size + 1 + 1 ≠ w.heap.size := by omega
      clear hbr
      go_wp2_with fail
      go_region_held3 (fun w' => w'.cell? ⟨w.heap.size, 0, none⟩ = some (.int .i64 a1) ∧ w'.cell? ⟨w.heap.size, 1, none⟩ = some (.int .i64 a2) ∧ w'.cell? ⟨w.heap.size, 2, none⟩ = some (.int .i64 a3))
        (first | go_keep | (refine ⟨?_, ?_, ?_⟩ <;> exact ((HBH.out.chg (F := NoB) ((Chg.refl _ w7).drew.trans hcc) (fun x => x)).cell _).trans rfl))
        (first | (go_at_call 74; refine (l5Copy_any _ A c D _ (HR.out.new (Chg.refl NoB w7).drew) HD.out).mono ?_; rintro e' w8 ⟨A8, c8, T8, rfl, hT8, hO8, hcc⟩; have hk := (Chg.refl NoB w7).drew.trans hcc; have hb8 := HBR.out.chg hk (fun x => x); have HK := Lib.hid hk; have HT8 := Lib.hid hT8; have HO8 := Lib.hid hO8; have HB8 := Lib.hid hb8; have r0 : w8.cell? ⟨w.heap.size + 1 + 1, 0, none⟩ = some (.int .i64 0) := (hb8.cell _).trans rfl; have r1 : w8.cell? ⟨w.heap.size + 1 + 1, 1, none⟩ = some (.int .i64 0) := (hb8.cell _).trans rfl; have r2 : w8.cell? ⟨w.heap.size + 1 + 1, 2, none⟩ = some (.int .i64 0) := (hb8.cell _).trans rfl; have rf0 := hb8.frozen 0; have rf1 := hb8.frozen 1; have rf2 := hb8.frozen 2; clear hk hT8 hO8 hb8))
      rename_i hhh
      clear hhh hcc
      go_wp2_with fail
      (try simp only [Exit.inBlock, Exit.then])
      refine bodyPost_ret (v := .tuple #[.slice A8 D.length c8, .agg #[.int .i64 a1, .int .i64 a2, .int .i64 a3], .int .i64 (-1)]) (by simp [results, Try.results87, go_sem, *]) rfl ?_
      rw [HPR.out]
      have hcs := chg3h (F := (· = w.heap.size + 1 + 1)) (g := w.heap.size + 1 + 1) (a := .int .i64 a1) (b := .int .i64 a2) (c := .int .i64 a3) (Chg.refl (· = w.heap.size + 1 + 1) w8) (.inl rfl)
      have hs7 := HC.out.size
      have hlt := HBR.out.lt
      unfold AppP
      rw [HNN.out HWHY.out HYN.out]
      exact ⟨A8, c8, T8, rfl, HT8.out, (HO8.out.chg hcs (fun i h1 h2 => by have h3 : w7.heap.size ≤ i := h1; show ¬ (i = w.heap.size + 1 + 1); omega)).more hs7 (by simp [World.setCell]), (HC.out.trans HK.out).own hcs (by omega)⟩
    obtain ⟨v, rfl⟩ := Int.eq_ofNat_of_zero_le (show 0 ≤ y by omega)
    have hk : v < D.length := by omega
    go_wp2_with fail
    refine (HST.out (v : Int) _).mono ?_
    rintro e w8 ⟨rfl, hc8⟩
    obtain ⟨⟨b1, b2, b3⟩, hbb⟩ : ∃ hb : Hd, Hd.put ⟨a1, a2, a3⟩ n (v : Int) = hb := ⟨_, rfl⟩
    rw [hbb]
    have HBB := Lib.hid hbb
    clear hbb
    clear x0 x1 x2 xf0 xf1 xf2 p0 p1 p2 p3 p4
    replace HBH := Lib.hid (HBH.out.chg hc8 (fun x => x))
    replace HBP := Lib.hid (HBP.out.chg hc8 (fun x => x))
    replace HBR := Lib.hid (HBR.out.chg hc8 (fun x => x))
    replace HC := Lib.hid (HC.out.trans hc8)
    replace HR := Lib.hid (HR.out.new hc8)
    clear hc8
    have hbh := HBH.out
    have x0 : w8.cell? ⟨w.heap.size, 0, none⟩ = some (.int .i64 a1) := (hbh.cell _).trans rfl
    have xf0 := hbh.frozen 0
    have x1 : w8.cell? ⟨w.heap.size, 1, none⟩ = some (.int .i64 a2) := (hbh.cell _).trans rfl
    have xf1 := hbh.frozen 1
    have x2 : w8.cell? ⟨w.heap.size, 2, none⟩ = some (.int .i64 a3) := (hbh.cell _).trans rfl
    have xf2 := hbh.frozen 2
    clear hbh
    have hbp := HBP.out
    have p0 : w8.cell? ⟨(w.heap.size + 1), 0, none⟩ = some (.bool true) := (hbp.cell _).trans rfl
    have p1 : w8.cell? ⟨(w.heap.size + 1), 1, none⟩ = some (.int .i64 fi) := (hbp.cell _).trans rfl
    have p2 : w8.cell? ⟨(w.heap.size + 1), 2, none⟩ = some (.int .i64 pl) := (hbp.cell _).trans rfl
    have p3 : w8.cell? ⟨(w.heap.size + 1), 3, none⟩ = some (.int .i64 va) := (hbp.cell _).trans rfl
    have p4 : w8.cell? ⟨(w.heap.size + 1), 4, none⟩ = some (.int .i64 st) := (hbp.cell _).trans rfl
    clear hbp
    have hcs8 := chg3h (F := (· = w.heap.size)) (g := w.heap.size) (a := .int .i64 b1) (b := .int .i64 b2) (c := .int .i64 b3) (Chg.refl (· = w.heap.size) w8) (.inl rfl)
    have hb8 : Blk (((w8.setCell ⟨w.heap.size, 0, none⟩ (.int .i64 b1)).setCell ⟨w.heap.size, 1, none⟩ (.int .i64 b2)).setCell ⟨w.heap.size, 2, none⟩ (.int .i64 b3)) w.heap.size 38 #[.int .i64 b1, .int .i64 b2, .int .i64 b3] := ((HBH.out.set_ 0 _).set_ 1 _).set_ 2 _
    have HCS8 := Lib.hid hcs8
    have HB8 := Lib.hid hb8
    have HS8 := Lib.hid HC.out.size
    clear hcs8 hb8
    go_wp2_with fail
    obtain ⟨wc, hwc⟩ : ∃ wc, (((w8.setCell ⟨w.heap.size, 0, none⟩ (.int .i64 b1)).setCell ⟨w.heap.size, 1, none⟩ (.int .i64 b2)).setCell ⟨w.heap.size, 2, none⟩ (.int .i64 b3)) = wc := ⟨_, rfl⟩
    have hcs := HCS8.out
    have hb8 := HB8.out
    rw [hwc] at hcs hb8 ⊢
    clear HCS8 HB8 hwc
    clear x0 x1 x2 xf0 xf1 xf2 p0 p1 p2 p3 p4
    replace HBH := Lib.hid hb8
    replace HBP := Lib.hid (HBP.out.chg hcs (by omega))
    replace HBR := Lib.hid (HBR.out.chg hcs (by omega))
    replace HC := Lib.hid (HC.out.own hcs (Nat.le_refl _))
    replace HR := Lib.hid (HR.out.chg hcs (fun i hi he => by have h2 := hi.2; have he' : i = w.heap.size := he; omega))
    have HWR := Lib.hid HBR.out.lt
    clear hb8 hcs
    have hbh := HBH.out
    have x0 : wc.cell? ⟨w.heap.size, 0, none⟩ = some (.int .i64 b1) := (hbh.cell _).trans rfl
    have xf0 := hbh.frozen 0
    have x1 : wc.cell? ⟨w.heap.size, 1, none⟩ = some (.int .i64 b2) := (hbh.cell _).trans rfl
    have xf1 := hbh.frozen 1
    have x2 : wc.cell? ⟨w.heap.size, 2, none⟩ = some (.int .i64 b3) := (hbh.cell _).trans rfl
    have xf2 := hbh.frozen 2
    clear hbh
    have hbp := HBP.out
    have p0 : wc.cell? ⟨(w.heap.size + 1), 0, none⟩ = some (.bool true) := (hbp.cell _).trans rfl
    have p1 : wc.cell? ⟨(w.heap.size + 1), 1, none⟩ = some (.int .i64 fi) := (hbp.cell _).trans rfl
    have p2 : wc.cell? ⟨(w.heap.size + 1), 2, none⟩ = some (.int .i64 pl) := (hbp.cell _).trans rfl
    have p3 : wc.cell? ⟨(w.heap.size + 1), 3, none⟩ = some (.int .i64 va) := (hbp.cell _).trans rfl
    have p4 : wc.cell? ⟨(w.heap.size + 1), 4, none⟩ = some (.int .i64 st) := (hbp.cell _).trans rfl
    clear hbp
    go_wp2_with fail
    refine (sProgram_any _ A c D v ⟨true, fi, pl, va, st⟩ _ HR.out HD.out hk HP.out rfl).mono ?_
    rintro e w9 ⟨A9, c9, T9, rfl, hT9, hO9, hc9⟩
    have HS9 := Lib.hid HC.out.size
    clear x0 x1 x2 xf0 xf1 xf2 p0 p1 p2 p3 p4
    replace HBH := Lib.hid (HBH.out.chg hc9 (fun x => x))
    replace HBP := Lib.hid (HBP.out.chg hc9 (fun x => x))
    replace HBR := Lib.hid (HBR.out.chg hc9 (fun x => x))
    replace HC := Lib.hid (HC.out.trans hc9)
    replace HR := Lib.hid (HR.out.new hc9)
    clear hc9
    have hbh := HBH.out
    have hbr := HBR.out
    have x0 : w9.cell? ⟨w.heap.size, 0, none⟩ = some (.int .i64 b1) := (hbh.cell _).trans rfl
    have x1 : w9.cell? ⟨w.heap.size, 1, none⟩ = some (.int .i64 b2) := (hbh.cell _).trans rfl
    have x2 : w9.cell? ⟨w.heap.size, 2, none⟩ = some (.int .i64 b3) := (hbh.cell _).trans rfl
    have r0 : w9.cell? ⟨(w.heap.size + 1 + 1), 0, none⟩ = some (.int .i64 0) := (hbr.cell _).trans rfl
    have rf0 := hbr.frozen 0
    have r1 : w9.cell? ⟨(w.heap.size + 1 + 1), 1, none⟩ = some (.int .i64 0) := (hbr.cell _).trans rfl
    have rf1 := hbr.frozen 1
    have r2 : w9.cell? ⟨(w.heap.size + 1 + 1), 2, none⟩ = some (.int .i64 0) := (hbr.cell _).trans rfl
    have rf2 := hbr.frozen 2
    have hne1 : w.heap.size ≠ w.heap.size + 1 + 1 := by omega
    have hne2 : w.heap.size + 1 + 1 ≠ w.heap.size := by omega
    have HT9 := Lib.hid hT9
    have HO9 := Lib.hid hO9
    obtain ⟨zz, hzz⟩ : ∃ zz, (program D (v : Int) ⟨true, fi, pl, va, st⟩).2 = zz := ⟨_, rfl⟩
    have HZZ := Lib.hid hzz
    rw [hzz]
    clear hbh hbr hT9 hO9 hzz
    go_wp2_with fail
    go_region
    go_wp2_with fail
    (try simp only [Exit.inBlock, Exit.then])
    refine bodyPost_ret (v := .tuple #[.slice A9 D.length c9, .agg #[.int .i64 b1, .int .i64 b2, .int .i64 b3], .int .i64 zz]) (by simp [results, Try.results87, go_sem, *]) rfl ?_
    rw [HPR.out]
    have hcs := chg3h (F := (· = w.heap.size + 1 + 1)) (g := w.heap.size + 1 + 1) (a := .int .i64 b1) (b := .int .i64 b2) (c := .int .i64 b3) (Chg.refl (· = w.heap.size + 1 + 1) w9) (.inl rfl)
    have hs9 := HS9.out
    have hlt := HBR.out.lt
    unfold AppP
    rw [HNF.out v HWHY.out HY.out, HBB.out]
    exact ⟨A9, c9, T9, by rw [HZZ.out], HT9.out, ((HO9.out.chg hcs (fun i h1 h2 => by have := HWR.out; omega)).more hs9 (by simp [World.setCell])).new (Chg.refl NoB _).drew, (HC.out.own hcs (by omega)).drew⟩
  obtain ⟨u, rfl⟩ := Int.eq_ofNat_of_zero_le (show 0 ≤ z by omega)
  have hk : u < D.length := by have := hgr.2; omega
  have hu0 : (0 : Int) ≤ (u : Int) := Int.natCast_nonneg _
  have hu1 : (u : Int) < (D.length : Int) := by omega
  have HBK := Lib.hid (HD.out.2 u hk)
  obtain ⟨bb, oo, A', c', rfl, hfb, c0, c1, hrb, -⟩ := HR.out u hk
  rw [HBK.out.2.1] at c1
  have HBN := Lib.hid (show Calls Try.prog 67 #[.agg #[.int .i64 D[u].wear, .slice A' 4 c']] w6 fun e w' => e = .returned (.int .i64 (next D[u])) ∧ Chg NoB w6 w' by
    have := sBlockNext_any _ A' c' D[u] w6 hrb (by rw [HBK.out.2.1]; omega)
    rwa [HBK.out.2.1] at this)
  clear hrb hgr
  go_wp2_with fail
  refine HBN.out.mono ?_
  rintro e wn ⟨rfl, hcn⟩
  clear c0 c1
  clear x0 x1 x2 xf0 xf1 xf2 p0 p1 p2 p3 p4
  replace HBH := Lib.hid (HBH.out.chg hcn (fun x => x))
  replace HBP := Lib.hid (HBP.out.chg hcn (fun x => x))
  replace HBR := Lib.hid (HBR.out.chg hcn (fun x => x))
  replace HC := Lib.hid (HC.out.trans hcn)
  replace HR := Lib.hid (HR.out.new hcn)
  clear hcn
  have hbh := HBH.out
  have x0 : wn.cell? ⟨w.heap.size, 0, none⟩ = some (.int .i64 a1) := (hbh.cell _).trans rfl
  have xf0 := hbh.frozen 0
  have x1 : wn.cell? ⟨w.heap.size, 1, none⟩ = some (.int .i64 a2) := (hbh.cell _).trans rfl
  have xf1 := hbh.frozen 1
  have x2 : wn.cell? ⟨w.heap.size, 2, none⟩ = some (.int .i64 a3) := (hbh.cell _).trans rfl
  have xf2 := hbh.frozen 2
  clear hbh
  have hbp := HBP.out
  have p0 : wn.cell? ⟨(w.heap.size + 1), 0, none⟩ = some (.bool true) := (hbp.cell _).trans rfl
  have p1 : wn.cell? ⟨(w.heap.size + 1), 1, none⟩ = some (.int .i64 fi) := (hbp.cell _).trans rfl
  have p2 : wn.cell? ⟨(w.heap.size + 1), 2, none⟩ = some (.int .i64 pl) := (hbp.cell _).trans rfl
  have p3 : wn.cell? ⟨(w.heap.size + 1), 3, none⟩ = some (.int .i64 va) := (hbp.cell _).trans rfl
  have p4 : wn.cell? ⟨(w.heap.size + 1), 4, none⟩ = some (.int .i64 st) := (hbp.cell _).trans rfl
  clear hbp
  by_cases hl4 : lead D[u].pages < 4
  case neg =>
    have HL4 := Lib.hid hl4
    rw [next_full HBK.out hl4]
    clear hl4
    go_wp2_with fail
    refine (HFR.out _ (some ⟨bb, oo, none⟩) c _ HR.out).mono ?_
    rintro e w7 ⟨rfl, hc7⟩
    clear x0 x1 x2 xf0 xf1 xf2 p0 p1 p2 p3 p4
    replace HBH := Lib.hid (HBH.out.chg hc7 (fun x => x))
    replace HBP := Lib.hid (HBP.out.chg hc7 (fun x => x))
    replace HBR := Lib.hid (HBR.out.chg hc7 (fun x => x))
    replace HC := Lib.hid (HC.out.trans hc7)
    replace HR := Lib.hid (HR.out.new hc7)
    clear hc7
    have hbh := HBH.out
    have x0 : w7.cell? ⟨w.heap.size, 0, none⟩ = some (.int .i64 a1) := (hbh.cell _).trans rfl
    have xf0 := hbh.frozen 0
    have x1 : w7.cell? ⟨w.heap.size, 1, none⟩ = some (.int .i64 a2) := (hbh.cell _).trans rfl
    have xf1 := hbh.frozen 1
    have x2 : w7.cell? ⟨w.heap.size, 2, none⟩ = some (.int .i64 a3) := (hbh.cell _).trans rfl
    have xf2 := hbh.frozen 2
    clear hbh
    have hbp := HBP.out
    have p0 : w7.cell? ⟨(w.heap.size + 1), 0, none⟩ = some (.bool true) := (hbp.cell _).trans rfl
    have p1 : w7.cell? ⟨(w.heap.size + 1), 1, none⟩ = some (.int .i64 fi) := (hbp.cell _).trans rfl
    have p2 : w7.cell? ⟨(w.heap.size + 1), 2, none⟩ = some (.int .i64 pl) := (hbp.cell _).trans rfl
    have p3 : w7.cell? ⟨(w.heap.size + 1), 3, none⟩ = some (.int .i64 va) := (hbp.cell _).trans rfl
    have p4 : w7.cell? ⟨(w.heap.size + 1), 4, none⟩ = some (.int .i64 st) := (hbp.cell _).trans rfl
    clear hbp
    have HWR := Lib.hid HBR.out.lt
    have hyr := HYR.out
    obtain ⟨hy0, hy1⟩ := hyr
    have HWHY := Lib.hid (show ¬ (0 ≤ Hd.get ⟨a1, a2, a3⟩ n ∧ lead (D.getD (Hd.get ⟨a1, a2, a3⟩ n).toNat zBk).pages < 4) from fun hh => by have h2 := hh.2; rw [HZ.out, Int.toNat_natCast, getD_get _ _ hk] at h2; exact HL4.out h2)
    by_cases hy : y < 0
    · have HYN := Lib.hid (show fresh D ⟨a1, a2, a3⟩ < 0 by rw [HY.out]; exact hy)
      have hbr := HBR.out
      have hne1 : w.heap.size ≠ w.heap.size + 1 + 1 := by omega
      have hne2 : w.heap.size + 1 + 1 ≠ w.heap.size := by omega
      clear hbr
      go_wp2_with fail
      go_region_held3 (fun w' => w'.cell? ⟨w.heap.size, 0, none⟩ = some (.int .i64 a1) ∧ w'.cell? ⟨w.heap.size, 1, none⟩ = some (.int .i64 a2) ∧ w'.cell? ⟨w.heap.size, 2, none⟩ = some (.int .i64 a3))
        (first | go_keep | (refine ⟨?_, ?_, ?_⟩ <;> exact ((HBH.out.chg (F := NoB) ((Chg.refl _ w7).drew.trans hcc) (fun x => x)).cell _).trans rfl))
        (first | (go_at_call 74; refine (l5Copy_any _ (some ⟨bb, oo, none⟩) c D _ (HR.out.new (Chg.refl NoB w7).drew) HD.out).mono ?_; rintro e' w8 ⟨A8, c8, T8, rfl, hT8, hO8, hcc⟩; have hk := (Chg.refl NoB w7).drew.trans hcc; have hb8 := HBR.out.chg hk (fun x => x); have HK := Lib.hid hk; have HT8 := Lib.hid hT8; have HO8 := Lib.hid hO8; have HB8 := Lib.hid hb8; have r0 : w8.cell? ⟨w.heap.size + 1 + 1, 0, none⟩ = some (.int .i64 0) := (hb8.cell _).trans rfl; have r1 : w8.cell? ⟨w.heap.size + 1 + 1, 1, none⟩ = some (.int .i64 0) := (hb8.cell _).trans rfl; have r2 : w8.cell? ⟨w.heap.size + 1 + 1, 2, none⟩ = some (.int .i64 0) := (hb8.cell _).trans rfl; have rf0 := hb8.frozen 0; have rf1 := hb8.frozen 1; have rf2 := hb8.frozen 2; clear hk hT8 hO8 hb8))
      rename_i hhh
      clear hhh hcc
      go_wp2_with fail
      (try simp only [Exit.inBlock, Exit.then])
      refine bodyPost_ret (v := .tuple #[.slice A8 D.length c8, .agg #[.int .i64 a1, .int .i64 a2, .int .i64 a3], .int .i64 (-1)]) (by simp [results, Try.results87, go_sem, *]) rfl ?_
      rw [HPR.out]
      have hcs := chg3h (F := (· = w.heap.size + 1 + 1)) (g := w.heap.size + 1 + 1) (a := .int .i64 a1) (b := .int .i64 a2) (c := .int .i64 a3) (Chg.refl (· = w.heap.size + 1 + 1) w8) (.inl rfl)
      have hs7 := HC.out.size
      have hlt := HBR.out.lt
      unfold AppP
      rw [HNN.out HWHY.out HYN.out]
      exact ⟨A8, c8, T8, rfl, HT8.out, (HO8.out.chg hcs (fun i h1 h2 => by have h3 : w7.heap.size ≤ i := h1; show ¬ (i = w.heap.size + 1 + 1); omega)).more hs7 (by simp [World.setCell]), (HC.out.trans HK.out).own hcs (by omega)⟩
    obtain ⟨v, rfl⟩ := Int.eq_ofNat_of_zero_le (show 0 ≤ y by omega)
    have hk : v < D.length := by omega
    go_wp2_with fail
    refine (HST.out (v : Int) _).mono ?_
    rintro e w8 ⟨rfl, hc8⟩
    obtain ⟨⟨b1, b2, b3⟩, hbb⟩ : ∃ hb : Hd, Hd.put ⟨a1, a2, a3⟩ n (v : Int) = hb := ⟨_, rfl⟩
    rw [hbb]
    have HBB := Lib.hid hbb
    clear hbb
    clear x0 x1 x2 xf0 xf1 xf2 p0 p1 p2 p3 p4
    replace HBH := Lib.hid (HBH.out.chg hc8 (fun x => x))
    replace HBP := Lib.hid (HBP.out.chg hc8 (fun x => x))
    replace HBR := Lib.hid (HBR.out.chg hc8 (fun x => x))
    replace HC := Lib.hid (HC.out.trans hc8)
    replace HR := Lib.hid (HR.out.new hc8)
    clear hc8
    have hbh := HBH.out
    have x0 : w8.cell? ⟨w.heap.size, 0, none⟩ = some (.int .i64 a1) := (hbh.cell _).trans rfl
    have xf0 := hbh.frozen 0
    have x1 : w8.cell? ⟨w.heap.size, 1, none⟩ = some (.int .i64 a2) := (hbh.cell _).trans rfl
    have xf1 := hbh.frozen 1
    have x2 : w8.cell? ⟨w.heap.size, 2, none⟩ = some (.int .i64 a3) := (hbh.cell _).trans rfl
    have xf2 := hbh.frozen 2
    clear hbh
    have hbp := HBP.out
    have p0 : w8.cell? ⟨(w.heap.size + 1), 0, none⟩ = some (.bool true) := (hbp.cell _).trans rfl
    have p1 : w8.cell? ⟨(w.heap.size + 1), 1, none⟩ = some (.int .i64 fi) := (hbp.cell _).trans rfl
    have p2 : w8.cell? ⟨(w.heap.size + 1), 2, none⟩ = some (.int .i64 pl) := (hbp.cell _).trans rfl
    have p3 : w8.cell? ⟨(w.heap.size + 1), 3, none⟩ = some (.int .i64 va) := (hbp.cell _).trans rfl
    have p4 : w8.cell? ⟨(w.heap.size + 1), 4, none⟩ = some (.int .i64 st) := (hbp.cell _).trans rfl
    clear hbp
    have hcs8 := chg3h (F := (· = w.heap.size)) (g := w.heap.size) (a := .int .i64 b1) (b := .int .i64 b2) (c := .int .i64 b3) (Chg.refl (· = w.heap.size) w8) (.inl rfl)
    have hb8 : Blk (((w8.setCell ⟨w.heap.size, 0, none⟩ (.int .i64 b1)).setCell ⟨w.heap.size, 1, none⟩ (.int .i64 b2)).setCell ⟨w.heap.size, 2, none⟩ (.int .i64 b3)) w.heap.size 38 #[.int .i64 b1, .int .i64 b2, .int .i64 b3] := ((HBH.out.set_ 0 _).set_ 1 _).set_ 2 _
    have HCS8 := Lib.hid hcs8
    have HB8 := Lib.hid hb8
    have HS8 := Lib.hid HC.out.size
    clear hcs8 hb8
    go_wp2_with fail
    obtain ⟨wc, hwc⟩ : ∃ wc, (((w8.setCell ⟨w.heap.size, 0, none⟩ (.int .i64 b1)).setCell ⟨w.heap.size, 1, none⟩ (.int .i64 b2)).setCell ⟨w.heap.size, 2, none⟩ (.int .i64 b3)) = wc := ⟨_, rfl⟩
    have hcs := HCS8.out
    have hb8 := HB8.out
    rw [hwc] at hcs hb8 ⊢
    clear HCS8 HB8 hwc
    clear x0 x1 x2 xf0 xf1 xf2 p0 p1 p2 p3 p4
    replace HBH := Lib.hid hb8
    replace HBP := Lib.hid (HBP.out.chg hcs (by omega))
    replace HBR := Lib.hid (HBR.out.chg hcs (by omega))
    replace HC := Lib.hid (HC.out.own hcs (Nat.le_refl _))
    replace HR := Lib.hid (HR.out.chg hcs (fun i hi he => by have h2 := hi.2; have he' : i = w.heap.size := he; omega))
    have HWR := Lib.hid HBR.out.lt
    clear hb8 hcs
    have hbh := HBH.out
    have x0 : wc.cell? ⟨w.heap.size, 0, none⟩ = some (.int .i64 b1) := (hbh.cell _).trans rfl
    have xf0 := hbh.frozen 0
    have x1 : wc.cell? ⟨w.heap.size, 1, none⟩ = some (.int .i64 b2) := (hbh.cell _).trans rfl
    have xf1 := hbh.frozen 1
    have x2 : wc.cell? ⟨w.heap.size, 2, none⟩ = some (.int .i64 b3) := (hbh.cell _).trans rfl
    have xf2 := hbh.frozen 2
    clear hbh
    have hbp := HBP.out
    have p0 : wc.cell? ⟨(w.heap.size + 1), 0, none⟩ = some (.bool true) := (hbp.cell _).trans rfl
    have p1 : wc.cell? ⟨(w.heap.size + 1), 1, none⟩ = some (.int .i64 fi) := (hbp.cell _).trans rfl
    have p2 : wc.cell? ⟨(w.heap.size + 1), 2, none⟩ = some (.int .i64 pl) := (hbp.cell _).trans rfl
    have p3 : wc.cell? ⟨(w.heap.size + 1), 3, none⟩ = some (.int .i64 va) := (hbp.cell _).trans rfl
    have p4 : wc.cell? ⟨(w.heap.size + 1), 4, none⟩ = some (.int .i64 st) := (hbp.cell _).trans rfl
    clear hbp
    go_wp2_with fail
    refine (sProgram_any _ (some ⟨bb, oo, none⟩) c D v ⟨true, fi, pl, va, st⟩ _ HR.out HD.out hk HP.out rfl).mono ?_
    rintro e w9 ⟨A9, c9, T9, rfl, hT9, hO9, hc9⟩
    have HS9 := Lib.hid HC.out.size
    clear x0 x1 x2 xf0 xf1 xf2 p0 p1 p2 p3 p4
    replace HBH := Lib.hid (HBH.out.chg hc9 (fun x => x))
    replace HBP := Lib.hid (HBP.out.chg hc9 (fun x => x))
    replace HBR := Lib.hid (HBR.out.chg hc9 (fun x => x))
    replace HC := Lib.hid (HC.out.trans hc9)
    replace HR := Lib.hid (HR.out.new hc9)
    clear hc9
    have hbh := HBH.out
    have hbr := HBR.out
    have x0 : w9.cell? ⟨w.heap.size, 0, none⟩ = some (.int .i64 b1) := (hbh.cell _).trans rfl
    have x1 : w9.cell? ⟨w.heap.size, 1, none⟩ = some (.int .i64 b2) := (hbh.cell _).trans rfl
    have x2 : w9.cell? ⟨w.heap.size, 2, none⟩ = some (.int .i64 b3) := (hbh.cell _).trans rfl
    have r0 : w9.cell? ⟨(w.heap.size + 1 + 1), 0, none⟩ = some (.int .i64 0) := (hbr.cell _).trans rfl
    have rf0 := hbr.frozen 0
    have r1 : w9.cell? ⟨(w.heap.size + 1 + 1), 1, none⟩ = some (.int .i64 0) := (hbr.cell _).trans rfl
    have rf1 := hbr.frozen 1
    have r2 : w9.cell? ⟨(w.heap.size + 1 + 1), 2, none⟩ = some (.int .i64 0) := (hbr.cell _).trans rfl
    have rf2 := hbr.frozen 2
    have hne1 : w.heap.size ≠ w.heap.size + 1 + 1 := by omega
    have hne2 : w.heap.size + 1 + 1 ≠ w.heap.size := by omega
    have HT9 := Lib.hid hT9
    have HO9 := Lib.hid hO9
    obtain ⟨zz, hzz⟩ : ∃ zz, (program D (v : Int) ⟨true, fi, pl, va, st⟩).2 = zz := ⟨_, rfl⟩
    have HZZ := Lib.hid hzz
    rw [hzz]
    clear hbh hbr hT9 hO9 hzz
    go_wp2_with fail
    go_region
    go_wp2_with fail
    (try simp only [Exit.inBlock, Exit.then])
    refine bodyPost_ret (v := .tuple #[.slice A9 D.length c9, .agg #[.int .i64 b1, .int .i64 b2, .int .i64 b3], .int .i64 zz]) (by simp [results, Try.results87, go_sem, *]) rfl ?_
    rw [HPR.out]
    have hcs := chg3h (F := (· = w.heap.size + 1 + 1)) (g := w.heap.size + 1 + 1) (a := .int .i64 b1) (b := .int .i64 b2) (c := .int .i64 b3) (Chg.refl (· = w.heap.size + 1 + 1) w9) (.inl rfl)
    have hs9 := HS9.out
    have hlt := HBR.out.lt
    unfold AppP
    rw [HNF.out v HWHY.out HY.out, HBB.out]
    exact ⟨A9, c9, T9, by rw [HZZ.out], HT9.out, ((HO9.out.chg hcs (fun i h1 h2 => by have := HWR.out; omega)).more hs9 (by simp [World.setCell])).new (Chg.refl NoB _).drew, (HC.out.own hcs (by omega)).drew⟩
  have HL4 := Lib.hid hl4
  rw [next_free HBK.out hl4]
  have hln : ¬ ((lead D[u].pages : Int) < 0) := by omega
  have hln0 : (0 : Int) ≤ (lead D[u].pages : Int) := Int.natCast_nonneg _
  have HWR := Lib.hid HBR.out.lt
  clear hl4
  go_wp2_with fail
  refine (sProgram_any _ (some ⟨bb, oo, none⟩) c D u ⟨true, fi, pl, va, st⟩ _ HR.out HD.out hk HP.out rfl).mono ?_
  rintro e w9 ⟨A9, c9, T9, rfl, hT9, hO9, hc9⟩
  have HS9 := Lib.hid HC.out.size
  clear x0 x1 x2 xf0 xf1 xf2 p0 p1 p2 p3 p4
  replace HBH := Lib.hid (HBH.out.chg hc9 (fun x => x))
  replace HBP := Lib.hid (HBP.out.chg hc9 (fun x => x))
  replace HBR := Lib.hid (HBR.out.chg hc9 (fun x => x))
  replace HC := Lib.hid (HC.out.trans hc9)
  replace HR := Lib.hid (HR.out.new hc9)
  clear hc9
  have hbh := HBH.out
  have hbr := HBR.out
  have x0 : w9.cell? ⟨w.heap.size, 0, none⟩ = some (.int .i64 a1) := (hbh.cell _).trans rfl
  have x1 : w9.cell? ⟨w.heap.size, 1, none⟩ = some (.int .i64 a2) := (hbh.cell _).trans rfl
  have x2 : w9.cell? ⟨w.heap.size, 2, none⟩ = some (.int .i64 a3) := (hbh.cell _).trans rfl
  have r0 : w9.cell? ⟨(w.heap.size + 1 + 1), 0, none⟩ = some (.int .i64 0) := (hbr.cell _).trans rfl
  have rf0 := hbr.frozen 0
  have r1 : w9.cell? ⟨(w.heap.size + 1 + 1), 1, none⟩ = some (.int .i64 0) := (hbr.cell _).trans rfl
  have rf1 := hbr.frozen 1
  have r2 : w9.cell? ⟨(w.heap.size + 1 + 1), 2, none⟩ = some (.int .i64 0) := (hbr.cell _).trans rfl
  have rf2 := hbr.frozen 2
  have hne1 : w.heap.size ≠ w.heap.size + 1 + 1 := by omega
  have hne2 : w.heap.size + 1 + 1 ≠ w.heap.size := by omega
  have HT9 := Lib.hid hT9
  have HO9 := Lib.hid hO9
  obtain ⟨zz, hzz⟩ : ∃ zz, (program D (u : Int) ⟨true, fi, pl, va, st⟩).2 = zz := ⟨_, rfl⟩
  have HZZ := Lib.hid hzz
  rw [hzz]
  clear hbh hbr hT9 hO9 hzz
  go_wp2_with fail
  go_region
  go_wp2_with fail
  (try simp only [Exit.inBlock, Exit.then])
  refine bodyPost_ret (v := .tuple #[.slice A9 D.length c9, .agg #[.int .i64 a1, .int .i64 a2, .int .i64 a3], .int .i64 zz]) (by simp [results, Try.results87, go_sem, *]) rfl ?_
  rw [HPR.out]
  have hcs := chg3h (F := (· = w.heap.size + 1 + 1)) (g := w.heap.size + 1 + 1) (a := .int .i64 a1) (b := .int .i64 a2) (c := .int .i64 a3) (Chg.refl (· = w.heap.size + 1 + 1) w9) (.inl rfl)
  have hs9 := HS9.out
  have hlt := HBR.out.lt
  unfold AppP
  rw [HNX.out u HZ.out hk HL4.out]
  exact ⟨A9, c9, T9, by rw [HZZ.out], HT9.out, ((HO9.out.chg hcs (fun i h1 h2 => by have := HWR.out; omega)).more hs9 (by simp [World.setCell])).new (Chg.refl NoB _).drew, (HC.out.own hcs (by omega)).drew⟩
end Go.Proofs.Ytenbbkmbnpdfaaa
