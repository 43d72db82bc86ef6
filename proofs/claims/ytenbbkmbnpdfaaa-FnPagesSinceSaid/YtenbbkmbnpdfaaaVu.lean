/- EraseBlock, copies of devices, EraseAt of the program and of the reference. -/
import Derived.Test.YtenbbkmbnpdfaaaVt
import Derived.Test.YtenbbkmbnpdfaaaVe
namespace Go.Proofs.Ytenbbkmbnpdfaaa
open Go.RowKit
theorem BkO.cells4 {r : BkO} (h : r.ps.length = 4) : r.cells = [.int .i64 r.wear, .slice (some ⟨r.g, 0, none⟩) 4 r.c] := by unfold BkO.cells; rw [h]
def EraseBP (w : World) (b : Bk) (e : Ending) (w' : World) : Prop :=
  ∃ g c rest, e = .returned (.tuple #[.agg #[.int .i64 (eraseBlock b).1.wear, .slice (some ⟨g, 0, none⟩) 4 c], .bool (eraseBlock b).2]) ∧ (eraseBlock b).1.pages.length = 4 ∧ BkO.ok w.heap.size w'.heap.size w' ⟨g, c, (eraseBlock b).1.wear, (eraseBlock b).1.pages, rest⟩ ∧ Chg NoB w w'
theorem eraseBlock_old {b : Bk} (h : BkOk b) (h1 : b.wear = 100) : eraseBlock b = (b, false) := by unfold eraseBlock; rw [if_pos h, if_pos h1]
theorem eraseBlock_new {b : Bk} (h : BkOk b) (h1 : ¬ b.wear = 100) : eraseBlock b = (⟨b.wear + 1, List.replicate 4 zPg⟩, true) := by
  unfold eraseBlock; rw [if_pos h, if_neg h1, newBlock_ok (by have := h.1; omega)]
theorem bcells_split {T : List BkO} {k : Nat} (hk : k < T.length) : bcells T = bcells (T.take k) ++ .int .i64 T[k].wear :: .slice (some ⟨T[k].g, 0, none⟩) T[k].ps.length T[k].c :: bcells (T.drop (k + 1)) := by
  conv => lhs; rw [← List.take_append_drop k T, List.drop_eq_getElem_cons hk]
  rw [bcells_append]
  rfl
theorem bcells_set {T : List BkO} {k : Nat} (hk : k < T.length) (r : BkO) : bcells (T.set k r) = bcells (T.take k) ++ .int .i64 r.wear :: .slice (some ⟨r.g, 0, none⟩) r.ps.length r.c :: bcells (T.drop (k + 1)) := by
  rw [List.set_eq_take_append_cons_drop, if_pos hk, bcells_append]
  rfl
theorem bksOf_set (T : List BkO) (k : Nat) (r : BkO) : bksOf (T.set k r) = (bksOf T).set k r.bk := by unfold bksOf; rw [List.map_set]
/-- One block of a device is laid anew. -/
theorem DevQ.setBk {B E E' : Nat} {w : World} {g c k : Nat} {T : List BkO} {rest : List Value} {r : BkO} (h : DevQ B E w (some ⟨g, 0, none⟩) c T) (hb : Blk w g 44 (bcells T ++ rest).toArray) (hg : B ≤ g ∧ g < E) (hk : k < T.length) (hr : r.ok B E' w) (hE : E ≤ r.g) :
    DevQ B E' ((w.setCell ⟨g, k * 2, none⟩ (.int .i64 r.wear)).setCell ⟨g, k * 2 + 1, none⟩ (.slice (some ⟨r.g, 0, none⟩) r.ps.length r.c)) (some ⟨g, 0, none⟩) c (T.set k r) := by
  have hl : (bcells (T.take k)).length = k * 2 := by rw [bcells_length, List.length_take]; omega
  rw [bcells_split hk, List.append_assoc] at hb
  have hf := hb.fill2 hl (.int .i64 r.wear) (.slice (some ⟨r.g, 0, none⟩) r.ps.length r.c)
  have hc := chg2 (F := (· = g)) (a := .int .i64 r.wear) (b := .slice (some ⟨r.g, 0, none⟩) r.ps.length r.c) (Chg.refl (· = g) w) (.inl rfl) (k * 2)
  have hn := (h.1.2.set_ k hr hE).head hb hc
  refine ⟨⟨⟨by rw [List.length_set]; exact h.1.1.1, .inr ⟨g, rest, rfl, hg.1, ?_, ?_⟩⟩, hn⟩, fun _ => ?_⟩
  rotate_left 2
  · obtain ⟨hm, g', cs, e, hb2, hs⟩ := h.2 (by omega)
    injection e with e
    injection e with e
    subst e
    exact ⟨hm, g, _, rfl, (hb2.set_ (k * 2) _).set_ (k * 2 + 1) _, by simpa using hs⟩
  · have := hr.2.1; omega
  · rw [bcells_set hk, List.append_assoc]
    exact hf
theorem DevO.room {w : World} {g k : Nat} {T : List BkO} {rest : List Value} (hb : Blk w g 44 (bcells T ++ rest).toArray) (hk : k < T.length) :
    w.cell? ⟨g, k * 2, none⟩ = some (.int .i64 T[k].wear) ∧ w.cell? ⟨g, k * 2 + 1, none⟩ = some (.slice (some ⟨T[k].g, 0, none⟩) T[k].ps.length T[k].c) := by
  have hl : (bcells (T.take k)).length = k * 2 := by rw [bcells_length, List.length_take]; omega
  rw [bcells_split hk, List.append_assoc] at hb
  exact hb.room2 hl
set_option maxRecDepth 100000 in
set_option maxHeartbeats 1000000 in
theorem iEraseBlock_any (F : Nat → Prop) (A : Option Addr) (c : Nat) (b : Bk) (w : World) (h : Rd F w A (pgs b.pages)) (hb : BkOk b) :
    Calls Try.prog 73 #[.agg #[.int .i64 b.wear, .slice A 4 c]] w (EraseBP w b) := by
  obtain ⟨q1, q2, q3⟩ := lit2 w 44 44 #[.int .i64 b.wear, .slice A 4 c] #[.int .i64 0, .slice none 0 0]
  have HV := Lib.hid (show ∀ wq, Rd F wq A (pgs b.pages) → Calls Try.prog 59 #[.agg #[.int .i64 b.wear, .slice A 4 c]] wq fun e w' => e = .returned (.bool true) ∧ Chg NoB wq w' from fun wq hq => by
    have := iBlockValid_t F A c b wq hq hb
    rwa [hb.2.1] at this)
  have hr3 := h.new q3
  have HB1 := Lib.hid q1
  have HB2 := Lib.hid q2
  have HC3 := Lib.hid q3
  have HR3 := Lib.hid hr3
  have HB := Lib.hid hb
  clear q1 q2 q3 hr3 h hb
  go_enter Try.func73, Try.ntmps73
  go_wp2_with fail
  refine (HV.out _ HR3.out).mono ?_
  rintro e w1 ⟨rfl, hc1⟩
  have hb1 := HB1.out.chg hc1 (fun x => x)
  have hb2 := HB2.out.chg hc1 (fun x => x)
  have v0 : w1.cell? ⟨w.heap.size, 0, none⟩ = some (.int .i64 b.wear) := (hb1.cell _).trans rfl
  have v1 : w1.cell? ⟨w.heap.size, 1, none⟩ = some (.slice A 4 c) := (hb1.cell _).trans rfl
  have HB21 := Lib.hid hb2
  have HC1 := Lib.hid (HC3.out.trans hc1)
  have HR1 := Lib.hid (HR3.out.new hc1)
  have HW0 := Lib.hid hb2.lt
  clear hb1 hb2 hc1
  by_cases h100 : b.wear = 100
  · have hq : (b.wear == 100) = true := beq_iff_eq.2 h100
    have HQ := Lib.hid (eraseBlock_old HB.out h100)
    clear h100
    go_wp2_with fail
    refine (cloneBlock_any F A c b.wear b.pages _ HR1.out HB.out.2.1).mono ?_
    rintro e w2 ⟨g, c', rest, rfl, h4, hok, hc2⟩
    have hb2 := HB21.out.chg hc2 (fun x => x)
    have x0 : w2.cell? ⟨(w.heap.size + 1), 0, none⟩ = some (.int .i64 0) := (hb2.cell _).trans rfl
    have f0 := hb2.frozen 0
    have x1 : w2.cell? ⟨(w.heap.size + 1), 1, none⟩ = some (.slice none 0 0) := (hb2.cell _).trans rfl
    have f1 := hb2.frozen 1
    have HOK := Lib.hid hok
    have HC2 := Lib.hid (HC1.out.trans hc2)
    clear hok hc2 hb2
    go_wp2_with fail
    (try simp only [Exit.inBlock, Exit.then])
    refine bodyPost_ret (v := .tuple #[.agg #[.int .i64 b.wear, .slice (some ⟨g, 0, none⟩) 4 c'], .bool false]) (by simp [results, Try.results73, go_sem, *]) rfl ?_
    have hcs := chg2' (F := (· = w.heap.size + 1)) (a := .int .i64 b.wear) (b := .slice (some ⟨g, 0, none⟩) 4 c') (Chg.refl (· = w.heap.size + 1) w2) (.inl rfl)
    unfold EraseBP
    rw [HQ.out]
    have hg := HOK.out.1
    have hw := HW0.out
    have hgE := HOK.out.2.1
    exact ⟨g, c', rest, rfl, h4, ⟨by show w.heap.size ≤ g; have : w1.heap.size ≤ g := hg; omega, by simpa [World.setCell] using hgE, HOK.out.2.2.1.chg hcs (by show ¬ (g = w.heap.size + 1); have : w1.heap.size ≤ g := hg; omega), HOK.out.2.2.2⟩, HC2.out.own hcs (by omega)⟩
  · have hq : (b.wear == 100) = false := beq_eq_false_iff_ne.2 h100
    have HQ := Lib.hid (eraseBlock_new HB.out h100)
    have hwr := HB.out.1
    have HWR := Lib.hid (show 0 ≤ b.wear + 1 ∧ b.wear + 1 ≤ 100 by omega)
    obtain ⟨hw0, hw1⟩ := hwr
    clear h100
    go_wp2_with fail
    refine (iNewBlock_any (b.wear + 1) _ HWR.out).mono ?_
    rintro e w2 ⟨g, c', rest, rfl, h4, hok, hc2⟩
    have hb2 := HB21.out.chg hc2 (fun x => x)
    have x0 : w2.cell? ⟨(w.heap.size + 1), 0, none⟩ = some (.int .i64 0) := (hb2.cell _).trans rfl
    have f0 := hb2.frozen 0
    have x1 : w2.cell? ⟨(w.heap.size + 1), 1, none⟩ = some (.slice none 0 0) := (hb2.cell _).trans rfl
    have f1 := hb2.frozen 1
    have HOK := Lib.hid hok
    have HC2 := Lib.hid (HC1.out.trans hc2)
    clear hok hc2 hb2
    go_wp2_with fail
    (try simp only [Exit.inBlock, Exit.then])
    refine bodyPost_ret (v := .tuple #[.agg #[.int .i64 (b.wear + 1), .slice (some ⟨g, 0, none⟩) 4 c'], .bool true]) (by simp [results, Try.results73, go_sem, *]) rfl ?_
    have hcs := chg2' (F := (· = w.heap.size + 1)) (a := .int .i64 (b.wear + 1)) (b := .slice (some ⟨g, 0, none⟩) 4 c') (Chg.refl (· = w.heap.size + 1) w2) (.inl rfl)
    unfold EraseBP
    rw [HQ.out]
    have hg := HOK.out.1
    have hw := HW0.out
    have hgE := HOK.out.2.1
    exact ⟨g, c', rest, rfl, h4, ⟨by show w.heap.size ≤ g; have : w1.heap.size ≤ g := hg; omega, by simpa [World.setCell] using hgE, HOK.out.2.2.1.chg hcs (by show ¬ (g = w.heap.size + 1); have : w1.heap.size ≤ g := hg; omega), HOK.out.2.2.2⟩, HC2.out.own hcs (by omega)⟩
set_option maxRecDepth 100000 in
set_option maxHeartbeats 1000000 in
theorem sEraseBlock_any (F : Nat → Prop) (A : Option Addr) (c : Nat) (b : Bk) (w : World) (h : Rd F w A (pgs b.pages)) (hb : BkOk b) :
    Calls Try.prog 75 #[.agg #[.int .i64 b.wear, .slice A 4 c]] w (EraseBP w b) := by
  obtain ⟨q1, q2, q3⟩ := lit2 w 44 44 #[.int .i64 b.wear, .slice A 4 c] #[.int .i64 0, .slice none 0 0]
  have HV := Lib.hid (show ∀ wq, Rd F wq A (pgs b.pages) → Calls Try.prog 84 #[.agg #[.int .i64 b.wear, .slice A 4 c]] wq fun e w' => e = .returned (.bool true) ∧ Chg NoB wq w' from fun wq hq => by
    have := sBlockValid_t F A c b wq hq hb
    rwa [hb.2.1] at this)
  have hr3 := h.new q3
  have HB1 := Lib.hid q1
  have HB2 := Lib.hid q2
  have HC3 := Lib.hid q3
  have HR3 := Lib.hid hr3
  have HB := Lib.hid hb
  clear q1 q2 q3 hr3 h hb
  go_enter Try.func75, Try.ntmps75
  go_wp2_with fail
  refine (HV.out _ HR3.out).mono ?_
  rintro e w1 ⟨rfl, hc1⟩
  have hb1 := HB1.out.chg hc1 (fun x => x)
  have hb2 := HB2.out.chg hc1 (fun x => x)
  have v0 : w1.cell? ⟨w.heap.size, 0, none⟩ = some (.int .i64 b.wear) := (hb1.cell _).trans rfl
  have v1 : w1.cell? ⟨w.heap.size, 1, none⟩ = some (.slice A 4 c) := (hb1.cell _).trans rfl
  have HB21 := Lib.hid hb2
  have HC1 := Lib.hid (HC3.out.trans hc1)
  have HR1 := Lib.hid (HR3.out.new hc1)
  have HW0 := Lib.hid hb2.lt
  clear hb1 hb2 hc1
  by_cases h100 : b.wear = 100
  · have hq : (b.wear == 100) = true := beq_iff_eq.2 h100
    have HQ := Lib.hid (eraseBlock_old HB.out h100)
    clear h100
    go_wp2_with fail
    refine (l4Copy_any F A c b.wear b.pages _ HR1.out HB.out.2.1).mono ?_
    rintro e w2 ⟨g, c', rest, rfl, h4, hok, hc2⟩
    have hb2 := HB21.out.chg hc2 (fun x => x)
    have x0 : w2.cell? ⟨(w.heap.size + 1), 0, none⟩ = some (.int .i64 0) := (hb2.cell _).trans rfl
    have f0 := hb2.frozen 0
    have x1 : w2.cell? ⟨(w.heap.size + 1), 1, none⟩ = some (.slice none 0 0) := (hb2.cell _).trans rfl
    have f1 := hb2.frozen 1
    have HOK := Lib.hid hok
    have HC2 := Lib.hid (HC1.out.trans hc2)
    clear hok hc2 hb2
    go_wp2_with fail
    (try simp only [Exit.inBlock, Exit.then])
    refine bodyPost_ret (v := .tuple #[.agg #[.int .i64 b.wear, .slice (some ⟨g, 0, none⟩) 4 c'], .bool false]) (by simp [results, Try.results75, go_sem, *]) rfl ?_
    have hcs := chg2' (F := (· = w.heap.size + 1)) (a := .int .i64 b.wear) (b := .slice (some ⟨g, 0, none⟩) 4 c') (Chg.refl (· = w.heap.size + 1) w2) (.inl rfl)
    unfold EraseBP
    rw [HQ.out]
    have hg := HOK.out.1
    have hw := HW0.out
    have hgE := HOK.out.2.1
    exact ⟨g, c', rest, rfl, h4, ⟨by show w.heap.size ≤ g; have : w1.heap.size ≤ g := hg; omega, by simpa [World.setCell] using hgE, HOK.out.2.2.1.chg hcs (by show ¬ (g = w.heap.size + 1); have : w1.heap.size ≤ g := hg; omega), HOK.out.2.2.2⟩, HC2.out.own hcs (by omega)⟩
  · have hq : (b.wear == 100) = false := beq_eq_false_iff_ne.2 h100
    have HQ := Lib.hid (eraseBlock_new HB.out h100)
    have hwr := HB.out.1
    have HWR := Lib.hid (show 0 ≤ b.wear + 1 ∧ b.wear + 1 ≤ 100 by omega)
    obtain ⟨hw0, hw1⟩ := hwr
    clear h100
    go_wp2_with fail
    refine (sNewBlock_any (b.wear + 1) _ HWR.out).mono ?_
    rintro e w2 ⟨g, c', rest, rfl, h4, hok, hc2⟩
    have hb2 := HB21.out.chg hc2 (fun x => x)
    have x0 : w2.cell? ⟨(w.heap.size + 1), 0, none⟩ = some (.int .i64 0) := (hb2.cell _).trans rfl
    have f0 := hb2.frozen 0
    have x1 : w2.cell? ⟨(w.heap.size + 1), 1, none⟩ = some (.slice none 0 0) := (hb2.cell _).trans rfl
    have f1 := hb2.frozen 1
    have HOK := Lib.hid hok
    have HC2 := Lib.hid (HC1.out.trans hc2)
    clear hok hc2 hb2
    go_wp2_with fail
    (try simp only [Exit.inBlock, Exit.then])
    refine bodyPost_ret (v := .tuple #[.agg #[.int .i64 (b.wear + 1), .slice (some ⟨g, 0, none⟩) 4 c'], .bool true]) (by simp [results, Try.results75, go_sem, *]) rfl ?_
    have hcs := chg2' (F := (· = w.heap.size + 1)) (a := .int .i64 (b.wear + 1)) (b := .slice (some ⟨g, 0, none⟩) 4 c') (Chg.refl (· = w.heap.size + 1) w2) (.inl rfl)
    unfold EraseBP
    rw [HQ.out]
    have hg := HOK.out.1
    have hw := HW0.out
    have hgE := HOK.out.2.1
    exact ⟨g, c', rest, rfl, h4, ⟨by show w.heap.size ≤ g; have : w1.heap.size ≤ g := hg; omega, by simpa [World.setCell] using hgE, HOK.out.2.2.1.chg hcs (by show ¬ (g = w.heap.size + 1); have : w1.heap.size ≤ g := hg; omega), HOK.out.2.2.2⟩, HC2.out.own hcs (by omega)⟩
set_option maxRecDepth 100000 in
set_option maxHeartbeats 2000000 in
theorem cloneDevice_any (F : Nat → Prop) (A : Option Addr) (c : Nat) (D : List Bk) (w : World) (h : DevR F w A D) (hD : DvOk D) :
    Calls Try.prog 72 #[.slice A D.length c] w (DevP w D) := by
  obtain ⟨i0, hi, hz0, hz1, hz2⟩ := info_parts info_block
  have hl12 := hD.1.2
  have hmk := fun W => run_make_reps (P := Try.prog) 24 44 i0 _ [.int .i64 0, .slice none 0 0] Try.underlying24 hi hz0 rfl hz1 D.length (by rw [hz2]; omega) (by omega) W
  have HX := Lib.hid hD
  clear hD
  go_enter Try.func72, Try.ntmps72
  go_wp2
  go_loopw [11] (fun i wr => ∃ (k : Nat) (T : List BkO), k ≤ D.length ∧ i = .int .i64 k ∧ Chg NoB w wr ∧ Hid (bksOf T = D.take k) ∧ BksO (w.heap.size + 1) wr.heap.size wr T ∧ Blk wr w.heap.size 44 (bcells T ++ reps (D.length - k) [.int .i64 0, .slice none 0 0]).toArray) (fun i _ => D.length - (intOf i).toNat)
  case atStart => exact ⟨0, [], Nat.zero_le _, rfl, (Chg.refl _ _).alloc _, Lib.hid rfl, BksO.nil _ _ _, Blk.new _ _ _⟩
  case round =>
    obtain ⟨k, T, hk, rfl, hch, hT, hrows, hb⟩ := hrel
    have hTl : T.length = k := by have := congrArg List.length hT.out; rw [bksOf_length, List.length_take] at this; omega
    by_cases hlt : k < D.length
    · obtain ⟨bb, o, A', c', rfl, hf, c0, c1, hr, hcc⟩ := (h.new hch) k hlt
      have h4 := (HX.out.2 k hlt).2.1
      rw [h4] at c1
      have hi0 : (0 : Int) ≤ (k : Int) := Int.natCast_nonneg _
      have hi1 : (k : Int) < (D.length : Int) := by omega
      have hca := (Chg.refl NoB wr).alloc (.cells #[.int .i64 D[k].wear, .slice A' 4 c'] 44)
      have HC := Lib.hid (hch.trans hca)
      have HB := Lib.hid (hb.chg hca (fun x => x))
      have HR := Lib.hid (hrows.new hca)
      have HRD := Lib.hid (hr.new hca)
      have HTL := Lib.hid hTl
      have HSA := Lib.hid hca.size
      have HSZ0 := Lib.hid hch.size
      have HH4 := Lib.hid h4
      clear hch hb hrows hr hTl hca h4
      go_wp2_with fail
      refine (cloneBlock_any _ A' c' D[k].wear D[k].pages _ HRD.out HH4.out).mono ?_
      rintro e w1 ⟨g1, c2, rest2, rfl, h4, hok1, hc2⟩
      have hb2 := HB.out.chg hc2 (fun x => x)
      obtain ⟨r, hr⟩ : ∃ r, D.length - k = r + 1 := ⟨D.length - k - 1, by omega⟩
      have hr1 : D.length - (k + 1) = r := by omega
      rw [hr, reps_succ] at hb2
      have hlenT : (bcells T).length = k * 2 := by rw [bcells_length, HTL.out]
      obtain ⟨x0, x1⟩ := hb2.room2 hlenT
      have f0 := hb2.frozen (k * 2)
      have f1 := hb2.frozen (k * 2 + 1)
      have hws := HB.out.lt
      have hsa := HSA.out
      have hsz0 := HSZ0.out
      have HF := Lib.hid (hb2.fill2 hlenT (.int .i64 D[k].wear) (.slice (some ⟨g1, 0, none⟩) 4 c2))
      have hcs := chg2 (F := (· = w.heap.size)) (a := .int .i64 D[k].wear) (b := .slice (some ⟨g1, 0, none⟩) 4 c2) (Chg.refl (· = w.heap.size) w1) (.inl rfl) (k * 2)
      have hg1 := hok1.1
      have hok := hok1.more (show w.heap.size + 1 ≤ (wr.alloc (.cells #[.int .i64 D[k].wear, .slice A' 4 c'] 44)).heap.size by omega) (Nat.le_refl _)
      have hsz1 : ((w1.setCell ⟨w.heap.size, k * 2, none⟩ (.int .i64 D[k].wear)).setCell ⟨w.heap.size, k * 2 + 1, none⟩ (.slice (some ⟨g1, 0, none⟩) 4 c2)).heap.size = w1.heap.size := by simp [World.setCell]
      have HRW := Lib.hid ((((HR.out.new hc2).more (Nat.le_refl _) hsa).snoc hok hg1).chg hcs (fun i h1 h2 => by omega))
      have HCW := Lib.hid ((HC.out.trans hc2).trans' hcs (fun i hi => .inr (by omega)))
      have HSZ := Lib.hid hsz1
      have HL := Lib.hid (show bksOf (T ++ [⟨g1, c2, D[k].wear, D[k].pages, rest2⟩]) = D.take (k + 1) by
        unfold bksOf at *
        rw [List.map_append, hT.out, List.take_succ_eq_append_getElem hlt]; rfl)
      have HR1 := Lib.hid hr1
      have H42 := Lib.hid h4
      clear hr hr1 hlenT hb2 hok hok1 hcs hsz1 hc2 hg1 c0 c1 h4 hsa hsz0
      go_wp2
      go_roundw
      case rel =>
        refine ⟨k + 1, T ++ [⟨g1, c2, D[k].wear, D[k].pages, rest2⟩], by omega, by go_num, HCW.out, HL, by rw [HSZ.out]; exact HRW.out, ?_⟩
        rw [HR1.out, bcells_snoc, List.append_assoc]
        rw [BkO.cells4 (r := ⟨g1, c2, D[k].wear, D[k].pages, rest2⟩) H42.out]
        exact HF.out
      case measure => simp [intOf]; omega
    · obtain rfl : k = D.length := by omega
      have HB := Lib.hid hb
      have HC := Lib.hid hch
      have HR := Lib.hid hrows
      clear hb hch hrows
      go_wp2
      go_ret
      have hTX : bksOf T = D := by have := hT.out; rwa [List.take_length] at this
      refine ⟨some ⟨w.heap.size, 0, none⟩, D.length, T, rfl, hTX, ?_, HC.out⟩
      have hb := HB.out
      rw [Nat.sub_self, reps_zero, List.append_nil] at hb
      exact DevQ.of_blk hb (HR.out.more (by omega) (Nat.le_refl _)) (Nat.le_refl _) hb.lt hTl (by unfold maxLen; omega)
set_option maxRecDepth 100000 in
set_option maxHeartbeats 2000000 in
theorem l5Copy_any (F : Nat → Prop) (A : Option Addr) (c : Nat) (D : List Bk) (w : World) (h : DevR F w A D) (hD : DvOk D) :
    Calls Try.prog 74 #[.slice A D.length c] w (DevP w D) := by
  obtain ⟨i0, hi, hz0, hz1, hz2⟩ := info_parts info_block
  have hl12 := hD.1.2
  have HE := Lib.hid (own_empty w 44 2 w.heap.size (Nat.le_refl _))
  have HX := Lib.hid hD
  clear hD
  go_enter Try.func74, Try.ntmps74
  go_wp2
  go_loopw [3, 4] (fun v i wr => ∃ (k : Nat) (T : List BkO), k ≤ D.length ∧ i = .int .i64 k ∧ Chg NoB w wr ∧ Hid (bksOf T = D.take k) ∧ BksO w.heap.size wr.heap.size wr T ∧ wr.ownsRow w.heap.size 44 2 v k (bcells T)) (fun _ i _ => D.length - (intOf i).toNat)
  case atStart => exact ⟨0, [], Nat.zero_le _, rfl, (Chg.refl _ _).alloc _, Lib.hid rfl, BksO.nil _ _ _, HE.out⟩
  case round =>
    obtain ⟨wo, rfl⟩ : ∃ wo, wo = wr := ⟨_, rfl⟩
    obtain ⟨k, T, hk, rfl, hch, hT, hrows, how⟩ := hrel
    have hTl : T.length = k := by have := congrArg List.length hT.out; rw [bksOf_length, List.length_take] at this; omega
    have HC := Lib.hid hch
    have HO := Lib.hid how
    have HR := Lib.hid hrows
    have HTL := Lib.hid hTl
    by_cases hlt : k < D.length
    · obtain ⟨bb, o, A', c', rfl, hf, c0, c1, hr, hcc⟩ := (h.new hch) k hlt
      have h4 := (HX.out.2 k hlt).2.1
      rw [h4] at c1
      have HH4 := Lib.hid h4
      have HRD := Lib.hid hr
      have hi0 : (0 : Int) ≤ (k : Int) := Int.natCast_nonneg _
      have hi1 : (k : Int) < (D.length : Int) := by omega
      clear hch how hrows hTl hr h4
      go_wp2_with fail
      refine (l4Copy_any _ A' c' D[k].wear D[k].pages _ HRD.out HH4.out).mono ?_
      rintro e w2 ⟨g1, c2, rest2, rfl, h4, hok1, hc2⟩
      have HOK := Lib.hid hok1
      have HC2 := Lib.hid (HC.out.trans hc2)
      have HO2 := Lib.hid (own_chg HO.out hc2 (fun _ _ x => x))
      have HR2 := Lib.hid (HR.out.new hc2)
      have hsz := HC.out.size
      have hsz2 := HC2.out.size
      have HL := Lib.hid (show bksOf (T ++ [⟨g1, c2, D[k].wear, D[k].pages, rest2⟩]) = D.take (k + 1) by
        unfold bksOf at *
        rw [List.map_append, hT.out, List.take_succ_eq_append_getElem hlt]; rfl)
      have H42 := Lib.hid h4
      clear hok1 hc2 c0 c1 h4
      go_wp2_with (at_builtin; refine wpList_append_own _ rfl (.tmp 12) (.tmp 18) _ rfl w.heap.size 44 i0 (.agg #[.int .i64 0, .slice none 0 0]) 2 32 Try.underlying24 hi hz0 hz1 hz2 rfl (by decide) _ _ _ rfl (HO2.out.alloc _) ⟨w2.heap.size, 0, none⟩ 1 1 [.int .i64 D[k].wear, .slice (some ⟨g1, 0, none⟩) 4 c2] rfl rfl (cells_new _ _ _) (by simp [Value.oneCell']) (by simp only [maxLen]; omega) (by omega) (by simp; omega) ?_; intro v' w5 hown' hgrow _)
      go_roundw
      case rel =>
        refine ⟨k + 1, T ++ [⟨g1, c2, D[k].wear, D[k].pages, rest2⟩], by omega, by go_num, chg_grown (HO2.out.alloc _) hgrow (HC2.out.alloc _) (Nat.le_refl _), HL, ?_, ?_⟩
        · exact ((HR2.out.snoc (HOK.out.more hsz (Nat.le_refl _)) HOK.out.1).grown ((Chg.refl NoB w2).alloc _) (HO2.out.alloc _) hgrow (Nat.le_refl _))
        · rw [bcells_snoc]
          have ho := hown'
          rw [← H42.out] at ho
          exact ho
      case measure => simp [intOf]; omega
    · obtain rfl : k = D.length := by omega
      clear hch how hrows hTl
      go_wp2_with fail
      go_ret
      obtain ⟨A, c, rfl, hO⟩ := DevQ.of_row HO.out HTL.out HR.out
      have hTX : bksOf T = D := by have := hT.out; rwa [List.take_length] at this
      exact ⟨A, c, T, rfl, hTX, hO, HC.out⟩
end Go.Proofs.Ytenbbkmbnpdfaaa
