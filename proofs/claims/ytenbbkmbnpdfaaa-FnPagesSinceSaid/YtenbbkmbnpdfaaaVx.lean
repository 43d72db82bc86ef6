/- WriteBlock and Program of the reference, where what they take is valid. -/
import Derived.Test.YtenbbkmbnpdfaaaVu
import Derived.Test.YtenbbkmbnpdfaaaVg
namespace Go.Proofs.Ytenbbkmbnpdfaaa
open Go.RowKit
theorem pgs_split {ps : List Pg} {k : Nat} (hk : k < ps.length) : pgs ps = pgs (ps.take k) ++ .bool ps[k].full :: .int .i64 ps[k].file :: .int .i64 ps[k].place :: .int .i64 ps[k].value :: .int .i64 ps[k].stamp :: pgs (ps.drop (k + 1)) := by
  conv => lhs; rw [← List.take_append_drop k ps, List.drop_eq_getElem_cons hk]
  rw [pgs_append]
  rfl
theorem pgs_set {ps : List Pg} {k : Nat} (hk : k < ps.length) (p : Pg) : pgs (ps.set k p) = pgs (ps.take k) ++ .bool p.full :: .int .i64 p.file :: .int .i64 p.place :: .int .i64 p.value :: .int .i64 p.stamp :: pgs (ps.drop (k + 1)) := by
  rw [List.set_eq_take_append_cons_drop, if_pos hk, pgs_append]
  rfl
theorem chg5k {F : Nat → Prop} {w W : World} {g : Nat} {a b c d e : Value} (h : Chg F w W) (hg : F g ∨ w.heap.size ≤ g) (k : Nat) :
    Chg F w (((((W.setCell ⟨g, k, none⟩ a).setCell ⟨g, k + 1, none⟩ b).setCell ⟨g, k + 2, none⟩ c).setCell ⟨g, k + 3, none⟩ d).setCell ⟨g, k + 4, none⟩ e) :=
  ((((h.setCell (p := ⟨g, k, none⟩) hg _).setCell (p := ⟨g, k + 1, none⟩) hg _).setCell (p := ⟨g, k + 2, none⟩) hg _).setCell (p := ⟨g, k + 3, none⟩) hg _).setCell (p := ⟨g, k + 4, none⟩) hg _
theorem writeBlock_full {b : Bk} {p : Pg} (h : BkOk b) (hp : PgOk p) (hf : p.full = true) (hl : ¬ lead b.pages < 4) : writeBlock b p = (b, -1) := by
  unfold writeBlock; rw [if_pos ⟨h, hp, hf⟩, if_neg (by rw [h.2.1]; exact hl)]
theorem writeBlock_free {b : Bk} {p : Pg} (h : BkOk b) (hp : PgOk p) (hf : p.full = true) (hl : lead b.pages < 4) : writeBlock b p = (⟨b.wear, b.pages.set (lead b.pages) p⟩, (lead b.pages : Int)) := by
  unfold writeBlock; rw [if_pos ⟨h, hp, hf⟩, if_pos (by rw [h.2.1]; exact hl)]
theorem next_full {b : Bk} (h : BkOk b) (hl : ¬ lead b.pages < 4) : next b = -1 := by unfold next; rw [if_neg (fun hh => hl (by rw [← h.2.1]; exact hh.2))]
theorem next_free {b : Bk} (h : BkOk b) (hl : lead b.pages < 4) : next b = (lead b.pages : Int) := by unfold next; rw [if_pos ⟨h, by rw [h.2.1]; exact hl⟩]
theorem getD_get {α : Type} (l : List α) (d : α) {k : Nat} (h : k < l.length) : l.getD k d = l[k] := by rw [List.getD_eq_getElem?_getD, List.getElem?_eq_getElem h, Option.getD_some]
/-- A page laid at the head of the free ones leaves the block valid. -/
theorem PgsOk.put {ps : List Pg} (h : PgsOk ps) {p : Pg} (hp : PgOk p) (hl : lead ps < ps.length) (hf : p.full = true) : PgsOk (ps.set (lead ps) p) := fun k hk => by
  rw [List.length_set] at hk
  have hfree := lead_free ps hl
  constructor
  · rw [List.getElem_set]
    split
    · exact hp
    · exact (h k hk).1
  · intro h0 hkf
    rw [getD_get _ _ (by rw [List.length_set]; omega), List.getElem_set]
    split
    · exact hf
    · rename_i hne
      rw [List.getElem_set] at hkf
      split at hkf
      · rename_i he
        exact lead_full ps (k - 1) (by omega) (by omega)
      · have := (h k hk).2 h0 hkf
        rwa [getD_get _ _ (by omega)] at this
theorem BkOk.write {b : Bk} {p : Pg} (h : BkOk b) (hp : PgOk p) (hf : p.full = true) : BkOk (writeBlock b p).1 := by
  by_cases hl : lead b.pages < 4
  · rw [writeBlock_free h hp hf hl]
    exact ⟨h.1, by rw [List.length_set]; exact h.2.1, h.2.2.put hp (by rw [h.2.1]; exact hl) hf⟩
  · rw [writeBlock_full h hp hf hl]
    exact h
theorem writeBlock_wear {b : Bk} {p : Pg} (h : BkOk b) (hp : PgOk p) (hf : p.full = true) : (writeBlock b p).1.wear = b.wear := by
  by_cases hl : lead b.pages < 4
  · rw [writeBlock_free h hp hf hl]
  · rw [writeBlock_full h hp hf hl]
theorem writeBlock_num {b : Bk} {p : Pg} (h : BkOk b) (hp : PgOk p) (hf : p.full = true) : -1 ≤ (writeBlock b p).2 ∧ (writeBlock b p).2 ≤ 3 := by
  by_cases hl : lead b.pages < 4
  · rw [writeBlock_free h hp hf hl]; constructor <;> simp only <;> omega
  · rw [writeBlock_full h hp hf hl]; constructor <;> simp only <;> omega
theorem DvOk.set {D : List Bk} (h : DvOk D) {k : Nat} {b : Bk} (hb : BkOk b) : DvOk (D.set k b) := by
  refine ⟨by rw [List.length_set]; exact h.1, fun j hj => ?_⟩
  rw [List.length_set] at hj
  rw [List.getElem_set]
  split
  · exact hb
  · exact h.2 j hj
theorem program_yes {D : List Bk} {k : Nat} {p : Pg} (h : DvOk D) (hk : k < D.length) (hp : PgOk p) (hf : p.full = true) :
    program D (k : Int) p = if 0 ≤ (writeBlock D[k] p).2 then (D.set k (writeBlock D[k] p).1, 4 * (k : Int) + (writeBlock D[k] p).2) else (D, -1) := by
  unfold program
  rw [if_pos ⟨h, ⟨by omega, by omega⟩, hp, hf⟩, Int.toNat_natCast, getD_get _ _ hk]
theorem DvOk.program {D : List Bk} {k : Nat} {p : Pg} (h : DvOk D) (hk : k < D.length) (hp : PgOk p) (hf : p.full = true) : DvOk (program D (k : Int) p).1 ∧ (program D (k : Int) p).1.length = D.length := by
  rw [program_yes h hk hp hf]
  split
  · exact ⟨h.set ((h.2 k hk).write hp hf), by rw [List.length_set]⟩
  · exact ⟨h, rfl⟩
def WriteBP (w : World) (b : Bk) (p : Pg) (e : Ending) (w' : World) : Prop :=
  ∃ g c rest, e = .returned (.tuple #[.agg #[.int .i64 b.wear, .slice (some ⟨g, 0, none⟩) 4 c], .int .i64 (writeBlock b p).2]) ∧ BkO.ok w.heap.size w'.heap.size w' ⟨g, c, b.wear, (writeBlock b p).1.pages, rest⟩ ∧ Chg NoB w w'
set_option maxRecDepth 100000 in
set_option maxHeartbeats 4000000 in
theorem sWriteBlock_any (F : Nat → Prop) (A : Option Addr) (c : Nat) (b : Bk) (p : Pg) (w : World) (h : Rd F w A (pgs b.pages)) (hb : BkOk b) (hp : PgOk p) (hf : p.full = true) :
    Calls Try.prog 102 #[.agg #[.int .i64 b.wear, .slice A 4 c], pval p] w (WriteBP w b p) := by
  obtain ⟨fu, fi, pl, va, st⟩ := p
  obtain rfl : fu = true := hf
  obtain ⟨q1, q2, q3⟩ := lit2 w 44 60 #[.int .i64 b.wear, .slice A 4 c] #[.bool true, .int .i64 fi, .int .i64 pl, .int .i64 va, .int .i64 st]
  obtain ⟨w2, hw2⟩ : ∃ w2, (w.alloc (.cells #[.int .i64 b.wear, .slice A 4 c] 44)).alloc (.cells #[.bool true, .int .i64 fi, .int .i64 pl, .int .i64 va, .int .i64 st] 60) = w2 := ⟨_, rfl⟩
  have hsz2 : w2.heap.size = w.heap.size + 1 + 1 := by rw [← hw2]; simp [World.size_alloc]
  have hca := (Chg.refl NoB w2).alloc (.cells #[.int .i64 0, .slice none 0 0] 44)
  have q4 := Blk.new w2 44 #[.int .i64 0, .slice none 0 0]
  rw [hw2] at q1 q2 q3
  have HV := Lib.hid (show ∀ wq, Rd F wq A (pgs b.pages) → Calls Try.prog 84 #[.agg #[.int .i64 b.wear, .slice A 4 c]] wq fun e w' => e = .returned (.bool true) ∧ Chg NoB wq w' from fun wq hq => by
    have := sBlockValid_t F A c b wq hq hb
    rwa [hb.2.1] at this)
  have HN := Lib.hid (show ∀ wq, Rd F wq A (pgs b.pages) → Calls Try.prog 67 #[.agg #[.int .i64 b.wear, .slice A 4 c]] wq fun e w' => e = .returned (.int .i64 (next b)) ∧ Chg NoB wq w' from fun wq hq => by
    have := sBlockNext_any F A c b wq hq (by rw [hb.2.1]; omega)
    rwa [hb.2.1] at this)
  have HB1 := Lib.hid (q1.chg hca (fun x => x))
  have HB2 := Lib.hid (q2.chg hca (fun x => x))
  have HB4 := Lib.hid q4
  have HC3 := Lib.hid (q3.trans hca)
  have HR3 := Lib.hid (h.new (q3.trans hca))
  have HW2 := Lib.hid hw2
  have HB := Lib.hid hb
  have HP := Lib.hid hp
  have HSZ2 := Lib.hid hsz2
  clear q1 q2 q3 q4 h hb hp hca hw2 hsz2
  go_enter Try.func102, Try.ntmps102
  go_wp2_with fail
  rw [HW2.out]
  refine (HV.out _ HR3.out).mono ?_
  rintro e w4 ⟨rfl, hc1⟩
  obtain ⟨R0, hR0⟩ : ∃ R0, w2.heap.size = R0 := ⟨_, rfl⟩
  have hR0' := HSZ2.out
  rw [hR0] at HB4 hR0'
  rw [show w.heap.size + 1 + 1 = R0 from hR0'.symm]
  have hb1 := HB1.out.chg hc1 (fun x => x)
  have hb2 := HB2.out.chg hc1 (fun x => x)
  have v0 : w4.cell? ⟨w.heap.size, 0, none⟩ = some (.int .i64 b.wear) := (hb1.cell _).trans rfl
  have v1 : w4.cell? ⟨w.heap.size, 1, none⟩ = some (.slice A 4 c) := (hb1.cell _).trans rfl
  have p0 : w4.cell? ⟨(w.heap.size + 1), 0, none⟩ = some (.bool true) := (hb2.cell _).trans rfl
  have p1 : w4.cell? ⟨(w.heap.size + 1), 1, none⟩ = some (.int .i64 fi) := (hb2.cell _).trans rfl
  have p2 : w4.cell? ⟨(w.heap.size + 1), 2, none⟩ = some (.int .i64 pl) := (hb2.cell _).trans rfl
  have p3 : w4.cell? ⟨(w.heap.size + 1), 3, none⟩ = some (.int .i64 va) := (hb2.cell _).trans rfl
  have p4 : w4.cell? ⟨(w.heap.size + 1), 4, none⟩ = some (.int .i64 st) := (hb2.cell _).trans rfl
  have HB42 := Lib.hid (HB4.out.chg hc1 (fun x => x))
  have HB12 := Lib.hid hb1
  have HB22 := Lib.hid hb2
  have HC4 := Lib.hid (HC3.out.trans hc1)
  have HR4 := Lib.hid (HR3.out.new hc1)
  have HR0 := Lib.hid hR0'
  clear hb1 hb2 hc1 hR0 hR0' HB1 HB2 HC3 HR3 HW2 HSZ2 HB4
  go_wp2_with fail
  refine (sPageValid_t ⟨true, fi, pl, va, st⟩ _ HP.out).mono ?_
  rintro e w5 ⟨rfl, hc1⟩
  have hb1 := HB12.out.chg hc1 (fun x => x)
  have hb2 := HB22.out.chg hc1 (fun x => x)
  clear v0 v1 p0 p1 p2 p3 p4
  have v0 : w5.cell? ⟨w.heap.size, 0, none⟩ = some (.int .i64 b.wear) := (hb1.cell _).trans rfl
  have v1 : w5.cell? ⟨w.heap.size, 1, none⟩ = some (.slice A 4 c) := (hb1.cell _).trans rfl
  have p0 : w5.cell? ⟨(w.heap.size + 1), 0, none⟩ = some (.bool true) := (hb2.cell _).trans rfl
  have p1 : w5.cell? ⟨(w.heap.size + 1), 1, none⟩ = some (.int .i64 fi) := (hb2.cell _).trans rfl
  have p2 : w5.cell? ⟨(w.heap.size + 1), 2, none⟩ = some (.int .i64 pl) := (hb2.cell _).trans rfl
  have p3 : w5.cell? ⟨(w.heap.size + 1), 3, none⟩ = some (.int .i64 va) := (hb2.cell _).trans rfl
  have p4 : w5.cell? ⟨(w.heap.size + 1), 4, none⟩ = some (.int .i64 st) := (hb2.cell _).trans rfl
  have HB43 := Lib.hid (HB42.out.chg hc1 (fun x => x))
  have HB13 := Lib.hid hb1
  have HB23 := Lib.hid hb2
  have HC5 := Lib.hid (HC4.out.trans hc1)
  have HR5 := Lib.hid (HR4.out.new hc1)
  clear hb1 hb2 hc1 HB12 HB22 HC4 HR4 HB42
  go_wp2_with fail
  refine (l4Copy_any _ A c b.wear b.pages _ HR5.out HB.out.2.1).mono ?_
  rintro e w6 ⟨g3, c3, rest3, rfl, h43, hok3, hc6⟩
  have hca := (Chg.refl NoB w6).alloc (.cells #[.int .i64 b.wear, .slice (some ⟨g3, 0, none⟩) 4 c3] 44)
  have hv7 := Blk.new w6 44 #[.int .i64 b.wear, .slice (some ⟨g3, 0, none⟩) 4 c3]
  have hc7 := hc6.trans hca
  have hb1 := HB13.out.chg hc7 (fun x => x)
  have hb2 := HB23.out.chg hc7 (fun x => x)
  have hb4 := HB43.out.chg hc7 (fun x => x)
  have hok7 := hok3.chg hca (fun x => x)
  have hC7 := HC5.out.trans hc7
  have hR7 := HR5.out.new hc7
  have hs5 := HC5.out.size
  have hs5b := HB43.out.lt
  clear v0 v1 p0 p1 p2 p3 p4
  have H43 := Lib.hid h43
  have HL43 := Lib.hid (HN.out _ hR7)
  clear h43 hca
  have v0 : (w6.alloc (.cells #[.int .i64 b.wear, .slice (some ⟨g3, 0, none⟩) 4 c3] 44)).cell? ⟨w.heap.size, 0, none⟩ = some (.int .i64 b.wear) := (hb1.cell _).trans rfl
  have v1 : (w6.alloc (.cells #[.int .i64 b.wear, .slice (some ⟨g3, 0, none⟩) 4 c3] 44)).cell? ⟨w.heap.size, 1, none⟩ = some (.slice A 4 c) := (hb1.cell _).trans rfl
  have HB17 := Lib.hid hb1
  have HB27 := Lib.hid hb2
  have HB47 := Lib.hid hb4
  have HOK7 := Lib.hid hok7
  have HV7 := Lib.hid hv7
  have HC7 := Lib.hid hC7
  have HGL := Lib.hid (show w5.heap.size ≤ g3 from hok3.1)
  clear hb1 hb2 hb4 hok7 hv7 hC7 hR7 hc7 hc6 hok3
  go_wp2_with fail
  refine HL43.out.mono ?_
  rintro e w8 ⟨rfl, hc8⟩
  have hb2 := HB27.out.chg hc8 (fun x => x)
  have hb4 := HB47.out.chg hc8 (fun x => x)
  have hv8 := HV7.out.chg hc8 (fun x => x)
  have hok8 := HOK7.out.chg hc8 (fun x => x)
  obtain ⟨V, hV⟩ : ∃ V, w6.heap.size = V := ⟨_, rfl⟩
  rw [hV] at hv8 ⊢
  have hg3V : g3 < V := by rw [← hV]; exact HOK7.out.2.1
  have hs8 := hc8.size
  have p0 : w8.cell? ⟨(w.heap.size + 1), 0, none⟩ = some (.bool true) := (hb2.cell _).trans rfl
  have p1 : w8.cell? ⟨(w.heap.size + 1), 1, none⟩ = some (.int .i64 fi) := (hb2.cell _).trans rfl
  have p2 : w8.cell? ⟨(w.heap.size + 1), 2, none⟩ = some (.int .i64 pl) := (hb2.cell _).trans rfl
  have p3 : w8.cell? ⟨(w.heap.size + 1), 3, none⟩ = some (.int .i64 va) := (hb2.cell _).trans rfl
  have p4 : w8.cell? ⟨(w.heap.size + 1), 4, none⟩ = some (.int .i64 st) := (hb2.cell _).trans rfl
  have x0 : w8.cell? ⟨R0, 0, none⟩ = some (.int .i64 0) := (hb4.cell _).trans rfl
  have f0 := hb4.frozen 0
  have x1 : w8.cell? ⟨R0, 1, none⟩ = some (.slice none 0 0) := (hb4.cell _).trans rfl
  have f1 := hb4.frozen 1
  have y0 : w8.cell? ⟨V, 0, none⟩ = some (.int .i64 b.wear) := (hv8.cell _).trans rfl
  have y1 : w8.cell? ⟨V, 1, none⟩ = some (.slice (some ⟨g3, 0, none⟩) 4 c3) := (hv8.cell _).trans rfl
  have hg3w5 := HGL.out
  have HC8 := Lib.hid (HC7.out.trans hc8)
  have HOK8 := Lib.hid hok8
  have HV8 := Lib.hid hv8
  have HB48 := Lib.hid hb4
  have HS8 := Lib.hid (show g3 < w8.heap.size by have : g3 < _ := HOK7.out.2.1; have := hv8.lt; omega)
  clear v0 v1 hb2 hb4 hv8 hok8 hc8 hV hs8
  by_cases hl : lead b.pages < 4
  case neg =>
    have HQ := Lib.hid (writeBlock_full HB.out HP.out rfl hl)
    rw [next_full HB.out hl]
    go_wp2_with fail
    (try simp only [Exit.inBlock, Exit.then])
    refine bodyPost_ret (v := .tuple #[.agg #[.int .i64 b.wear, .slice (some ⟨g3, 0, none⟩) 4 c3], .int .i64 (-1)]) (by simp [results, Try.results102, go_sem, *]) rfl ?_
    have hcs := chg2' (F := (· = R0)) (a := .int .i64 b.wear) (b := .slice (some ⟨g3, 0, none⟩) 4 c3) (Chg.refl (· = R0) w8) (.inl rfl)
    unfold WriteBP
    rw [HQ.out]
    have hok := HOK8.out
    have hr0 := HR0.out
    have hge := HS8.out
    exact ⟨g3, c3, rest3, rfl, ⟨by show w.heap.size ≤ g3; omega, by simpa [World.setCell] using hge, hok.2.2.1.chg hcs (by show ¬ (g3 = R0); omega), hok.2.2.2⟩, HC8.out.own hcs (by omega)⟩
  have HQ := Lib.hid (writeBlock_free HB.out HP.out rfl hl)
  rw [next_free HB.out hl]
  obtain ⟨n, hn⟩ : ∃ n, lead b.pages = n := ⟨_, rfl⟩
  have HNL := Lib.hid hn
  rw [hn] at hl ⊢
  have hk0 : (0 : Int) ≤ (n : Int) := Int.natCast_nonneg _
  have hk1 : (n : Int) < 4 := by omega
  have hnp : n < b.pages.length := by rw [HB.out.2.1]; exact hl
  have hbg : Blk w8 g3 60 (pgs b.pages ++ rest3).toArray := HOK8.out.2.2.1
  have hlen : (pgs (b.pages.take n)).length = n * 5 := by rw [pgs_length, List.length_take]; omega
  rw [pgs_split hnp, List.append_assoc] at hbg
  obtain ⟨r0, r1, r2, r3, r4⟩ := hbg.room5 hlen
  have s0 := hbg.frozen (n * 5)
  have s1 := hbg.frozen (n * 5 + 1)
  have s2 := hbg.frozen (n * 5 + 2)
  have s3 := hbg.frozen (n * 5 + 3)
  have s4 := hbg.frozen (n * 5 + 4)
  have HF := Lib.hid (hbg.fill5 hlen (.bool true) (.int .i64 fi) (.int .i64 pl) (.int .i64 va) (.int .i64 st))
  have hne1 : g3 ≠ V := by omega
  have hne2 : V ≠ g3 := by omega
  have hne3 : g3 ≠ R0 := by omega
  have hne4 : R0 ≠ g3 := by omega
  have hne5 : V ≠ R0 := by omega
  have hne6 : R0 ≠ V := by omega
  have HNP := Lib.hid hnp
  clear hbg hn hlen
  go_wp2_with fail
  (try simp only [Exit.inBlock, Exit.then])
  refine bodyPost_ret (v := .tuple #[.agg #[.int .i64 b.wear, .slice (some ⟨g3, 0, none⟩) 4 c3], .int .i64 (n : Int)]) (by simp [results, Try.results102, go_sem, *]) rfl ?_
  obtain ⟨w9, hw9⟩ : ∃ w9, (((((w8.setCell ⟨g3, n * 5, none⟩ (.bool true)).setCell ⟨g3, n * 5 + 1, none⟩ (.int .i64 fi)).setCell ⟨g3, n * 5 + 2, none⟩ (.int .i64 pl)).setCell ⟨g3, n * 5 + 3, none⟩ (.int .i64 va)).setCell ⟨g3, n * 5 + 4, none⟩ (.int .i64 st)) = w9 := ⟨_, rfl⟩
  have hc9 := chg5k (F := (· = g3)) (a := .bool true) (b := .int .i64 fi) (c := .int .i64 pl) (d := .int .i64 va) (e := .int .i64 st) (Chg.refl (· = g3) w8) (.inl rfl) (n * 5)
  have hb9 := HF.out
  rw [hw9] at hc9 hb9 ⊢
  have hcs := chg2' (F := (· = R0)) (a := .int .i64 b.wear) (b := .slice (some ⟨g3, 0, none⟩) 4 c3) (Chg.refl (· = R0) w9) (.inl rfl)
  unfold WriteBP
  rw [HQ.out, HNL.out]
  have hr0 := HR0.out
  have hge := HS8.out
  have hs9 := hc9.size
  have hok := HOK8.out
  refine ⟨g3, c3, rest3, rfl, ⟨by show w.heap.size ≤ g3; omega, by show g3 < _; simp only [World.size_setCell]; omega, ?_, by show (b.pages.set n ⟨true, fi, pl, va, st⟩).length ≤ c3; rw [List.length_set]; exact hok.2.2.2⟩, (HC8.out.own hc9 (by omega)).own hcs (by omega)⟩
  refine Blk.chg ?_ hcs (by show ¬ (g3 = R0); omega)
  show Blk w9 g3 60 (pgs (b.pages.set n ⟨true, fi, pl, va, st⟩) ++ rest3).toArray
  rw [pgs_set HNP.out, List.append_assoc]
  exact hb9
end Go.Proofs.Ytenbbkmbnpdfaaa
