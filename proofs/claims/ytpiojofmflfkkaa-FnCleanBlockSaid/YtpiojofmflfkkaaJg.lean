/- Parts of the proof, merged: Ug, Uh, Ui. -/
import Derived.Test.YtpiojofmflfkkaaJb
import Derived.Test.YtpiojofmflfkkaaJc
import Derived.Deep.RegionHeld3
/- WriteBlock, Program and HeadOf of the program, where what they take is valid. -/
namespace Go.Proofs.Ytpiojofmflfkkaa
open Go.RowKit
set_option maxRecDepth 100000 in
set_option maxHeartbeats 4000000 in
theorem iWriteBlock_any (F : Nat → Prop) (A : Option Addr) (c : Nat) (b : Bk) (p : Pg) (w : World) (h : Rd F w A (pgs b.pages)) (hb : BkOk b) (hp : PgOk p) (hf : p.full = true) :
    Calls Try.prog 162 #[.agg #[.int .i64 b.wear, .slice A 4 c], pval p] w (WriteBP w b p) := by
  obtain ⟨fu, fi, pl, va, st⟩ := p
  obtain rfl : fu = true := hf
  obtain ⟨q1, q2, q3⟩ := lit2 w 67 80 #[.int .i64 b.wear, .slice A 4 c] #[.bool true, .int .i64 fi, .int .i64 pl, .int .i64 va, .int .i64 st]
  obtain ⟨w2, hw2⟩ : ∃ w2, (w.alloc (.cells #[.int .i64 b.wear, .slice A 4 c] 67)).alloc (.cells #[.bool true, .int .i64 fi, .int .i64 pl, .int .i64 va, .int .i64 st] 80) = w2 := ⟨_, rfl⟩
  have hsz2 : w2.heap.size = w.heap.size + 1 + 1 := by rw [← hw2]; simp [World.size_alloc]
  have hca := (Chg.refl NoB w2).alloc (.cells #[.int .i64 0, .slice none 0 0] 67)
  have q4 := Blk.new w2 67 #[.int .i64 0, .slice none 0 0]
  rw [hw2] at q1 q2 q3
  have HV := Lib.hid (show ∀ wq, Rd F wq A (pgs b.pages) → Calls Try.prog 68 #[.agg #[.int .i64 b.wear, .slice A 4 c]] wq fun e w' => e = .returned (.bool true) ∧ Chg NoB wq w' from fun wq hq => by
    have := iBlockValid_t F A c b wq hq hb
    rwa [hb.2.1] at this)
  have HN := Lib.hid (show ∀ wq, Rd F wq A (pgs b.pages) → Calls Try.prog 39 #[.agg #[.int .i64 b.wear, .slice A 4 c]] wq fun e w' => e = .returned (.int .i64 (next b)) ∧ Chg NoB wq w' from fun wq hq => by
    have := iBlockNext_any F A c b wq hq
    rwa [hb.2.1] at this)
  have HB1 := Lib.hid (q1.chg hca (fun x => x))
  have HB2 := Lib.hid (q2.chg hca (fun x => x))
  have HB4 := Lib.hid q4
  have HC3 := Lib.hid (q3.trans hca)
  have HR3 := Lib.hid (h.new (q3.trans hca))
  have HW2 := Lib.hid hw2
  have HB := Lib.hid hb
  have HP := Lib.hid hp
  have HSZ2 := Lib.hid hsz2
  clear q1 q2 q3 q4 h hb hp hca hw2 hsz2
  go_enter Try.func162, Try.ntmps162
  go_wp2_with fail
  rw [HW2.out]
  refine (HV.out _ HR3.out).mono ?_
  rintro e w4 ⟨rfl, hc1⟩
  obtain ⟨R0, hR0⟩ : ∃ R0, w2.heap.size = R0 := ⟨_, rfl⟩
  have hR0' := HSZ2.out
  rw [hR0] at HB4 hR0'
  rw [show w.heap.size + 1 + 1 = R0 from hR0'.symm]
  have hb1 := HB1.out.chg hc1 (fun x => x)
  have hb2 := HB2.out.chg hc1 (fun x => x)
  have v0 : w4.cell? ⟨w.heap.size, 0, none⟩ = some (.int .i64 b.wear) := (hb1.cell _).trans rfl
  have v1 : w4.cell? ⟨w.heap.size, 1, none⟩ = some (.slice A 4 c) := (hb1.cell _).trans rfl
  have p0 : w4.cell? ⟨(w.heap.size + 1), 0, none⟩ = some (.bool true) := (hb2.cell _).trans rfl
  have p1 : w4.cell? ⟨(w.heap.size + 1), 1, none⟩ = some (.int .i64 fi) := (hb2.cell _).trans rfl
  have p2 : w4.cell? ⟨(w.heap.size + 1), 2, none⟩ = some (.int .i64 pl) := (hb2.cell _).trans rfl
  have p3 : w4.cell? ⟨(w.heap.size + 1), 3, none⟩ = some (.int .i64 va) := (hb2.cell _).trans rfl
  have p4 : w4.cell? ⟨(w.heap.size + 1), 4, none⟩ = some (.int .i64 st) := (hb2.cell _).trans rfl
  have HB42 := Lib.hid (HB4.out.chg hc1 (fun x => x))
  have HB12 := Lib.hid hb1
  have HB22 := Lib.hid hb2
  have HC4 := Lib.hid (HC3.out.trans hc1)
  have HR4 := Lib.hid (HR3.out.new hc1)
  have HR0 := Lib.hid hR0'
  clear hb1 hb2 hc1 hR0 hR0' HB1 HB2 HC3 HR3 HW2 HSZ2 HB4
  go_wp2_with fail
  refine (iPageValid_t ⟨true, fi, pl, va, st⟩ _ HP.out).mono ?_
  rintro e w5 ⟨rfl, hc1⟩
  have hb1 := HB12.out.chg hc1 (fun x => x)
  have hb2 := HB22.out.chg hc1 (fun x => x)
  clear v0 v1 p0 p1 p2 p3 p4
  have v0 : w5.cell? ⟨w.heap.size, 0, none⟩ = some (.int .i64 b.wear) := (hb1.cell _).trans rfl
  have v1 : w5.cell? ⟨w.heap.size, 1, none⟩ = some (.slice A 4 c) := (hb1.cell _).trans rfl
  have p0 : w5.cell? ⟨(w.heap.size + 1), 0, none⟩ = some (.bool true) := (hb2.cell _).trans rfl
  have p1 : w5.cell? ⟨(w.heap.size + 1), 1, none⟩ = some (.int .i64 fi) := (hb2.cell _).trans rfl
  have p2 : w5.cell? ⟨(w.heap.size + 1), 2, none⟩ = some (.int .i64 pl) := (hb2.cell _).trans rfl
  have p3 : w5.cell? ⟨(w.heap.size + 1), 3, none⟩ = some (.int .i64 va) := (hb2.cell _).trans rfl
  have p4 : w5.cell? ⟨(w.heap.size + 1), 4, none⟩ = some (.int .i64 st) := (hb2.cell _).trans rfl
  have HB43 := Lib.hid (HB42.out.chg hc1 (fun x => x))
  have HB13 := Lib.hid hb1
  have HB23 := Lib.hid hb2
  have HC5 := Lib.hid (HC4.out.trans hc1)
  have HR5 := Lib.hid (HR4.out.new hc1)
  clear hb1 hb2 hc1 HB12 HB22 HC4 HR4 HB42
  go_wp2_with fail
  refine (cloneBlock_any _ A c b.wear b.pages _ HR5.out HB.out.2.1).mono ?_
  rintro e w6 ⟨g3, c3, rest3, rfl, h43, hok3, hc6⟩
  have hca := (Chg.refl NoB w6).alloc (.cells #[.int .i64 b.wear, .slice (some ⟨g3, 0, none⟩) 4 c3] 67)
  have hv7 := Blk.new w6 67 #[.int .i64 b.wear, .slice (some ⟨g3, 0, none⟩) 4 c3]
  have hc7 := hc6.trans hca
  have hb1 := HB13.out.chg hc7 (fun x => x)
  have hb2 := HB23.out.chg hc7 (fun x => x)
  have hb4 := HB43.out.chg hc7 (fun x => x)
  have hok7 := hok3.chg hca (fun x => x)
  have hC7 := HC5.out.trans hc7
  have hR7 := HR5.out.new hc7
  have hs5 := HC5.out.size
  have hs5b := HB43.out.lt
  clear v0 v1 p0 p1 p2 p3 p4
  have H43 := Lib.hid h43
  have HL43 := Lib.hid (HN.out _ hR7)
  clear h43 hca
  have v0 : (w6.alloc (.cells #[.int .i64 b.wear, .slice (some ⟨g3, 0, none⟩) 4 c3] 67)).cell? ⟨w.heap.size, 0, none⟩ = some (.int .i64 b.wear) := (hb1.cell _).trans rfl
  have v1 : (w6.alloc (.cells #[.int .i64 b.wear, .slice (some ⟨g3, 0, none⟩) 4 c3] 67)).cell? ⟨w.heap.size, 1, none⟩ = some (.slice A 4 c) := (hb1.cell _).trans rfl
  have HB17 := Lib.hid hb1
  have HB27 := Lib.hid hb2
  have HB47 := Lib.hid hb4
  have HOK7 := Lib.hid hok7
  have HV7 := Lib.hid hv7
  have HC7 := Lib.hid hC7
  have HGL := Lib.hid (show w5.heap.size ≤ g3 from hok3.1)
  clear hb1 hb2 hb4 hok7 hv7 hC7 hR7 hc7 hc6 hok3
  go_wp2_with fail
  refine HL43.out.mono ?_
  rintro e w8 ⟨rfl, hc8⟩
  have hb2 := HB27.out.chg hc8 (fun x => x)
  have hb4 := HB47.out.chg hc8 (fun x => x)
  have hv8 := HV7.out.chg hc8 (fun x => x)
  have hok8 := HOK7.out.chg hc8 (fun x => x)
  obtain ⟨V, hV⟩ : ∃ V, w6.heap.size = V := ⟨_, rfl⟩
  rw [hV] at hv8 ⊢
  have hg3V : g3 < V := by rw [← hV]; exact HOK7.out.2.1
  have hs8 := hc8.size
  have p0 : w8.cell? ⟨(w.heap.size + 1), 0, none⟩ = some (.bool true) := (hb2.cell _).trans rfl
  have p1 : w8.cell? ⟨(w.heap.size + 1), 1, none⟩ = some (.int .i64 fi) := (hb2.cell _).trans rfl
  have p2 : w8.cell? ⟨(w.heap.size + 1), 2, none⟩ = some (.int .i64 pl) := (hb2.cell _).trans rfl
  have p3 : w8.cell? ⟨(w.heap.size + 1), 3, none⟩ = some (.int .i64 va) := (hb2.cell _).trans rfl
  have p4 : w8.cell? ⟨(w.heap.size + 1), 4, none⟩ = some (.int .i64 st) := (hb2.cell _).trans rfl
  have x0 : w8.cell? ⟨R0, 0, none⟩ = some (.int .i64 0) := (hb4.cell _).trans rfl
  have f0 := hb4.frozen 0
  have x1 : w8.cell? ⟨R0, 1, none⟩ = some (.slice none 0 0) := (hb4.cell _).trans rfl
  have f1 := hb4.frozen 1
  have y0 : w8.cell? ⟨V, 0, none⟩ = some (.int .i64 b.wear) := (hv8.cell _).trans rfl
  have y1 : w8.cell? ⟨V, 1, none⟩ = some (.slice (some ⟨g3, 0, none⟩) 4 c3) := (hv8.cell _).trans rfl
  have hg3w5 := HGL.out
  have HC8 := Lib.hid (HC7.out.trans hc8)
  have HOK8 := Lib.hid hok8
  have HV8 := Lib.hid hv8
  have HB48 := Lib.hid hb4
  have HS8 := Lib.hid (show g3 < w8.heap.size by have : g3 < _ := HOK7.out.2.1; have := hv8.lt; omega)
  clear v0 v1 hb2 hb4 hv8 hok8 hc8 hV hs8
  by_cases hl : lead b.pages < 4
  case neg =>
    have HQ := Lib.hid (writeBlock_full HB.out HP.out rfl hl)
    rw [next_full HB.out hl]
    go_wp2_with fail
    (try simp only [Exit.inBlock, Exit.then])
    refine bodyPost_ret (v := .tuple #[.agg #[.int .i64 b.wear, .slice (some ⟨g3, 0, none⟩) 4 c3], .int .i64 (-1)]) (by simp [results, Try.results162, go_sem, *]) rfl ?_
    have hcs := chg2' (F := (· = R0)) (a := .int .i64 b.wear) (b := .slice (some ⟨g3, 0, none⟩) 4 c3) (Chg.refl (· = R0) w8) (.inl rfl)
    unfold WriteBP
    rw [HQ.out]
    have hok := HOK8.out
    have hr0 := HR0.out
    have hge := HS8.out
    exact ⟨g3, c3, rest3, rfl, ⟨by show w.heap.size ≤ g3; omega, by simpa [World.setCell] using hge, hok.2.2.1.chg hcs (by show ¬ (g3 = R0); omega), hok.2.2.2⟩, HC8.out.own hcs (by omega)⟩
  have HQ := Lib.hid (writeBlock_free HB.out HP.out rfl hl)
  rw [next_free HB.out hl]
  obtain ⟨n, hn⟩ : ∃ n, lead b.pages = n := ⟨_, rfl⟩
  have HNL := Lib.hid hn
  rw [hn] at hl ⊢
  have hk0 : (0 : Int) ≤ (n : Int) := Int.natCast_nonneg _
  have hk1 : (n : Int) < 4 := by omega
  have hnp : n < b.pages.length := by rw [HB.out.2.1]; exact hl
  have hbg : Blk w8 g3 80 (pgs b.pages ++ rest3).toArray := HOK8.out.2.2.1
  have hlen : (pgs (b.pages.take n)).length = n * 5 := by rw [pgs_length, List.length_take]; omega
  rw [pgs_split hnp, List.append_assoc] at hbg
  obtain ⟨r0, r1, r2, r3, r4⟩ := hbg.room5 hlen
  have s0 := hbg.frozen (n * 5)
  have s1 := hbg.frozen (n * 5 + 1)
  have s2 := hbg.frozen (n * 5 + 2)
  have s3 := hbg.frozen (n * 5 + 3)
  have s4 := hbg.frozen (n * 5 + 4)
  have HF := Lib.hid (hbg.fill5 hlen (.bool true) (.int .i64 fi) (.int .i64 pl) (.int .i64 va) (.int .i64 st))
  have hne1 : g3 ≠ V := by omega
  have hne2 : V ≠ g3 := by omega
  have hne3 : g3 ≠ R0 := by omega
  have hne4 : R0 ≠ g3 := by omega
  have hne5 : V ≠ R0 := by omega
  have hne6 : R0 ≠ V := by omega
  have HNP := Lib.hid hnp
  clear hbg hn hlen
  go_wp2_with fail
  (try simp only [Exit.inBlock, Exit.then])
  refine bodyPost_ret (v := .tuple #[.agg #[.int .i64 b.wear, .slice (some ⟨g3, 0, none⟩) 4 c3], .int .i64 (n : Int)]) (by simp [results, Try.results162, go_sem, *]) rfl ?_
  obtain ⟨w9, hw9⟩ : ∃ w9, (((((w8.setCell ⟨g3, n * 5, none⟩ (.bool true)).setCell ⟨g3, n * 5 + 1, none⟩ (.int .i64 fi)).setCell ⟨g3, n * 5 + 2, none⟩ (.int .i64 pl)).setCell ⟨g3, n * 5 + 3, none⟩ (.int .i64 va)).setCell ⟨g3, n * 5 + 4, none⟩ (.int .i64 st)) = w9 := ⟨_, rfl⟩
  have hc9 := chg5k (F := (· = g3)) (a := .bool true) (b := .int .i64 fi) (c := .int .i64 pl) (d := .int .i64 va) (e := .int .i64 st) (Chg.refl (· = g3) w8) (.inl rfl) (n * 5)
  have hb9 := HF.out
  rw [hw9] at hc9 hb9 ⊢
  have hcs := chg2' (F := (· = R0)) (a := .int .i64 b.wear) (b := .slice (some ⟨g3, 0, none⟩) 4 c3) (Chg.refl (· = R0) w9) (.inl rfl)
  unfold WriteBP
  rw [HQ.out, HNL.out]
  have hr0 := HR0.out
  have hge := HS8.out
  have hs9 := hc9.size
  have hok := HOK8.out
  refine ⟨g3, c3, rest3, rfl, ⟨by show w.heap.size ≤ g3; omega, by show g3 < _; simp only [World.size_setCell]; omega, ?_, by show (b.pages.set n ⟨true, fi, pl, va, st⟩).length ≤ c3; rw [List.length_set]; exact hok.2.2.2⟩, (HC8.out.own hc9 (by omega)).own hcs (by omega)⟩
  refine Blk.chg ?_ hcs (by show ¬ (g3 = R0); omega)
  show Blk w9 g3 80 (pgs (b.pages.set n ⟨true, fi, pl, va, st⟩) ++ rest3).toArray
  rw [pgs_set HNP.out, List.append_assoc]
  exact hb9
set_option maxRecDepth 100000 in
set_option maxHeartbeats 4000000 in
theorem iProgram_any (F : Nat → Prop) (A : Option Addr) (c : Nat) (D : List Bk) (k : Nat) (p : Pg) (w : World) (h : DevR F w A D) (hd : DvOk D) (hk : k < D.length) (hp : PgOk p) (hf : p.full = true) :
    Calls Try.prog 144 #[.slice A D.length c, .int .i64 k, pval p] w (ProgP w D k p) := by
  obtain ⟨fu, fi, pl, va, st⟩ := p
  obtain rfl : fu = true := hf
  obtain ⟨P, hPP⟩ : ∃ P : Pg, P = ⟨true, fi, pl, va, st⟩ := ⟨_, rfl⟩
  have HPP := Lib.hid hPP
  have hca := (Chg.refl NoB w).alloc (.cells #[.bool true, .int .i64 fi, .int .i64 pl, .int .i64 va, .int .i64 st] 80)
  have HB := Lib.hid (Blk.new w 80 #[.bool true, .int .i64 fi, .int .i64 pl, .int .i64 va, .int .i64 st])
  have HC := Lib.hid hca
  have HR := Lib.hid (h.lt.new hca)
  have HD := Lib.hid hd
  have HP := Lib.hid hp
  have hl := hd.1
  have hk0 : (0 : Int) ≤ (k : Int) := Int.natCast_nonneg _
  have hk1 : (k : Int) < (D.length : Int) := by omega
  have hk2 : ¬ ((k : Int) < 0) := by omega
  have hk3 : ¬ ((D.length : Int) ≤ (k : Int)) := by omega
  have h1 : (1 : Int) ≤ (D.length : Int) := by omega
  have h2 : (D.length : Int) ≤ 12 := by omega
  have HBK := Lib.hid (hd.2 k hk)
  have HWN := Lib.hid (writeBlock_num (hd.2 k hk) hp rfl)
  have HWW := Lib.hid (writeBlock_wear (hd.2 k hk) hp rfl)
  have HPR := Lib.hid (program_yes hd hk hp rfl)
  rw [← hPP] at HWN HWW HPR ⊢
  clear hca h hd hp hPP
  unfold pval
  rw [show P.full = true by rw [HPP.out], show P.file = fi by rw [HPP.out], show P.place = pl by rw [HPP.out], show P.value = va by rw [HPP.out], show P.stamp = st by rw [HPP.out]]
  go_enter Try.func144, Try.ntmps144
  go_wp2_with fail
  refine (iDeviceValid_t _ A c D _ HR.out HD.out).mono ?_
  rintro e w1 ⟨rfl, hc1⟩
  have HC1 := Lib.hid (HC.out.trans hc1)
  have HR1 := Lib.hid (HR.out.new hc1)
  have hb1 := HB.out.chg hc1 (fun x => x)
  have p0 : w1.cell? ⟨w.heap.size, 0, none⟩ = some (.bool true) := (hb1.cell _).trans rfl
  have p1 : w1.cell? ⟨w.heap.size, 1, none⟩ = some (.int .i64 fi) := (hb1.cell _).trans rfl
  have p2 : w1.cell? ⟨w.heap.size, 2, none⟩ = some (.int .i64 pl) := (hb1.cell _).trans rfl
  have p3 : w1.cell? ⟨w.heap.size, 3, none⟩ = some (.int .i64 va) := (hb1.cell _).trans rfl
  have p4 : w1.cell? ⟨w.heap.size, 4, none⟩ = some (.int .i64 st) := (hb1.cell _).trans rfl
  have HB1 := Lib.hid hb1
  clear hc1 hb1
  go_wp2_with fail
  refine (iPageValid_t ⟨true, fi, pl, va, st⟩ _ HP.out).mono ?_
  rintro e w2 ⟨rfl, hc2⟩
  have HC2 := Lib.hid (HC1.out.trans hc2)
  have HR2 := Lib.hid (HR1.out.new hc2)
  have hb2 := HB1.out.chg hc2 (fun x => x)
  clear p0 p1 p2 p3 p4
  have p0 : w2.cell? ⟨w.heap.size, 0, none⟩ = some (.bool true) := (hb2.cell _).trans rfl
  have p1 : w2.cell? ⟨w.heap.size, 1, none⟩ = some (.int .i64 fi) := (hb2.cell _).trans rfl
  have p2 : w2.cell? ⟨w.heap.size, 2, none⟩ = some (.int .i64 pl) := (hb2.cell _).trans rfl
  have p3 : w2.cell? ⟨w.heap.size, 3, none⟩ = some (.int .i64 va) := (hb2.cell _).trans rfl
  have p4 : w2.cell? ⟨w.heap.size, 4, none⟩ = some (.int .i64 st) := (hb2.cell _).trans rfl
  have HB2 := Lib.hid hb2
  clear hc2 hb2 HC HR HB HC1 HR1 HB1
  go_wp2_with fail
  refine (cloneDevice_any _ A c D _ HR2.out HD.out).mono ?_
  rintro e w4 ⟨A2, c2, T, rfl, hT, hO2, hc4⟩
  have hTl : T.length = D.length := by rw [← hT, bksOf_length]
  obtain ⟨g, rest, rfl, hgB, hgE, hbg⟩ := hO2.blk (by omega)
  obtain ⟨bb, o, A', c', rfl, hfb, c0, c1, hr, hcc⟩ := (HR2.out.new hc4) k hk
  rw [HBK.out.2.1] at c1
  have hb4 := HB2.out.chg hc4 (fun x => x)
  clear p0 p1 p2 p3 p4
  have z0 : w4.cell? ⟨w.heap.size, 0, none⟩ = some (.bool true) := (hb4.cell _).trans rfl
  have z1 : w4.cell? ⟨w.heap.size, 1, none⟩ = some (.int .i64 fi) := (hb4.cell _).trans rfl
  have z2 : w4.cell? ⟨w.heap.size, 2, none⟩ = some (.int .i64 pl) := (hb4.cell _).trans rfl
  have z3 : w4.cell? ⟨w.heap.size, 3, none⟩ = some (.int .i64 va) := (hb4.cell _).trans rfl
  have z4 : w4.cell? ⟨w.heap.size, 4, none⟩ = some (.int .i64 st) := (hb4.cell _).trans rfl
  have HT := Lib.hid hT
  have HTL := Lib.hid hTl
  have HO4 := Lib.hid hO2
  have HBG := Lib.hid hbg
  have HGB := Lib.hid (And.intro hgB hgE)
  have HC4 := Lib.hid (HC2.out.trans hc4)
  have HS2 := Lib.hid HC2.out.size
  have HRD := Lib.hid hr
  clear hO2 hbg hgB hgE hT hTl hc4 hr hb4 HB2 HC2 HR2
  go_wp2_with fail
  refine wp_region_rg (WInv := fun _ m w5 => Chg (NoB) w4 w5 ∧ BoxI w4.heap.size 67 #[.int .i64 0, .slice none 0 0] 9 10 7 m w5) (R := RBox (NoB) w4.heap.size 67) (Post := PL [fun v w => v = .slice (some ⟨bb, o, none⟩) D.length c, fun v w => v = .int .i64 (k : Int), fun v w => v = .pointer (some ⟨bb, o + k * 2, none⟩), fun v w => v = .agg #[.int .i64 D[k].wear, .slice A' 4 c'], fun v w => v = .agg #[.bool true, .int .i64 fi, .int .i64 pl, .int .i64 va, .int .i64 st], fun v w => ∃ g3 : Nat, ∃ c3 : Nat, ∃ rest3 : List Value, v = .tuple #[.agg #[.int .i64 D[k].wear, .slice (some ⟨g3, 0, none⟩) 4 c3], .int .i64 (writeBlock D[k] P).2] ∧ BkO.ok w4.heap.size w.heap.size w ⟨g3, c3, D[k].wear, (writeBlock D[k] P).1.pages, rest3⟩, fun v w => ∃ g3 : Nat, ∃ c3 : Nat, ∃ rest3 : List Value, v = .tuple #[.agg #[.int .i64 D[k].wear, .slice (some ⟨g3, 0, none⟩) 4 c3], .int .i64 (writeBlock D[k] P).2] ∧ BkO.ok w4.heap.size w.heap.size w ⟨g3, c3, D[k].wear, (writeBlock D[k] P).1.pages, rest3⟩, fun v w => ∃ g3 : Nat, ∃ c3 : Nat, ∃ rest3 : List Value, v = .agg #[.int .i64 D[k].wear, .slice (some ⟨g3, 0, none⟩) 4 c3] ∧ BkO.ok w4.heap.size w.heap.size w ⟨g3, c3, D[k].wear, (writeBlock D[k] P).1.pages, rest3⟩, fun v w => v = .int .i64 (writeBlock D[k] P).2, fun _ _ => True, fun _ _ => True, fun v w => v = .int .i64 (writeBlock D[k] P).2]) (by kernel_rfl) (by kernel_rfl) ?_ (pl_stab ⟨(fun _ _ _ h _ => h), (fun _ _ _ h _ => h), (fun _ _ _ h _ => h), (fun _ _ _ h _ => h), (fun _ _ _ h _ => h), (fun _ _ _ ⟨g3, c3, rest3, hv, hok⟩ hR => ⟨g3, c3, rest3, hv, (ok_box hok hR (fun _ _ x => x))⟩), (fun _ _ _ ⟨g3, c3, rest3, hv, hok⟩ hR => ⟨g3, c3, rest3, hv, (ok_box hok hR (fun _ _ x => x))⟩), (fun _ _ _ ⟨g3, c3, rest3, hv, hok⟩ hR => ⟨g3, c3, rest3, hv, (ok_box hok hR (fun _ _ x => x))⟩), (fun _ _ _ h _ => h), (fun _ _ _ _ _ => trivial), (fun _ _ _ _ _ => trivial), (fun _ _ _ h _ => h), trivial⟩) ⟨(Chg.refl _ _).drew, BoxI.start⟩ ?_ ?_
  · exact fun _ _ _ _ h _ _ => h
  · refine ⟨?_, ?_, ?_, ?_, ?_, ?_, ?_, ?_, ?_, ?_, ?_, ?_, trivial⟩
    · rintro kc m a w5 hkc ⟨hch, hbx⟩ hm hn
      obtain ⟨h0, -⟩ := hn
      have e0 : a.tmps[0]?.getD undef = .slice (some ⟨bb, o, none⟩) D.length c := h0
      exact rg_val (v := .slice (some ⟨bb, o, none⟩) D.length c) (by simp [execOp, go_sem, e0]) rfl ⟨hch, hbx.keep (by decide) (by decide) hm (Chg.refl NoB _) (fun _ _ x => x)⟩ (Chg.refl _ _) rfl
    · rintro kc m a w5 hkc ⟨hch, hbx⟩ hm hn
      obtain ⟨h0, -⟩ := hn
      have e0 : a.tmps[1]?.getD undef = .int .i64 (k : Int) := h0
      exact rg_val (v := .int .i64 (k : Int)) (by simp [execOp, go_sem, e0]) rfl ⟨hch, hbx.keep (by decide) (by decide) hm (Chg.refl NoB _) (fun _ _ x => x)⟩ (Chg.refl _ _) rfl
    · rintro kc m a w5 hkc ⟨hch, hbx⟩ hm hn
      obtain ⟨⟨_, e0, m0, rfl⟩, ⟨_, e1, m1, rfl⟩, -⟩ := hn
      exact rg_val (v := .pointer (some ⟨bb, o + k * 2, none⟩)) (by simp [execOp, go_sem, e0, e1]; exact fun hh => absurd hh (by omega)) rfl ⟨hch, hbx.keep (by decide) (by decide) hm (Chg.refl NoB _) (fun _ _ x => x)⟩ (Chg.refl _ _) rfl
    · rintro kc m a w5 hkc ⟨hch, hbx⟩ hm hn
      obtain ⟨⟨_, e0, m0, rfl⟩, -⟩ := hn
      have y0 := hch.cell c0 (fun x => x)
      have y1 := hch.cell c1 (fun x => x)
      exact rg_val (v := .agg #[.int .i64 D[k].wear, .slice A' 4 c']) (by simp [execOp, go_sem, e0, y0, y1]) rfl ⟨hch, hbx.keep (by decide) (by decide) hm (Chg.refl NoB _) (fun _ _ x => x)⟩ (Chg.refl _ _) rfl
    · rintro kc m a w5 hkc ⟨hch, hbx⟩ hm hn
      obtain ⟨h0, -⟩ := hn
      have e0 : a.tmps[5]?.getD undef = .pointer (some ⟨w.heap.size, 0, none⟩) := h0
      have y0 := hch.cell z0 (fun x => x)
      have y1 := hch.cell z1 (fun x => x)
      have y2 := hch.cell z2 (fun x => x)
      have y3 := hch.cell z3 (fun x => x)
      have y4 := hch.cell z4 (fun x => x)
      exact rg_val (v := .agg #[.bool true, .int .i64 fi, .int .i64 pl, .int .i64 va, .int .i64 st]) (by simp [execOp, go_sem, e0, y0, y1, y2, y3, y4]) rfl ⟨hch, hbx.keep (by decide) (by decide) hm (Chg.refl NoB _) (fun _ _ x => x)⟩ (Chg.refl _ _) rfl
    · rintro kc m a w5 hkc ⟨hch, hbx⟩ hm hn
      obtain ⟨⟨_, e0, m0, rfl⟩, ⟨_, e1, m1, rfl⟩, -⟩ := hn
      refine rg_call (f := 162) (args := #[.agg #[.int .i64 D[k].wear, .slice A' 4 c'], .agg #[.bool true, .int .i64 fi, .int .i64 pl, .int .i64 va, .int .i64 st]]) (by simp [go_sem, e0, e1]) rfl ?_
      refine (iWriteBlock_any _ A' c' D[k] ⟨true, fi, pl, va, st⟩ _ (HRD.out.new hch) HBK.out HP.out rfl).mono ?_
      rintro e' w6 ⟨g3, c3, rest3, rfl, hok6, hc6⟩
      rw [← HPP.out] at hok6 ⊢
      exact ⟨_, rfl, ⟨hch.trans' hc6 (fun _ x => x.elim), hbx.keep (by decide) (by decide) hm hc6 (fun _ _ x => x)⟩, (RBox.of hc6 (fun _ x => x)), ⟨g3, c3, rest3, rfl, (hok6.more hch.size (Nat.le_refl _))⟩⟩
    · rintro kc m a w5 hkc ⟨hch, hbx⟩ hm hn
      obtain ⟨⟨_, e0, m0, g3, c3, rest3, rfl, hok⟩, -⟩ := hn
      exact rg_val (v := .tuple #[.agg #[.int .i64 D[k].wear, .slice (some ⟨g3, 0, none⟩) 4 c3], .int .i64 (writeBlock D[k] P).2]) (by simp [execOp, go_sem, e0]) rfl ⟨hch, hbx.keep (by decide) (by decide) hm (Chg.refl NoB _) (fun _ _ x => x)⟩ (Chg.refl _ _) ⟨g3, c3, rest3, rfl, hok⟩
    · rintro kc m a w5 hkc ⟨hch, hbx⟩ hm hn
      obtain ⟨⟨_, e0, m0, g3, c3, rest3, rfl, hok⟩, -⟩ := hn
      exact rg_val (v := .agg #[.int .i64 D[k].wear, .slice (some ⟨g3, 0, none⟩) 4 c3]) (by simp [execOp, go_sem, e0]) rfl ⟨hch, hbx.keep (by decide) (by decide) hm (Chg.refl NoB _) (fun _ _ x => x)⟩ (Chg.refl _ _) ⟨g3, c3, rest3, rfl, hok⟩
    · rintro kc m a w5 hkc ⟨hch, hbx⟩ hm hn
      obtain ⟨⟨_, e0, m0, g3, c3, rest3, rfl, hok⟩, -⟩ := hn
      exact rg_val (v := .int .i64 (writeBlock D[k] P).2) (by simp [execOp, go_sem, e0]) rfl ⟨hch, hbx.keep (by decide) (by decide) hm (Chg.refl NoB _) (fun _ _ x => x)⟩ (Chg.refl _ _) rfl
    · rintro kc m a w5 hkc ⟨hch, hbx⟩ hm hn
      have hca : Chg NoB w5 (w5.alloc (.cells #[.int .i64 0, .slice none 0 0] 67)) := (Chg.refl _ _).alloc _
      exact rg_val (v := .pointer (some ⟨w5.heap.size, 0, none⟩)) (w' := w5.alloc (.cells #[.int .i64 0, .slice none 0 0] 67)) (by simp [execOp, go_sem]) rfl ⟨hch.alloc _, hbx.alloc (by decide) hm hch.size⟩ (RBox.of hca (fun _ x => x.elim)) trivial
    · rintro kc m a w5 hkc ⟨hch, hbx⟩ hm hn
      obtain ⟨⟨p0, e0, m0, _⟩, ⟨_, e1, m1, g3, c3, rest3, rfl, hok⟩, -⟩ := hn
      obtain ⟨bx, rfl, hBx, hb⟩ := hbx.ready hm m0
      have f0 := hb.frozen 0
      have x0 : w5.cell? ⟨bx, 0, none⟩ = some (.int .i64 0) := (hb.cell _).trans rfl
      have f1 := hb.frozen 1
      have x1 : w5.cell? ⟨bx, 1, none⟩ = some (.slice none 0 0) := (hb.cell _).trans rfl
      have hs : Chg (· = bx) w5 ((w5.setCell ⟨bx, 0, none⟩ (.int .i64 D[k].wear)).setCell ⟨bx, 1, none⟩ (.slice (some ⟨g3, 0, none⟩) 4 c3)) := (((Chg.refl (· = bx) w5).setCell (p := ⟨bx, 0, none⟩) (.inl rfl) _).setCell (p := ⟨bx, 1, none⟩) (.inl rfl) _)
      have hb' : Blk ((w5.setCell ⟨bx, 0, none⟩ (.int .i64 D[k].wear)).setCell ⟨bx, 1, none⟩ (.slice (some ⟨g3, 0, none⟩) 4 c3)) bx 67 #[.int .i64 D[k].wear, .slice (some ⟨g3, 0, none⟩) 4 c3] := ((hb.set_ 0 _).set_ 1 _)
      exact rg_skip (w' := ((w5.setCell ⟨bx, 0, none⟩ (.int .i64 D[k].wear)).setCell ⟨bx, 1, none⟩ (.slice (some ⟨g3, 0, none⟩) 4 c3))) (by simp [execOp, go_sem, e0, e1, x0, x1, f0, f1]) rfl ⟨hch.own hs hBx, BoxI.store (by decide) (by decide) m0 hBx m1 hb'⟩ (RBox.box hs hBx hb) trivial
    · rintro kc m a w5 hkc ⟨hch, hbx⟩ hm hn
      obtain ⟨⟨_, e0, m0, rfl⟩, -⟩ := hn
      exact rg_val (v := .int .i64 (writeBlock D[k] P).2) (by simp [execOp, go_sem, e0]) rfl ⟨hch, hbx.keep (by decide) (by decide) hm (Chg.refl NoB _) (fun _ _ x => x)⟩ (Chg.refl _ _) rfl
  rintro m w5 ⟨hch, hbx⟩
  simp only [AllVals]
  rintro q0 m0 p0 q1 m1 p1 q2 m2 p2 q3 m3 p3 q4 m4 p4 q5 m5 p5 q6 m6 p6 q7 m7 p7 q8 m8 p8 q9 m9 p9 q10 m10 p10 q11 m11 p11
  obtain ⟨g3, c3, rest3, rfl, hok⟩ := p7
  obtain rfl := p11
  obtain ⟨bx, rfl, hBx, hb⟩ := hbx.done m9 m10 m7
  have b0 : w5.cell? ⟨bx, 0, none⟩ = some (.int .i64 D[k].wear) := (hb.cell _).trans rfl
  have b1 : w5.cell? ⟨bx, 1, none⟩ = some (.slice (some ⟨g3, 0, none⟩) 4 c3) := (hb.cell _).trans rfl
  have HOK := Lib.hid hok
  have HCH := Lib.hid hch
  have hbg5 := HBG.out.chg hch (fun x => x)
  obtain ⟨x0, x1⟩ := DevO.room hbg5 (k := k) (by rw [HTL.out]; exact hk)
  have f0 := hbg5.frozen (k * 2)
  have f1 := hbg5.frozen (k * 2 + 1)
  have HBG5 := Lib.hid hbg5
  have HO5 := Lib.hid (HO4.out.new hch)
  have hnz := HWN.out
  have HNE := Lib.hid (show g < bx by have := HGB.out.2; omega)
  have hne1 : g ≠ bx := by have := HNE.out; omega
  have hne2 : bx ≠ g := by omega
  clear hb hbx hBx hok hch hbg5 z0 z1 z2 z3 z4
  clear p0 p1 p2 p3 p4 p5 p6 p8 p9 p10
  simp only [Act.put, List.setIfInBounds_toArray, List.set_cons_succ, List.set_cons_zero]
  obtain ⟨z, hz⟩ : ∃ z, (writeBlock D[k] P).2 = z := ⟨_, rfl⟩
  have HZ := Lib.hid hz
  rw [hz] at hnz ⊢
  obtain ⟨hz0, hz1⟩ := hnz
  clear hz
  have hFIN : ∀ z', (program D (k : Int) P).2 = z' → (program D (k : Int) P).1 = D.set k (writeBlock D[k] P).1 → Hid (ProgP w D k P (.returned (.tuple #[.slice (some ⟨g, 0, none⟩) D.length c2, .int .i64 z'])) ((w5.setCell ⟨g, k * 2, none⟩ (.int .i64 D[k].wear)).setCell ⟨g, k * 2 + 1, none⟩ (.slice (some ⟨g3, 0, none⟩) 4 c3))) := by
    intro z' e1 e2
    have hg := HGB.out
    have hs2 := HS2.out
    have hok5 := HOK.out
    have hkT : k < T.length := by rw [HTL.out]; exact hk
    have hps : (writeBlock D[k] P).1.pages.length = 4 := by
      have := BkOk.write HBK.out HP.out rfl
      rw [← HPP.out] at this
      exact this.2.1
    have hset := HO5.out.setBk (r := ⟨g3, c3, D[k].wear, (writeBlock D[k] P).1.pages, rest3⟩) HBG5.out hg hkT (hok5.more (Nat.le_of_lt (Nat.lt_of_le_of_lt hg.1 hg.2)) (Nat.le_refl _)) hok5.1
    rw [show (⟨g3, c3, D[k].wear, (writeBlock D[k] P).1.pages, rest3⟩ : BkO).ps.length = 4 from hps] at hset
    have hcs := chg2 (F := (· = g)) (a := .int .i64 D[k].wear) (b := .slice (some ⟨g3, 0, none⟩) 4 c3) (Chg.refl (· = g) w5) (.inl rfl) (k * 2)
    refine Lib.hid ⟨some ⟨g, 0, none⟩, c2, T.set k ⟨g3, c3, D[k].wear, (writeBlock D[k] P).1.pages, rest3⟩, by rw [e1], ?_, hset.more hs2 (by simp [World.setCell]), (HC4.out.trans HCH.out).own hcs (by omega)⟩
    rw [bksOf_set, HT.out, e2]
    congr 1
    show (⟨D[k].wear, (writeBlock D[k] P).1.pages⟩ : Bk) = _
    rw [← HWW.out]
  by_cases hneg : z < 0
  · have HN := Lib.hid (show (program D (k : Int) P).2 = -1 ∧ (program D (k : Int) P).1 = D.set k (writeBlock D[k] P).1 by
      rw [HPR.out, HZ.out, if_neg (by omega)]
      refine ⟨rfl, ?_⟩
      have hl4 : ¬ lead D[k].pages < 4 := fun hh => by
        have := writeBlock_free HBK.out HP.out rfl hh
        rw [← HPP.out] at this
        have h3 := HZ.out
        rw [this] at h3
        simp only at h3
        omega
      have := writeBlock_full HBK.out HP.out rfl hl4
      rw [← HPP.out] at this
      rw [this]
      exact (List.set_getElem_self hk).symm)
    have HN2 := Lib.hid (show (program D (k : Int) P).2 = -1 ∧ (program D (k : Int) P).1 = D by rw [HPR.out, HZ.out, if_neg (by omega)]; exact ⟨rfl, rfl⟩)
    go_wp2_with fail
    (try simp only [Exit.inBlock, Exit.then])
    refine bodyPost_ret (v := .tuple #[.slice (some ⟨g, 0, none⟩) D.length c2, .int .i64 (-1)]) (by simp [results, Try.results144, go_sem, *]) rfl ?_
    have hs2 := HS2.out
    exact ⟨some ⟨g, 0, none⟩, c2, T, by rw [HN2.out.1], by rw [HT.out, HN2.out.2], HO5.out.more hs2 HCH.out.size, HC4.out.trans HCH.out⟩
  · have HN := Lib.hid (show (program D (k : Int) P).2 = 4 * (k : Int) + z ∧ (program D (k : Int) P).1 = D.set k (writeBlock D[k] P).1 by
      rw [HPR.out, HZ.out, if_pos (by omega)]
      exact ⟨rfl, rfl⟩)
    have hk12 : (k : Int) * 4 ≤ 44 := by omega
    go_wp2_with fail
    (try simp only [Exit.inBlock, Exit.then])
    refine bodyPost_ret (v := .tuple #[.slice (some ⟨g, 0, none⟩) D.length c2, .int .i64 ((k : Int) * 4 + z)]) (by simp [results, Try.results144, go_sem, *]) rfl ?_
    exact (hFIN ((k : Int) * 4 + z) (by rw [HN.out.1]; omega) HN.out.2).out
set_option maxRecDepth 100000 in
set_option maxHeartbeats 2000000 in
theorem iHeadOf_any (F : Nat → Prop) (A : Option Addr) (c : Nat) (D : List Bk) (h : Hd) (n : Nat) (w : World) (hr : DevR F w A D) (hh : HeadsOk D h) (hn : n < 3) :
    Calls Try.prog 142 #[.slice A D.length c, hval h, .int .i64 n] w fun e w' => e = .returned (.int .i64 (h.get n)) ∧ Chg NoB w w' := by
  obtain ⟨a1, a2, a3⟩ := h
  have hca := (Chg.refl NoB w).alloc (.cells #[.int .i64 a1, .int .i64 a2, .int .i64 a3] 46)
  have HB := Lib.hid (Blk.new w 46 #[.int .i64 a1, .int .i64 a2, .int .i64 a3])
  have HC := Lib.hid hca
  have HR := Lib.hid (hr.new hca)
  have HH := Lib.hid hh
  clear hca hr hh
  rcases (show n = 0 ∨ n = 1 ∨ n = 2 by omega) with rfl | rfl | rfl
  all_goals
    go_enter Try.func142, Try.ntmps142
    go_wp2_with fail
    refine (iHeadsValid_any _ A c D ⟨a1, a2, a3⟩ _ HR.out).mono ?_
    rintro e w1 ⟨rfl, hc1⟩
    rw [decide_eq_true HH.out]
    have hb := HB.out.chg hc1 (fun x => x)
    have x0 : w1.cell? ⟨w.heap.size, 0, none⟩ = some (.int .i64 a1) := (hb.cell _).trans rfl
    have x1 : w1.cell? ⟨w.heap.size, 1, none⟩ = some (.int .i64 a2) := (hb.cell _).trans rfl
    have x2 : w1.cell? ⟨w.heap.size, 2, none⟩ = some (.int .i64 a3) := (hb.cell _).trans rfl
    have HC1 := Lib.hid (HC.out.trans hc1)
    clear hc1 hb
    go_wp2
    go_ret
    exact ⟨rfl, HC1.out⟩
end Go.Proofs.Ytpiojofmflfkkaa
/- FreshBlock of the program. -/
namespace Go.Proofs.Ytpiojofmflfkkaa
open Go.RowKit
set_option maxRecDepth 100000 in
set_option maxHeartbeats 4000000 in
theorem iFreshBlock_any (F : Nat → Prop) (A : Option Addr) (c : Nat) (D : List Bk) (h : Hd) (w : World) (hr : DevR F w A D) :
    Calls Try.prog 143 #[.slice A D.length c, hval h] w fun e w' => e = .returned (.int .i64 (fresh D h)) ∧ Chg NoB w w' := by
  obtain ⟨x, y, z⟩ := h
  have hca := (Chg.refl NoB w).alloc (.cells #[.int .i64 x, .int .i64 y, .int .i64 z] 46)
  have HB0 := Lib.hid (Blk.new w 46 #[.int .i64 x, .int .i64 y, .int .i64 z])
  have HC := Lib.hid hca
  have HR := Lib.hid (hr.new hca)
  have HR0 := Lib.hid hr
  clear hca hr
  by_cases hd : HeadsOk D ⟨x, y, z⟩
  case neg =>
    have HD := Lib.hid hd
    clear hd
    go_enter Try.func143, Try.ntmps143
    go_wp2_with fail
    refine (iHeadsValid_any _ A c D ⟨x, y, z⟩ _ HR.out).mono ?_
    rintro e w1 ⟨rfl, hc1⟩
    have HCC := Lib.hid (HC.out.trans hc1)
    rw [decide_eq_false HD.out]
    clear hc1
    go_wp2
    go_ret
    exact ⟨ret_int (if_neg HD.out).symm, HCC.out⟩
  have HD := Lib.hid hd
  have h1 := hd.1.1.1
  have h2 := hd.1.1.2
  clear hd
  go_enter Try.func143, Try.ntmps143
  go_wp2_with fail
  refine (iHeadsValid_any _ A c D ⟨x, y, z⟩ _ HR.out).mono ?_
  rintro e w1 ⟨rfl, hc1⟩
  have HCC := Lib.hid (HC.out.trans hc1)
  have HBB := Lib.hid (HB0.out.chg hc1 (fun x => x))
  rw [decide_eq_true HD.out]
  clear hc1
  go_wp2
  go_loopw [5, 14] (fun v i wr => ∃ k : Nat, k ≤ D.length ∧ i = .int .i64 k ∧ v = .int .i64 (bestTo (freshGood D ⟨x, y, z⟩) (wearAt D) k) ∧ Chg NoB w wr ∧ Blk wr w.heap.size 46 #[.int .i64 x, .int .i64 y, .int .i64 z]) (fun _ i _ => D.length - (intOf i).toNat)
  case atStart => exact ⟨0, Nat.zero_le _, rfl, rfl, HCC.out, HBB.out⟩
  case round =>
    obtain ⟨k, hkl, rfl, rfl, hch, hbx⟩ := hrel
    have x0 : wr.cell? ⟨w.heap.size, 0, none⟩ = some (.int .i64 x) := (hbx.cell _).trans rfl
    have x1 : wr.cell? ⟨w.heap.size, 1, none⟩ = some (.int .i64 y) := (hbx.cell _).trans rfl
    have x2 : wr.cell? ⟨w.heap.size, 2, none⟩ = some (.int .i64 z) := (hbx.cell _).trans rfl
    have hrng := bestTo_range (freshGood D ⟨x, y, z⟩) (wearAt D) k
    obtain ⟨best, hbest⟩ : ∃ best, bestTo (freshGood D ⟨x, y, z⟩) (wearAt D) k = best := ⟨_, rfl⟩
    rw [hbest] at hrng ⊢
    obtain ⟨hrg0, hrg1⟩ := hrng
    have HBEST := Lib.hid hbest
    clear hbest
    by_cases hk : k < D.length
    · have hi0 : (0 : Int) ≤ (k : Int) := Int.natCast_nonneg _
      have hi1 : (k : Int) < (D.length : Int) := by omega
      have hok : BkOk D[k] := HD.out.1.2 k hk
      have HNZ := Lib.hid (next_zero hok)
      have HG1 := Lib.hid (show isHead ⟨x, y, z⟩ (k : Int) → ¬ freshGood D ⟨x, y, z⟩ k = true from fun hn hg => by
        unfold freshGood at hg
        rw [Bool.and_eq_true, Bool.not_eq_true', decide_eq_false_iff_not] at hg
        exact hg.2 hn)
      have HG0 := Lib.hid (show ¬ next D[k] = 0 → ¬ freshGood D ⟨x, y, z⟩ k = true from fun hn hg => by
        unfold freshGood at hg
        rw [getD_at hk, Bool.and_eq_true, decide_eq_true_iff] at hg
        exact hn (HNZ.out.2 hg.1))
      have HG2 := Lib.hid (show next D[k] = 0 → ¬ isHead ⟨x, y, z⟩ (k : Int) → freshGood D ⟨x, y, z⟩ k = true from fun hn hh => by
        unfold freshGood
        rw [getD_at hk, Bool.and_eq_true, decide_eq_true_iff, Bool.not_eq_true', decide_eq_false_iff_not]
        exact ⟨HNZ.out.1 hn, hh⟩)
      obtain ⟨bb, o, A', c', rfl, hf, c0, c1, hr, hcc⟩ := (HR0.out.new hch) k hk
      have HBX0 := Lib.hid (hbx.chg ((Chg.refl NoB wr).alloc (.cells #[.int .i64 D[k].wear, .slice A' D[k].pages.length c'] 67)) (fun x => x))
      have HP0 := Lib.hid (Blk.new wr 67 #[.int .i64 D[k].wear, .slice A' D[k].pages.length c'])
      have HCH := Lib.hid (hch.alloc (.cells #[.int .i64 D[k].wear, .slice A' D[k].pages.length c'] 67))
      have HRD := Lib.hid (hr.new ((Chg.refl NoB wr).alloc (.cells #[.int .i64 D[k].wear, .slice A' D[k].pages.length c'] 67)))
      have hlt := hbx.lt
      clear hch hr hbx hok
      go_wp2_with fail
      refine (isHead_any ⟨x, y, z⟩ (k : Int) _).mono ?_
      rintro e w3 ⟨rfl, hc3⟩
      have HC3 := Lib.hid (HCH.out.trans hc3)
      have HB3 := Lib.hid (HBX0.out.chg hc3 (fun x => x))
      have HP3 := Lib.hid (HP0.out.chg hc3 (fun x => x))
      have HR3 := Lib.hid (HRD.out.new hc3)
      have hp3 := HP3.out
      have y0 : w3.cell? ⟨wr.heap.size, 0, none⟩ = some (.int .i64 D[k].wear) := (hp3.cell _).trans rfl
      have y1 : w3.cell? ⟨wr.heap.size, 1, none⟩ = some (.slice A' D[k].pages.length c') := (hp3.cell _).trans rfl
      clear hc3 hp3 c0 c1
      by_cases hh : isHead ⟨x, y, z⟩ (k : Int)
      · rw [decide_eq_true hh]
        have HB := Lib.hid (best_no (W := wearAt D) (k := k) (good := freshGood D ⟨x, y, z⟩) (fun hq => HG1.out hh hq.1))
        clear hh
        go_wp2
        go_roundw
        case rel => exact ⟨k + 1, by omega, by go_num, by rw [HB.out, HBEST.out], HC3.out, HB3.out⟩
        case measure => simp [intOf]; omega
      rw [decide_eq_false hh]
      have HH := Lib.hid hh
      clear hh
      go_wp2_with fail
      refine (iBlockNext_any _ A' c' D[k] _ HR3.out).mono ?_
      rintro e w4 ⟨rfl, hc4⟩
      obtain ⟨nx, hnx⟩ : ∃ nx, next D[k] = nx := ⟨_, rfl⟩
      rw [hnx] at HG0 HG2 ⊢
      have HC4 := Lib.hid (HC3.out.trans hc4)
      have HB4 := Lib.hid (HB3.out.chg hc4 (fun x => x))
      have HP4 := Lib.hid (HP3.out.chg hc4 (fun x => x))
      have hp4 := HP4.out
      clear y0 y1
      have y0 : w4.cell? ⟨wr.heap.size, 0, none⟩ = some (.int .i64 D[k].wear) := (hp4.cell _).trans rfl
      have y1 : w4.cell? ⟨wr.heap.size, 1, none⟩ = some (.slice A' D[k].pages.length c') := (hp4.cell _).trans rfl
      clear hc4 hp4 hnx
      by_cases h0 : ¬ nx = 0
      · have h0' : (nx != 0) = true := by simpa using h0
        have HB := Lib.hid (best_no (W := wearAt D) (k := k) (good := freshGood D ⟨x, y, z⟩) (fun hq => HG0.out h0 hq.1))
        clear h0
        go_wp2
        go_roundw
        case rel => exact ⟨k + 1, by omega, by go_num, by rw [HB.out, HBEST.out], HC4.out, HB4.out⟩
        case measure => simp [intOf]; omega
      have h0 : nx = 0 := Decidable.not_not.1 h0
      have h0' : (nx != 0) = false := by simpa using h0
      have HGD := Lib.hid (HG2.out h0 HH.out)
      clear h0
      by_cases hl : best < 0
      · have hl' : decide (best < 0) = true := decide_eq_true hl
        have HB := Lib.hid (best_yes (W := wearAt D) HGD.out (.inl (by rw [HBEST.out]; exact hl)))
        go_wp2
        go_quiet (fail)
        go_wp2
        go_roundw
        case rel => exact ⟨k + 1, by omega, by go_num, by rw [HB.out], HC4.out.drewN _, HB4.out.chg ((Chg.refl NoB _).drewN _) (fun x => x)⟩
        case measure => simp [intOf]; omega
      obtain ⟨j, hj⟩ := Int.eq_ofNat_of_zero_le (show 0 ≤ best by omega)
      have hjl : j < D.length := by omega
      have hj0 : (0 : Int) ≤ (j : Int) := Int.natCast_nonneg _
      have hj1 : (j : Int) < (D.length : Int) := by omega
      have hl' : decide ((j : Int) < 0) = false := decide_eq_false (by omega)
      have hl2 : ¬ ((j : Int) < 0) := by omega
      obtain ⟨bb', o', A2, c2, e1, -, d0, -⟩ := (HR0.out.new HC4.out) j hjl
      cases e1
      rw [hj] at HBEST ⊢
      clear hj hl hrg0 hrg1
      by_cases hw : D[k].wear < D[j].wear
      · have HB := Lib.hid (best_yes (W := wearAt D) HGD.out (.inr (by rw [HBEST.out, Int.toNat_natCast, wearAt_eq hk, wearAt_eq hjl]; exact hw)))
        go_wp2
        go_quiet (fail)
        go_wp2
        go_roundw
        case rel => exact ⟨k + 1, by omega, by go_num, by rw [HB.out], HC4.out.drewN _, HB4.out.chg ((Chg.refl NoB _).drewN _) (fun x => x)⟩
        case measure => simp [intOf]; omega
      have HB := Lib.hid (best_no (W := wearAt D) (k := k) (good := freshGood D ⟨x, y, z⟩) (fun hh => hh.2.elim (by rw [HBEST.out]; exact hl2) (by rw [HBEST.out, Int.toNat_natCast, wearAt_eq hk, wearAt_eq hjl]; exact hw)))
      go_wp2
      go_quiet (fail)
      go_wp2
      go_roundw
      case rel => exact ⟨k + 1, by omega, by go_num, by rw [HB.out, HBEST.out], HC4.out.drewN _, HB4.out.chg ((Chg.refl NoB _).drewN _) (fun x => x)⟩
      case measure => simp [intOf]; omega
    · obtain rfl : k = D.length := by omega
      have HCH := Lib.hid hch
      clear hch hbx
      go_wp2
      go_ret
      exact ⟨ret_int (by unfold fresh; rw [if_pos HD.out, HBEST.out]), HCH.out⟩
end Go.Proofs.Ytpiojofmflfkkaa
/- AppendPage of the program, where what it takes is valid. -/
namespace Go.Proofs.Ytpiojofmflfkkaa
open Go.RowKit
set_option maxRecDepth 100000 in
set_option maxHeartbeats 8000000 in
theorem iAppendPage_any (F : Nat → Prop) (A : Option Addr) (c : Nat) (D : List Bk) (h : Hd) (n : Nat) (p : Pg) (w : World) (hr : DevR F w A D) (hh : HeadsOk D h) (hn : n < 3) (hp : PgOk p) (hf : p.full = true) :
    Calls Try.prog 89 #[.slice A D.length c, hval h, .int .i64 n, pval p] w (AppP w D h n p) := by
  obtain ⟨fu, fi, pl, va, st⟩ := p
  obtain rfl : fu = true := hf
  have hgr := hh.get n
  have HNX := Lib.hid (fun (x : Nat) (hx : h.get n = (x : Int)) (hk : x < D.length) hl => appendPage_head hh hn hp rfl hx hk hl)
  have HNN := Lib.hid (fun hx hl => appendPage_none hh hn hp rfl hx hl)
  have HNF := Lib.hid (fun (x : Nat) hx (hl : fresh D h = (x : Int)) => appendPage_fresh hh hn hp rfl hx hl)
  have HDH := Lib.hid (show ∀ wq (Aq : Option Addr) (cq : Nat) (G : Nat → Prop), DevR G wq Aq D → Calls Try.prog 142 #[.slice Aq D.length cq, hval h, .int .i64 n] wq fun e w' => e = .returned (.int .i64 (h.get n)) ∧ Chg NoB wq w' from fun wq Aq cq G hq => iHeadOf_any G Aq cq D h n wq hq hh hn)
  have HFR := Lib.hid (show ∀ wq (Aq : Option Addr) (cq : Nat) (G : Nat → Prop), DevR G wq Aq D → Calls Try.prog 143 #[.slice Aq D.length cq, hval h] wq fun e w' => e = .returned (.int .i64 (fresh D h)) ∧ Chg NoB wq w' from fun wq Aq cq G hq => iFreshBlock_any G Aq cq D h wq hq)
  have HHV := Lib.hid (show ∀ wq (Aq : Option Addr) (cq : Nat) (G : Nat → Prop), DevR G wq Aq D → Calls Try.prog 38 #[.slice Aq D.length cq, hval h] wq fun e w' => e = .returned (.bool true) ∧ Chg NoB wq w' from fun wq Aq cq G hq => (iHeadsValid_any G Aq cq D h wq hq).mono fun e w' ⟨he, hw⟩ => ⟨by rw [he, decide_eq_true hh], hw⟩)
  obtain ⟨z, hz⟩ : ∃ z, h.get n = z := ⟨_, rfl⟩
  have HZ := Lib.hid hz
  rw [hz] at HDH hgr
  obtain ⟨y, hy⟩ : ∃ y, fresh D h = y := ⟨_, rfl⟩
  have HYR := Lib.hid (fresh_range (D := D) (h := h))
  have HY := Lib.hid hy
  rw [hy] at HFR HYR
  obtain ⟨PR, hPR⟩ : ∃ PR, PR = AppP w D h n ⟨true, fi, pl, va, st⟩ := ⟨_, rfl⟩
  have HPR := Lib.hid hPR
  rw [← hPR]
  obtain ⟨a1, a2, a3⟩ := h
  obtain ⟨q1, q2, q3⟩ := lit2 w 46 80 #[.int .i64 a1, .int .i64 a2, .int .i64 a3] #[.bool true, .int .i64 fi, .int .i64 pl, .int .i64 va, .int .i64 st]
  obtain ⟨w2, hw2⟩ : ∃ w2, (w.alloc (.cells #[.int .i64 a1, .int .i64 a2, .int .i64 a3] 46)).alloc (.cells #[.bool true, .int .i64 fi, .int .i64 pl, .int .i64 va, .int .i64 st] 80) = w2 := ⟨_, rfl⟩
  have hsz2 : w2.heap.size = w.heap.size + 1 + 1 := by rw [← hw2]; simp [World.size_alloc]
  have hca := (Chg.refl NoB w2).alloc (.cells #[.int .i64 0, .int .i64 0, .int .i64 0] 46)
  have q4 := Blk.new w2 46 #[.int .i64 0, .int .i64 0, .int .i64 0]
  rw [hw2] at q1 q2 q3
  obtain ⟨w3, hw3⟩ : ∃ w3, w2.alloc (.cells #[.int .i64 0, .int .i64 0, .int .i64 0] 46) = w3 := ⟨_, rfl⟩
  rw [hw3] at hca q4
  rw [hsz2] at q4
  have HBH := Lib.hid (q1.chg hca (fun x => x))
  have HBP := Lib.hid (q2.chg hca (fun x => x))
  have HBR := Lib.hid q4
  have HC := Lib.hid (q3.trans hca)
  have HR := Lib.hid (hr.lt.new (q3.trans hca))
  have HW2 := Lib.hid hw2
  have HW3 := Lib.hid hw3
  have HD := Lib.hid hh.1
  have HP := Lib.hid hp
  have hnn0 : (0 : Int) ≤ (n : Int) := Int.natCast_nonneg _
  have HNL := Lib.hid hn
  have hnn2 : ¬ ((n : Int) < 0) := by omega
  have hnn3 : ¬ ((2 : Int) < (n : Int)) := by omega
  have hl := hh.1.1
  clear q1 q2 q3 q4 hr hca hw2 hw3 hsz2 hp hh hz hy hPR
  go_enter Try.func89, Try.ntmps89
  go_wp2_with fail
  rw [HW2.out, HW3.out]
  clear HW2 HW3
  refine (HHV.out _ A c _ HR.out).mono ?_
  rintro e w4 ⟨rfl, hc4⟩
  replace HBH := Lib.hid (HBH.out.chg hc4 (fun x => x))
  replace HBP := Lib.hid (HBP.out.chg hc4 (fun x => x))
  replace HBR := Lib.hid (HBR.out.chg hc4 (fun x => x))
  replace HC := Lib.hid (HC.out.trans hc4)
  replace HR := Lib.hid (HR.out.new hc4)
  clear hc4
  have hbh := HBH.out
  have x0 : w4.cell? ⟨w.heap.size, 0, none⟩ = some (.int .i64 a1) := (hbh.cell _).trans rfl
  have xf0 := hbh.frozen 0
  have x1 : w4.cell? ⟨w.heap.size, 1, none⟩ = some (.int .i64 a2) := (hbh.cell _).trans rfl
  have xf1 := hbh.frozen 1
  have x2 : w4.cell? ⟨w.heap.size, 2, none⟩ = some (.int .i64 a3) := (hbh.cell _).trans rfl
  have xf2 := hbh.frozen 2
  clear hbh
  have hbp := HBP.out
  have p0 : w4.cell? ⟨(w.heap.size + 1), 0, none⟩ = some (.bool true) := (hbp.cell _).trans rfl
  have p1 : w4.cell? ⟨(w.heap.size + 1), 1, none⟩ = some (.int .i64 fi) := (hbp.cell _).trans rfl
  have p2 : w4.cell? ⟨(w.heap.size + 1), 2, none⟩ = some (.int .i64 pl) := (hbp.cell _).trans rfl
  have p3 : w4.cell? ⟨(w.heap.size + 1), 3, none⟩ = some (.int .i64 va) := (hbp.cell _).trans rfl
  have p4 : w4.cell? ⟨(w.heap.size + 1), 4, none⟩ = some (.int .i64 st) := (hbp.cell _).trans rfl
  clear hbp
  go_wp2_with fail
  refine (iPageValid_t ⟨true, fi, pl, va, st⟩ _ HP.out).mono ?_
  rintro e w5 ⟨rfl, hc5⟩
  clear x0 x1 x2 xf0 xf1 xf2 p0 p1 p2 p3 p4
  replace HBH := Lib.hid (HBH.out.chg hc5 (fun x => x))
  replace HBP := Lib.hid (HBP.out.chg hc5 (fun x => x))
  replace HBR := Lib.hid (HBR.out.chg hc5 (fun x => x))
  replace HC := Lib.hid (HC.out.trans hc5)
  replace HR := Lib.hid (HR.out.new hc5)
  clear hc5
  have hbh := HBH.out
  have x0 : w5.cell? ⟨w.heap.size, 0, none⟩ = some (.int .i64 a1) := (hbh.cell _).trans rfl
  have xf0 := hbh.frozen 0
  have x1 : w5.cell? ⟨w.heap.size, 1, none⟩ = some (.int .i64 a2) := (hbh.cell _).trans rfl
  have xf1 := hbh.frozen 1
  have x2 : w5.cell? ⟨w.heap.size, 2, none⟩ = some (.int .i64 a3) := (hbh.cell _).trans rfl
  have xf2 := hbh.frozen 2
  clear hbh
  have hbp := HBP.out
  have p0 : w5.cell? ⟨(w.heap.size + 1), 0, none⟩ = some (.bool true) := (hbp.cell _).trans rfl
  have p1 : w5.cell? ⟨(w.heap.size + 1), 1, none⟩ = some (.int .i64 fi) := (hbp.cell _).trans rfl
  have p2 : w5.cell? ⟨(w.heap.size + 1), 2, none⟩ = some (.int .i64 pl) := (hbp.cell _).trans rfl
  have p3 : w5.cell? ⟨(w.heap.size + 1), 3, none⟩ = some (.int .i64 va) := (hbp.cell _).trans rfl
  have p4 : w5.cell? ⟨(w.heap.size + 1), 4, none⟩ = some (.int .i64 st) := (hbp.cell _).trans rfl
  clear hbp
  go_wp2_with fail
  refine (HDH.out _ A c _ HR.out).mono ?_
  rintro e w6 ⟨rfl, hc6⟩
  clear x0 x1 x2 xf0 xf1 xf2 p0 p1 p2 p3 p4
  replace HBH := Lib.hid (HBH.out.chg hc6 (fun x => x))
  replace HBP := Lib.hid (HBP.out.chg hc6 (fun x => x))
  replace HBR := Lib.hid (HBR.out.chg hc6 (fun x => x))
  replace HC := Lib.hid (HC.out.trans hc6)
  replace HR := Lib.hid (HR.out.new hc6)
  clear hc6
  have hbh := HBH.out
  have x0 : w6.cell? ⟨w.heap.size, 0, none⟩ = some (.int .i64 a1) := (hbh.cell _).trans rfl
  have xf0 := hbh.frozen 0
  have x1 : w6.cell? ⟨w.heap.size, 1, none⟩ = some (.int .i64 a2) := (hbh.cell _).trans rfl
  have xf1 := hbh.frozen 1
  have x2 : w6.cell? ⟨w.heap.size, 2, none⟩ = some (.int .i64 a3) := (hbh.cell _).trans rfl
  have xf2 := hbh.frozen 2
  clear hbh
  have hbp := HBP.out
  have p0 : w6.cell? ⟨(w.heap.size + 1), 0, none⟩ = some (.bool true) := (hbp.cell _).trans rfl
  have p1 : w6.cell? ⟨(w.heap.size + 1), 1, none⟩ = some (.int .i64 fi) := (hbp.cell _).trans rfl
  have p2 : w6.cell? ⟨(w.heap.size + 1), 2, none⟩ = some (.int .i64 pl) := (hbp.cell _).trans rfl
  have p3 : w6.cell? ⟨(w.heap.size + 1), 3, none⟩ = some (.int .i64 va) := (hbp.cell _).trans rfl
  have p4 : w6.cell? ⟨(w.heap.size + 1), 4, none⟩ = some (.int .i64 st) := (hbp.cell _).trans rfl
  clear hbp
  by_cases hz : z < 0
  case pos =>
    obtain ⟨hg0, hg1⟩ := hgr
    go_wp2_with fail
    refine (HFR.out _ A c _ HR.out).mono ?_
    rintro e w7 ⟨rfl, hc7⟩
    clear x0 x1 x2 xf0 xf1 xf2 p0 p1 p2 p3 p4
    replace HBH := Lib.hid (HBH.out.chg hc7 (fun x => x))
    replace HBP := Lib.hid (HBP.out.chg hc7 (fun x => x))
    replace HBR := Lib.hid (HBR.out.chg hc7 (fun x => x))
    replace HC := Lib.hid (HC.out.trans hc7)
    replace HR := Lib.hid (HR.out.new hc7)
    clear hc7
    have hbh := HBH.out
    have x0 : w7.cell? ⟨w.heap.size, 0, none⟩ = some (.int .i64 a1) := (hbh.cell _).trans rfl
    have xf0 := hbh.frozen 0
    have x1 : w7.cell? ⟨w.heap.size, 1, none⟩ = some (.int .i64 a2) := (hbh.cell _).trans rfl
    have xf1 := hbh.frozen 1
    have x2 : w7.cell? ⟨w.heap.size, 2, none⟩ = some (.int .i64 a3) := (hbh.cell _).trans rfl
    have xf2 := hbh.frozen 2
    clear hbh
    have hbp := HBP.out
    have p0 : w7.cell? ⟨(w.heap.size + 1), 0, none⟩ = some (.bool true) := (hbp.cell _).trans rfl
    have p1 : w7.cell? ⟨(w.heap.size + 1), 1, none⟩ = some (.int .i64 fi) := (hbp.cell _).trans rfl
    have p2 : w7.cell? ⟨(w.heap.size + 1), 2, none⟩ = some (.int .i64 pl) := (hbp.cell _).trans rfl
    have p3 : w7.cell? ⟨(w.heap.size + 1), 3, none⟩ = some (.int .i64 va) := (hbp.cell _).trans rfl
    have p4 : w7.cell? ⟨(w.heap.size + 1), 4, none⟩ = some (.int .i64 st) := (hbp.cell _).trans rfl
    clear hbp
    have HWR := Lib.hid HBR.out.lt
    have hyr := HYR.out
    obtain ⟨hy0, hy1⟩ := hyr
    have HWHY := Lib.hid (show ¬ (0 ≤ Hd.get ⟨a1, a2, a3⟩ n ∧ lead (D.getD (Hd.get ⟨a1, a2, a3⟩ n).toNat zBk).pages < 4) from fun hh => by have := HZ.out; have := hh.1; omega)
    by_cases hy : y < 0
    · have HYN := Lib.hid (show fresh D ⟨a1, a2, a3⟩ < 0 by rw [HY.out]; exact hy)
      have hbr := HBR.out
      have hne1 : w.heap.size ≠ w.heap.size + 1 + 1 := by omega
      have hne2 : w.heap.size + 1 + 1 ≠ w.heap.size := by omega
      clear hbr
      go_wp2_with fail
      go_region_held3 (fun w' => w'.cell? ⟨w.heap.size, 0, none⟩ = some (.int .i64 a1) ∧ w'.cell? ⟨w.heap.size, 1, none⟩ = some (.int .i64 a2) ∧ w'.cell? ⟨w.heap.size, 2, none⟩ = some (.int .i64 a3))
        (first | go_keep | (refine ⟨?_, ?_, ?_⟩ <;> exact ((HBH.out.chg (F := NoB) ((Chg.refl _ w7).drew.trans hcc) (fun x => x)).cell _).trans rfl))
        (first | (go_at_call 87; refine (cloneDevice_any _ A c D _ (HR.out.new (Chg.refl NoB w7).drew) HD.out).mono ?_; rintro e' w8 ⟨A8, c8, T8, rfl, hT8, hO8, hcc⟩; have hk := (Chg.refl NoB w7).drew.trans hcc; have hb8 := HBR.out.chg hk (fun x => x); have HK := Lib.hid hk; have HT8 := Lib.hid hT8; have HO8 := Lib.hid hO8; have HB8 := Lib.hid hb8; have r0 : w8.cell? ⟨w.heap.size + 1 + 1, 0, none⟩ = some (.int .i64 0) := (hb8.cell _).trans rfl; have r1 : w8.cell? ⟨w.heap.size + 1 + 1, 1, none⟩ = some (.int .i64 0) := (hb8.cell _).trans rfl; have r2 : w8.cell? ⟨w.heap.size + 1 + 1, 2, none⟩ = some (.int .i64 0) := (hb8.cell _).trans rfl; have rf0 := hb8.frozen 0; have rf1 := hb8.frozen 1; have rf2 := hb8.frozen 2; clear hk hT8 hO8 hb8))
      rename_i hhh
      clear hhh hcc
      go_wp2_with fail
      (try simp only [Exit.inBlock, Exit.then])
      refine bodyPost_ret (v := .tuple #[.slice A8 D.length c8, .agg #[.int .i64 a1, .int .i64 a2, .int .i64 a3], .int .i64 (-1)]) (by simp [results, Try.results89, go_sem, *]) rfl ?_
      rw [HPR.out]
      have hcs := chg3h (F := (· = w.heap.size + 1 + 1)) (g := w.heap.size + 1 + 1) (a := .int .i64 a1) (b := .int .i64 a2) (c := .int .i64 a3) (Chg.refl (· = w.heap.size + 1 + 1) w8) (.inl rfl)
      have hs7 := HC.out.size
      have hlt := HBR.out.lt
      unfold AppP
      rw [HNN.out HWHY.out HYN.out]
      exact ⟨A8, c8, T8, rfl, HT8.out, (HO8.out.chg hcs (fun i h1 h2 => by have h3 : w7.heap.size ≤ i := h1; show ¬ (i = w.heap.size + 1 + 1); omega)).more hs7 (by simp [World.setCell]), (HC.out.trans HK.out).own hcs (by omega)⟩
    obtain ⟨v, rfl⟩ := Int.eq_ofNat_of_zero_le (show 0 ≤ y by omega)
    have hk : v < D.length := by omega
    obtain ⟨⟨b1, b2, b3⟩, hbb⟩ : ∃ hb : Hd, Hd.put ⟨a1, a2, a3⟩ n (v : Int) = hb := ⟨_, rfl⟩
    have HBB := Lib.hid hbb
    obtain ⟨wc, hwc⟩ : ∃ wc, w7.setCell ⟨w.heap.size, n, none⟩ (.int .i64 (v : Int)) = wc := ⟨_, rfl⟩
    have hcs : Chg (· = w.heap.size) w7 wc := by rw [← hwc]; exact (Chg.refl (· = w.heap.size) w7).setCell (p := ⟨w.heap.size, n, none⟩) (.inl rfl) _
    have hb8 : Blk wc w.heap.size 46 #[.int .i64 b1, .int .i64 b2, .int .i64 b3] := by
      rw [← hwc]
      rcases (show n = 0 ∨ n = 1 ∨ n = 2 by have := HNL.out; omega) with rfl | rfl | rfl
      · obtain ⟨rfl, rfl, rfl⟩ : (v : Int) = b1 ∧ a2 = b2 ∧ a3 = b3 := by have := hbb; unfold Hd.put at this; simpa using this
        exact HBH.out.set_ 0 _
      · obtain ⟨rfl, rfl, rfl⟩ : a1 = b1 ∧ (v : Int) = b2 ∧ a3 = b3 := by have := hbb; unfold Hd.put at this; simpa using this
        exact HBH.out.set_ 1 _
      · obtain ⟨rfl, rfl, rfl⟩ : a1 = b1 ∧ a2 = b2 ∧ (v : Int) = b3 := by have := hbb; unfold Hd.put at this; simpa using this
        exact HBH.out.set_ 2 _
    have HWC := Lib.hid hwc
    have HB8 := Lib.hid hb8
    have HCS := Lib.hid hcs
    clear hbb hwc hcs hb8
    rcases (show n = 0 ∨ n = 1 ∨ n = 2 by have := HNL.out; omega) with rfl | rfl | rfl
    all_goals
      go_wp2_with fail
      try rw [HWC.out]
      have hcs := HCS.out
      have hb8 := HB8.out
      clear HCS HB8
      clear x0 x1 x2 xf0 xf1 xf2 p0 p1 p2 p3 p4
      replace HBH := Lib.hid hb8
      replace HBP := Lib.hid (HBP.out.chg hcs (by omega))
      replace HBR := Lib.hid (HBR.out.chg hcs (by omega))
      replace HC := Lib.hid (HC.out.own hcs (Nat.le_refl _))
      replace HR := Lib.hid (HR.out.chg hcs (fun i hi he => by have h2 := hi.2; have he' : i = w.heap.size := he; omega))
      have HWR := Lib.hid HBR.out.lt
      clear hb8 hcs
      have hbh := HBH.out
      have x0 : wc.cell? ⟨w.heap.size, 0, none⟩ = some (.int .i64 b1) := (hbh.cell _).trans rfl
      have xf0 := hbh.frozen 0
      have x1 : wc.cell? ⟨w.heap.size, 1, none⟩ = some (.int .i64 b2) := (hbh.cell _).trans rfl
      have xf1 := hbh.frozen 1
      have x2 : wc.cell? ⟨w.heap.size, 2, none⟩ = some (.int .i64 b3) := (hbh.cell _).trans rfl
      have xf2 := hbh.frozen 2
      clear hbh
      have hbp := HBP.out
      have p0 : wc.cell? ⟨(w.heap.size + 1), 0, none⟩ = some (.bool true) := (hbp.cell _).trans rfl
      have p1 : wc.cell? ⟨(w.heap.size + 1), 1, none⟩ = some (.int .i64 fi) := (hbp.cell _).trans rfl
      have p2 : wc.cell? ⟨(w.heap.size + 1), 2, none⟩ = some (.int .i64 pl) := (hbp.cell _).trans rfl
      have p3 : wc.cell? ⟨(w.heap.size + 1), 3, none⟩ = some (.int .i64 va) := (hbp.cell _).trans rfl
      have p4 : wc.cell? ⟨(w.heap.size + 1), 4, none⟩ = some (.int .i64 st) := (hbp.cell _).trans rfl
      clear hbp
      try go_wp2_with fail
      refine (iProgram_any _ A c D v ⟨true, fi, pl, va, st⟩ _ HR.out HD.out hk HP.out rfl).mono ?_
      rintro e w9 ⟨A9, c9, T9, rfl, hT9, hO9, hc9⟩
      have HS9 := Lib.hid HC.out.size
      clear x0 x1 x2 xf0 xf1 xf2 p0 p1 p2 p3 p4
      replace HBH := Lib.hid (HBH.out.chg hc9 (fun x => x))
      replace HBP := Lib.hid (HBP.out.chg hc9 (fun x => x))
      replace HBR := Lib.hid (HBR.out.chg hc9 (fun x => x))
      replace HC := Lib.hid (HC.out.trans hc9)
      replace HR := Lib.hid (HR.out.new hc9)
      clear hc9
      have hbh := HBH.out
      have hbr := HBR.out
      have x0 : w9.cell? ⟨w.heap.size, 0, none⟩ = some (.int .i64 b1) := (hbh.cell _).trans rfl
      have x1 : w9.cell? ⟨w.heap.size, 1, none⟩ = some (.int .i64 b2) := (hbh.cell _).trans rfl
      have x2 : w9.cell? ⟨w.heap.size, 2, none⟩ = some (.int .i64 b3) := (hbh.cell _).trans rfl
      have r0 : w9.cell? ⟨(w.heap.size + 1 + 1), 0, none⟩ = some (.int .i64 0) := (hbr.cell _).trans rfl
      have rf0 := hbr.frozen 0
      have r1 : w9.cell? ⟨(w.heap.size + 1 + 1), 1, none⟩ = some (.int .i64 0) := (hbr.cell _).trans rfl
      have rf1 := hbr.frozen 1
      have r2 : w9.cell? ⟨(w.heap.size + 1 + 1), 2, none⟩ = some (.int .i64 0) := (hbr.cell _).trans rfl
      have rf2 := hbr.frozen 2
      have hne1 : w.heap.size ≠ w.heap.size + 1 + 1 := by omega
      have hne2 : w.heap.size + 1 + 1 ≠ w.heap.size := by omega
      have HT9 := Lib.hid hT9
      have HO9 := Lib.hid hO9
      obtain ⟨zz, hzz⟩ : ∃ zz, (program D (v : Int) ⟨true, fi, pl, va, st⟩).2 = zz := ⟨_, rfl⟩
      have HZZ := Lib.hid hzz
      rw [hzz]
      clear hbh hbr hT9 hO9 hzz
      go_wp2_with fail
      go_region
      go_wp2_with fail
      (try simp only [Exit.inBlock, Exit.then])
      refine bodyPost_ret (v := .tuple #[.slice A9 D.length c9, .agg #[.int .i64 b1, .int .i64 b2, .int .i64 b3], .int .i64 zz]) (by simp [results, Try.results89, go_sem, *]) rfl ?_
      rw [HPR.out]
      have hcs := chg3h (F := (· = w.heap.size + 1 + 1)) (g := w.heap.size + 1 + 1) (a := .int .i64 b1) (b := .int .i64 b2) (c := .int .i64 b3) (Chg.refl (· = w.heap.size + 1 + 1) w9) (.inl rfl)
      have hs9 := HS9.out
      have hlt := HBR.out.lt
      unfold AppP
      rw [HNF.out v HWHY.out HY.out, HBB.out]
      exact ⟨A9, c9, T9, by rw [HZZ.out], HT9.out, ((HO9.out.chg hcs (fun i h1 h2 => by have := HWR.out; omega)).more hs9 (by simp [World.setCell])).new (Chg.refl NoB _).drew, (HC.out.own hcs (by omega)).drew⟩
  obtain ⟨u, rfl⟩ := Int.eq_ofNat_of_zero_le (show 0 ≤ z by omega)
  have hk : u < D.length := by have := hgr.2; omega
  have hu0 : (0 : Int) ≤ (u : Int) := Int.natCast_nonneg _
  have hu1 : (u : Int) < (D.length : Int) := by omega
  have HBK := Lib.hid (HD.out.2 u hk)
  obtain ⟨bb, oo, A', c', rfl, hfb, c0, c1, hrb, -⟩ := HR.out u hk
  rw [HBK.out.2.1] at c1
  have HBN := Lib.hid (show Calls Try.prog 39 #[.agg #[.int .i64 D[u].wear, .slice A' 4 c']] w6 fun e w' => e = .returned (.int .i64 (next D[u])) ∧ Chg NoB w6 w' by
    have := iBlockNext_any _ A' c' D[u] w6 hrb
    rwa [HBK.out.2.1] at this)
  clear hrb hgr
  go_wp2_with fail
  refine HBN.out.mono ?_
  rintro e wn ⟨rfl, hcn⟩
  clear c0 c1
  clear x0 x1 x2 xf0 xf1 xf2 p0 p1 p2 p3 p4
  replace HBH := Lib.hid (HBH.out.chg hcn (fun x => x))
  replace HBP := Lib.hid (HBP.out.chg hcn (fun x => x))
  replace HBR := Lib.hid (HBR.out.chg hcn (fun x => x))
  replace HC := Lib.hid (HC.out.trans hcn)
  replace HR := Lib.hid (HR.out.new hcn)
  clear hcn
  have hbh := HBH.out
  have x0 : wn.cell? ⟨w.heap.size, 0, none⟩ = some (.int .i64 a1) := (hbh.cell _).trans rfl
  have xf0 := hbh.frozen 0
  have x1 : wn.cell? ⟨w.heap.size, 1, none⟩ = some (.int .i64 a2) := (hbh.cell _).trans rfl
  have xf1 := hbh.frozen 1
  have x2 : wn.cell? ⟨w.heap.size, 2, none⟩ = some (.int .i64 a3) := (hbh.cell _).trans rfl
  have xf2 := hbh.frozen 2
  clear hbh
  have hbp := HBP.out
  have p0 : wn.cell? ⟨(w.heap.size + 1), 0, none⟩ = some (.bool true) := (hbp.cell _).trans rfl
  have p1 : wn.cell? ⟨(w.heap.size + 1), 1, none⟩ = some (.int .i64 fi) := (hbp.cell _).trans rfl
  have p2 : wn.cell? ⟨(w.heap.size + 1), 2, none⟩ = some (.int .i64 pl) := (hbp.cell _).trans rfl
  have p3 : wn.cell? ⟨(w.heap.size + 1), 3, none⟩ = some (.int .i64 va) := (hbp.cell _).trans rfl
  have p4 : wn.cell? ⟨(w.heap.size + 1), 4, none⟩ = some (.int .i64 st) := (hbp.cell _).trans rfl
  clear hbp
  by_cases hl4 : lead D[u].pages < 4
  case neg =>
    have HL4 := Lib.hid hl4
    rw [next_full HBK.out hl4]
    clear hl4
    go_wp2_with fail
    refine (HFR.out _ (some ⟨bb, oo, none⟩) c _ HR.out).mono ?_
    rintro e w7 ⟨rfl, hc7⟩
    clear x0 x1 x2 xf0 xf1 xf2 p0 p1 p2 p3 p4
    replace HBH := Lib.hid (HBH.out.chg hc7 (fun x => x))
    replace HBP := Lib.hid (HBP.out.chg hc7 (fun x => x))
    replace HBR := Lib.hid (HBR.out.chg hc7 (fun x => x))
    replace HC := Lib.hid (HC.out.trans hc7)
    replace HR := Lib.hid (HR.out.new hc7)
    clear hc7
    have hbh := HBH.out
    have x0 : w7.cell? ⟨w.heap.size, 0, none⟩ = some (.int .i64 a1) := (hbh.cell _).trans rfl
    have xf0 := hbh.frozen 0
    have x1 : w7.cell? ⟨w.heap.size, 1, none⟩ = some (.int .i64 a2) := (hbh.cell _).trans rfl
    have xf1 := hbh.frozen 1
    have x2 : w7.cell? ⟨w.heap.size, 2, none⟩ = some (.int .i64 a3) := (hbh.cell _).trans rfl
    have xf2 := hbh.frozen 2
    clear hbh
    have hbp := HBP.out
    have p0 : w7.cell? ⟨(w.heap.size + 1), 0, none⟩ = some (.bool true) := (hbp.cell _).trans rfl
    have p1 : w7.cell? ⟨(w.heap.size + 1), 1, none⟩ = some (.int .i64 fi) := (hbp.cell _).trans rfl
    have p2 : w7.cell? ⟨(w.heap.size + 1), 2, none⟩ = some (.int .i64 pl) := (hbp.cell _).trans rfl
    have p3 : w7.cell? ⟨(w.heap.size + 1), 3, none⟩ = some (.int .i64 va) := (hbp.cell _).trans rfl
    have p4 : w7.cell? ⟨(w.heap.size + 1), 4, none⟩ = some (.int .i64 st) := (hbp.cell _).trans rfl
    clear hbp
    have HWR := Lib.hid HBR.out.lt
    have hyr := HYR.out
    obtain ⟨hy0, hy1⟩ := hyr
    have HWHY := Lib.hid (show ¬ (0 ≤ Hd.get ⟨a1, a2, a3⟩ n ∧ lead (D.getD (Hd.get ⟨a1, a2, a3⟩ n).toNat zBk).pages < 4) from fun hh => by have h2 := hh.2; rw [HZ.out, Int.toNat_natCast, getD_get _ _ hk] at h2; exact HL4.out h2)
    by_cases hy : y < 0
    · have HYN := Lib.hid (show fresh D ⟨a1, a2, a3⟩ < 0 by rw [HY.out]; exact hy)
      have hbr := HBR.out
      have hne1 : w.heap.size ≠ w.heap.size + 1 + 1 := by omega
      have hne2 : w.heap.size + 1 + 1 ≠ w.heap.size := by omega
      clear hbr
      go_wp2_with fail
      go_region_held3 (fun w' => w'.cell? ⟨w.heap.size, 0, none⟩ = some (.int .i64 a1) ∧ w'.cell? ⟨w.heap.size, 1, none⟩ = some (.int .i64 a2) ∧ w'.cell? ⟨w.heap.size, 2, none⟩ = some (.int .i64 a3))
        (first | go_keep | (refine ⟨?_, ?_, ?_⟩ <;> exact ((HBH.out.chg (F := NoB) ((Chg.refl _ w7).drew.trans hcc) (fun x => x)).cell _).trans rfl))
        (first | (go_at_call 87; refine (cloneDevice_any _ (some ⟨bb, oo, none⟩) c D _ (HR.out.new (Chg.refl NoB w7).drew) HD.out).mono ?_; rintro e' w8 ⟨A8, c8, T8, rfl, hT8, hO8, hcc⟩; have hk := (Chg.refl NoB w7).drew.trans hcc; have hb8 := HBR.out.chg hk (fun x => x); have HK := Lib.hid hk; have HT8 := Lib.hid hT8; have HO8 := Lib.hid hO8; have HB8 := Lib.hid hb8; have r0 : w8.cell? ⟨w.heap.size + 1 + 1, 0, none⟩ = some (.int .i64 0) := (hb8.cell _).trans rfl; have r1 : w8.cell? ⟨w.heap.size + 1 + 1, 1, none⟩ = some (.int .i64 0) := (hb8.cell _).trans rfl; have r2 : w8.cell? ⟨w.heap.size + 1 + 1, 2, none⟩ = some (.int .i64 0) := (hb8.cell _).trans rfl; have rf0 := hb8.frozen 0; have rf1 := hb8.frozen 1; have rf2 := hb8.frozen 2; clear hk hT8 hO8 hb8))
      rename_i hhh
      clear hhh hcc
      go_wp2_with fail
      (try simp only [Exit.inBlock, Exit.then])
      refine bodyPost_ret (v := .tuple #[.slice A8 D.length c8, .agg #[.int .i64 a1, .int .i64 a2, .int .i64 a3], .int .i64 (-1)]) (by simp [results, Try.results89, go_sem, *]) rfl ?_
      rw [HPR.out]
      have hcs := chg3h (F := (· = w.heap.size + 1 + 1)) (g := w.heap.size + 1 + 1) (a := .int .i64 a1) (b := .int .i64 a2) (c := .int .i64 a3) (Chg.refl (· = w.heap.size + 1 + 1) w8) (.inl rfl)
      have hs7 := HC.out.size
      have hlt := HBR.out.lt
      unfold AppP
      rw [HNN.out HWHY.out HYN.out]
      exact ⟨A8, c8, T8, rfl, HT8.out, (HO8.out.chg hcs (fun i h1 h2 => by have h3 : w7.heap.size ≤ i := h1; show ¬ (i = w.heap.size + 1 + 1); omega)).more hs7 (by simp [World.setCell]), (HC.out.trans HK.out).own hcs (by omega)⟩
    obtain ⟨v, rfl⟩ := Int.eq_ofNat_of_zero_le (show 0 ≤ y by omega)
    have hk : v < D.length := by omega
    obtain ⟨⟨b1, b2, b3⟩, hbb⟩ : ∃ hb : Hd, Hd.put ⟨a1, a2, a3⟩ n (v : Int) = hb := ⟨_, rfl⟩
    have HBB := Lib.hid hbb
    obtain ⟨wc, hwc⟩ : ∃ wc, w7.setCell ⟨w.heap.size, n, none⟩ (.int .i64 (v : Int)) = wc := ⟨_, rfl⟩
    have hcs : Chg (· = w.heap.size) w7 wc := by rw [← hwc]; exact (Chg.refl (· = w.heap.size) w7).setCell (p := ⟨w.heap.size, n, none⟩) (.inl rfl) _
    have hb8 : Blk wc w.heap.size 46 #[.int .i64 b1, .int .i64 b2, .int .i64 b3] := by
      rw [← hwc]
      rcases (show n = 0 ∨ n = 1 ∨ n = 2 by have := HNL.out; omega) with rfl | rfl | rfl
      · obtain ⟨rfl, rfl, rfl⟩ : (v : Int) = b1 ∧ a2 = b2 ∧ a3 = b3 := by have := hbb; unfold Hd.put at this; simpa using this
        exact HBH.out.set_ 0 _
      · obtain ⟨rfl, rfl, rfl⟩ : a1 = b1 ∧ (v : Int) = b2 ∧ a3 = b3 := by have := hbb; unfold Hd.put at this; simpa using this
        exact HBH.out.set_ 1 _
      · obtain ⟨rfl, rfl, rfl⟩ : a1 = b1 ∧ a2 = b2 ∧ (v : Int) = b3 := by have := hbb; unfold Hd.put at this; simpa using this
        exact HBH.out.set_ 2 _
    have HWC := Lib.hid hwc
    have HB8 := Lib.hid hb8
    have HCS := Lib.hid hcs
    clear hbb hwc hcs hb8
    rcases (show n = 0 ∨ n = 1 ∨ n = 2 by have := HNL.out; omega) with rfl | rfl | rfl
    all_goals
      go_wp2_with fail
      try rw [HWC.out]
      have hcs := HCS.out
      have hb8 := HB8.out
      clear HCS HB8
      clear x0 x1 x2 xf0 xf1 xf2 p0 p1 p2 p3 p4
      replace HBH := Lib.hid hb8
      replace HBP := Lib.hid (HBP.out.chg hcs (by omega))
      replace HBR := Lib.hid (HBR.out.chg hcs (by omega))
      replace HC := Lib.hid (HC.out.own hcs (Nat.le_refl _))
      replace HR := Lib.hid (HR.out.chg hcs (fun i hi he => by have h2 := hi.2; have he' : i = w.heap.size := he; omega))
      have HWR := Lib.hid HBR.out.lt
      clear hb8 hcs
      have hbh := HBH.out
      have x0 : wc.cell? ⟨w.heap.size, 0, none⟩ = some (.int .i64 b1) := (hbh.cell _).trans rfl
      have xf0 := hbh.frozen 0
      have x1 : wc.cell? ⟨w.heap.size, 1, none⟩ = some (.int .i64 b2) := (hbh.cell _).trans rfl
      have xf1 := hbh.frozen 1
      have x2 : wc.cell? ⟨w.heap.size, 2, none⟩ = some (.int .i64 b3) := (hbh.cell _).trans rfl
      have xf2 := hbh.frozen 2
      clear hbh
      have hbp := HBP.out
      have p0 : wc.cell? ⟨(w.heap.size + 1), 0, none⟩ = some (.bool true) := (hbp.cell _).trans rfl
      have p1 : wc.cell? ⟨(w.heap.size + 1), 1, none⟩ = some (.int .i64 fi) := (hbp.cell _).trans rfl
      have p2 : wc.cell? ⟨(w.heap.size + 1), 2, none⟩ = some (.int .i64 pl) := (hbp.cell _).trans rfl
      have p3 : wc.cell? ⟨(w.heap.size + 1), 3, none⟩ = some (.int .i64 va) := (hbp.cell _).trans rfl
      have p4 : wc.cell? ⟨(w.heap.size + 1), 4, none⟩ = some (.int .i64 st) := (hbp.cell _).trans rfl
      clear hbp
      try go_wp2_with fail
      refine (iProgram_any _ (some ⟨bb, oo, none⟩) c D v ⟨true, fi, pl, va, st⟩ _ HR.out HD.out hk HP.out rfl).mono ?_
      rintro e w9 ⟨A9, c9, T9, rfl, hT9, hO9, hc9⟩
      have HS9 := Lib.hid HC.out.size
      clear x0 x1 x2 xf0 xf1 xf2 p0 p1 p2 p3 p4
      replace HBH := Lib.hid (HBH.out.chg hc9 (fun x => x))
      replace HBP := Lib.hid (HBP.out.chg hc9 (fun x => x))
      replace HBR := Lib.hid (HBR.out.chg hc9 (fun x => x))
      replace HC := Lib.hid (HC.out.trans hc9)
      replace HR := Lib.hid (HR.out.new hc9)
      clear hc9
      have hbh := HBH.out
      have hbr := HBR.out
      have x0 : w9.cell? ⟨w.heap.size, 0, none⟩ = some (.int .i64 b1) := (hbh.cell _).trans rfl
      have x1 : w9.cell? ⟨w.heap.size, 1, none⟩ = some (.int .i64 b2) := (hbh.cell _).trans rfl
      have x2 : w9.cell? ⟨w.heap.size, 2, none⟩ = some (.int .i64 b3) := (hbh.cell _).trans rfl
      have r0 : w9.cell? ⟨(w.heap.size + 1 + 1), 0, none⟩ = some (.int .i64 0) := (hbr.cell _).trans rfl
      have rf0 := hbr.frozen 0
      have r1 : w9.cell? ⟨(w.heap.size + 1 + 1), 1, none⟩ = some (.int .i64 0) := (hbr.cell _).trans rfl
      have rf1 := hbr.frozen 1
      have r2 : w9.cell? ⟨(w.heap.size + 1 + 1), 2, none⟩ = some (.int .i64 0) := (hbr.cell _).trans rfl
      have rf2 := hbr.frozen 2
      have hne1 : w.heap.size ≠ w.heap.size + 1 + 1 := by omega
      have hne2 : w.heap.size + 1 + 1 ≠ w.heap.size := by omega
      have HT9 := Lib.hid hT9
      have HO9 := Lib.hid hO9
      obtain ⟨zz, hzz⟩ : ∃ zz, (program D (v : Int) ⟨true, fi, pl, va, st⟩).2 = zz := ⟨_, rfl⟩
      have HZZ := Lib.hid hzz
      rw [hzz]
      clear hbh hbr hT9 hO9 hzz
      go_wp2_with fail
      go_region
      go_wp2_with fail
      (try simp only [Exit.inBlock, Exit.then])
      refine bodyPost_ret (v := .tuple #[.slice A9 D.length c9, .agg #[.int .i64 b1, .int .i64 b2, .int .i64 b3], .int .i64 zz]) (by simp [results, Try.results89, go_sem, *]) rfl ?_
      rw [HPR.out]
      have hcs := chg3h (F := (· = w.heap.size + 1 + 1)) (g := w.heap.size + 1 + 1) (a := .int .i64 b1) (b := .int .i64 b2) (c := .int .i64 b3) (Chg.refl (· = w.heap.size + 1 + 1) w9) (.inl rfl)
      have hs9 := HS9.out
      have hlt := HBR.out.lt
      unfold AppP
      rw [HNF.out v HWHY.out HY.out, HBB.out]
      exact ⟨A9, c9, T9, by rw [HZZ.out], HT9.out, ((HO9.out.chg hcs (fun i h1 h2 => by have := HWR.out; omega)).more hs9 (by simp [World.setCell])).new (Chg.refl NoB _).drew, (HC.out.own hcs (by omega)).drew⟩
  have HL4 := Lib.hid hl4
  rw [next_free HBK.out hl4]
  have hln : ¬ ((lead D[u].pages : Int) < 0) := by omega
  have hln0 : (0 : Int) ≤ (lead D[u].pages : Int) := Int.natCast_nonneg _
  have HWR := Lib.hid HBR.out.lt
  clear hl4
  go_wp2_with fail
  refine (iProgram_any _ (some ⟨bb, oo, none⟩) c D u ⟨true, fi, pl, va, st⟩ _ HR.out HD.out hk HP.out rfl).mono ?_
  rintro e w9 ⟨A9, c9, T9, rfl, hT9, hO9, hc9⟩
  have HS9 := Lib.hid HC.out.size
  clear x0 x1 x2 xf0 xf1 xf2 p0 p1 p2 p3 p4
  replace HBH := Lib.hid (HBH.out.chg hc9 (fun x => x))
  replace HBP := Lib.hid (HBP.out.chg hc9 (fun x => x))
  replace HBR := Lib.hid (HBR.out.chg hc9 (fun x => x))
  replace HC := Lib.hid (HC.out.trans hc9)
  replace HR := Lib.hid (HR.out.new hc9)
  clear hc9
  have hbh := HBH.out
  have hbr := HBR.out
  have x0 : w9.cell? ⟨w.heap.size, 0, none⟩ = some (.int .i64 a1) := (hbh.cell _).trans rfl
  have x1 : w9.cell? ⟨w.heap.size, 1, none⟩ = some (.int .i64 a2) := (hbh.cell _).trans rfl
  have x2 : w9.cell? ⟨w.heap.size, 2, none⟩ = some (.int .i64 a3) := (hbh.cell _).trans rfl
  have r0 : w9.cell? ⟨(w.heap.size + 1 + 1), 0, none⟩ = some (.int .i64 0) := (hbr.cell _).trans rfl
  have rf0 := hbr.frozen 0
  have r1 : w9.cell? ⟨(w.heap.size + 1 + 1), 1, none⟩ = some (.int .i64 0) := (hbr.cell _).trans rfl
  have rf1 := hbr.frozen 1
  have r2 : w9.cell? ⟨(w.heap.size + 1 + 1), 2, none⟩ = some (.int .i64 0) := (hbr.cell _).trans rfl
  have rf2 := hbr.frozen 2
  have hne1 : w.heap.size ≠ w.heap.size + 1 + 1 := by omega
  have hne2 : w.heap.size + 1 + 1 ≠ w.heap.size := by omega
  have HT9 := Lib.hid hT9
  have HO9 := Lib.hid hO9
  obtain ⟨zz, hzz⟩ : ∃ zz, (program D (u : Int) ⟨true, fi, pl, va, st⟩).2 = zz := ⟨_, rfl⟩
  have HZZ := Lib.hid hzz
  rw [hzz]
  clear hbh hbr hT9 hO9 hzz
  go_wp2_with fail
  go_region
  go_wp2_with fail
  (try simp only [Exit.inBlock, Exit.then])
  refine bodyPost_ret (v := .tuple #[.slice A9 D.length c9, .agg #[.int .i64 a1, .int .i64 a2, .int .i64 a3], .int .i64 zz]) (by simp [results, Try.results89, go_sem, *]) rfl ?_
  rw [HPR.out]
  have hcs := chg3h (F := (· = w.heap.size + 1 + 1)) (g := w.heap.size + 1 + 1) (a := .int .i64 a1) (b := .int .i64 a2) (c := .int .i64 a3) (Chg.refl (· = w.heap.size + 1 + 1) w9) (.inl rfl)
  have hs9 := HS9.out
  have hlt := HBR.out.lt
  unfold AppP
  rw [HNX.out u HZ.out hk HL4.out]
  exact ⟨A9, c9, T9, by rw [HZZ.out], HT9.out, ((HO9.out.chg hcs (fun i h1 h2 => by have := HWR.out; omega)).more hs9 (by simp [World.setCell])).new (Chg.refl NoB _).drew, (HC.out.own hcs (by omega)).drew⟩
end Go.Proofs.Ytpiojofmflfkkaa
