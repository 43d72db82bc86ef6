/- Parts of the proof, merged: Uj, Uk, Ul. -/
import Derived.Test.YtpiojofmflfkkaaMq
import Derived.Test.YtpiojofmflfkkaaMp
/- RunPuts by steps; RunPuts of the program. -/
namespace Go.Proofs.Ytpiojofmflfkkaa
open Go.RowKit
def pgOf (x : Pt) (i : Nat) : Pg := ⟨true, x.file, x.place, x.value, (i : Int) + 1⟩
def runAt (D : List Bk) (h : Hd) (i : Nat) : List Pt → List Bk × Int
  | [] => (D, (i : Int))
  | x :: xs => if (appendPage D h ((1 : Nat) : Int) (pgOf x i)).2.2 < 0 then (D, (i : Int)) else runAt (appendPage D h ((1 : Nat) : Int) (pgOf x i)).1 (appendPage D h ((1 : Nat) : Int) (pgOf x i)).2.1 (i + 1) xs
instance (l : Pt) : Decidable l.ok := by unfold Pt.ok; infer_instance
instance (xs : List Pt) : Decidable (putsOk xs) := by unfold putsOk; infer_instance
def runPuts (n : Int) (xs : List Pt) : List Bk × Int := if (1 ≤ n ∧ n ≤ 12) ∧ putsOk xs then runAt (newDevice n) ⟨-1, -1, -1⟩ 0 xs else ([], -1)
theorem pgOf_ok {xs : List Pt} (h : putsOk xs) {k : Nat} (hk : k < xs.length) : PgOk (pgOf xs[k] k) ∧ (pgOf xs[k] k).full = true := by
  obtain ⟨h1, h2, h3, h4, h5, h6⟩ := h.2 _ (List.getElem_mem hk)
  have := h.1
  refine ⟨?_, rfl⟩
  have hyes := pgOk_yes (p := pgOf xs[k] k) rfl
  refine hyes.2 ?_
  unfold pgOf
  simp only
  omega
theorem runAt_len (xs : List Pt) : ∀ (D : List Bk) (h : Hd) (i : Nat) (L : Nat), D.length = L → HeadsOk D h → (∀ k (hk : k < xs.length), PgOk (pgOf xs[k] (i + k))) → DvOk (runAt D h i xs).1 ∧ (runAt D h i xs).1.length = L ∧ (i : Int) ≤ (runAt D h i xs).2 ∧ (runAt D h i xs).2 ≤ (i : Int) + xs.length := by
  induction xs with
  | nil => intro D h i L hL hh _; unfold runAt; exact ⟨hh.1, hL, by simp, by simp⟩
  | cons x xs ih =>
    intro D h i L hL hh hp
    have h0 : PgOk (pgOf x i) := by have := hp 0 (by simp); simpa using this
    unfold runAt
    split
    · exact ⟨hh.1, hL, by simp, by simp only [List.length_cons]; omega⟩
    · obtain ⟨ha, hb⟩ := HeadsOk.append (n := 1) hh (by omega) h0 rfl
      obtain ⟨r1, r2, r3, r4⟩ := ih _ _ (i + 1) L (by rw [hb, hL]) ha (fun k hk => by
        have := hp (k + 1) (by simp; omega)
        rw [show i + 1 + k = i + (k + 1) by omega]
        simpa using this)
      refine ⟨r1, r2, by omega, by simp only [List.length_cons]; omega⟩
def RunP (w : World) (n : Int) (xs : List Pt) (e : Ending) (w' : World) : Prop :=
  ∃ A c T, e = .returned (.tuple #[.slice A (runPuts n xs).1.length c, .int .i64 (runPuts n xs).2]) ∧ bksOf T = (runPuts n xs).1 ∧ DevQ w.heap.size w'.heap.size w' A c T ∧ Chg NoB w w'
theorem heads_none {n : Nat} (hn : 1 ≤ n ∧ n ≤ 12) : HeadsOk (newDevice n) ⟨-1, -1, -1⟩ := by
  refine ⟨newDv_ok hn, ?_⟩
  unfold HdOk
  simp only
  omega
end Go.Proofs.Ytpiojofmflfkkaa
/- RunPuts of the program. -/
namespace Go.Proofs.Ytpiojofmflfkkaa
open Go.RowKit
theorem program_neg {D : List Bk} {k : Nat} {p : Pg} (h : DvOk D) (hk : k < D.length) (hp : PgOk p) (hf : p.full = true) (hz : (program D (k : Int) p).2 < 0) : (program D (k : Int) p).1 = D := by
  rw [program_yes h hk hp hf] at hz ⊢
  split at hz
  · simp only at hz; omega
  · rename_i h1; rw [if_neg h1]
theorem appendPage_neg {D : List Bk} {h : Hd} {n : Nat} {p : Pg} (hh : HeadsOk D h) (hn : n < 3) (hp : PgOk p) (hf : p.full = true) (hz : (appendPage D h n p).2.2 < 0) : (appendPage D h n p).1 = D := by
  by_cases hx : 0 ≤ h.get n ∧ lead (D.getD (h.get n).toNat zBk).pages < 4
  · obtain ⟨x, e⟩ := Int.eq_ofNat_of_zero_le hx.1
    have hk : x < D.length := by have := (hh.get n).2; omega
    have hl := hx.2
    rw [e, Int.toNat_natCast, getD_get _ _ hk] at hl
    rw [appendPage_head hh hn hp hf e hk hl] at hz ⊢
    exact program_neg hh.1 hk hp hf hz
  · by_cases hl : fresh D h < 0
    · rw [appendPage_none hh hn hp hf hx hl]
    · obtain ⟨x, e⟩ := Int.eq_ofNat_of_zero_le (show 0 ≤ fresh D h by omega)
      have hk : x < D.length := by have := (fresh_range (D := D) (h := h)).2; omega
      rw [appendPage_fresh hh hn hp hf hx e] at hz ⊢
      exact program_neg hh.1 hk hp hf hz
theorem runAt_stop {D : List Bk} {h : Hd} {k : Nat} {xs : List Pt} (hk : k < xs.length) (hz : (appendPage D h ((1 : Nat) : Int) (pgOf xs[k] k)).2.2 < 0) : runAt D h k (xs.drop k) = (D, (k : Int)) := by
  rw [List.drop_eq_getElem_cons hk]; unfold runAt; rw [if_pos hz]
theorem runAt_step {D : List Bk} {h : Hd} {k : Nat} {xs : List Pt} (hk : k < xs.length) (hz : ¬ (appendPage D h ((1 : Nat) : Int) (pgOf xs[k] k)).2.2 < 0) : runAt D h k (xs.drop k) = runAt (appendPage D h ((1 : Nat) : Int) (pgOf xs[k] k)).1 (appendPage D h ((1 : Nat) : Int) (pgOf xs[k] k)).2.1 (k + 1) (xs.drop (k + 1)) := by
  rw [List.drop_eq_getElem_cons hk]; conv => lhs; unfold runAt
  rw [if_neg hz]
theorem runAt_end {D : List Bk} {h : Hd} {xs : List Pt} : runAt D h xs.length (xs.drop xs.length) = (D, (xs.length : Int)) := by
  rw [List.drop_length]; rfl
set_option maxRecDepth 100000 in
set_option maxHeartbeats 1000000 in
theorem iRunPuts_any (F : Nat → Prop) (A : Option Addr) (c : Nat) (n : Int) (xs : List Pt) (w : World) (h : Rd F w A (putcells xs)) :
    Calls Try.prog 43 #[.int .i64 n, .slice A xs.length c] w (RunP w n xs) := by
  by_cases hn : 1 ≤ n ∧ n ≤ 12
  case neg =>
    have HN := Lib.hid (show runPuts n xs = ([], -1) from if_neg (fun hh => hn hh.1))
    by_cases h1 : n < 1
    · clear hn h
      go_enter Try.func43, Try.ntmps43
      go_wp2
      (try simp only [Exit.inBlock, Exit.then])
      refine bodyPost_ret (v := .tuple #[.slice none 0 0, .int .i64 (-1)]) (by simp [results, Try.results43, go_sem, *]) rfl ?_
      unfold RunP
      rw [HN.out]
      exact ⟨none, 0, [], rfl, rfl, DevQ.nil _ _ _ _ _, Chg.refl _ _⟩
    · have h2 : 12 < n := by omega
      clear hn h
      go_enter Try.func43, Try.ntmps43
      go_wp2
      (try simp only [Exit.inBlock, Exit.then])
      refine bodyPost_ret (v := .tuple #[.slice none 0 0, .int .i64 (-1)]) (by simp [results, Try.results43, go_sem, *]) rfl ?_
      unfold RunP
      rw [HN.out]
      exact ⟨none, 0, [], rfl, rfl, DevQ.nil _ _ _ _ _, Chg.refl _ _⟩
  have hn1 : ¬ n < 1 := by omega
  have hn2 : ¬ 12 < n := by omega
  have HNN := Lib.hid hn
  have HX := Lib.hid h.lt
  clear hn h
  go_enter Try.func43, Try.ntmps43
  go_wp2_with fail
  refine (iPutsValid_any _ A c xs _ HX.out).mono ?_
  rintro e w1 ⟨b, rfl, hb, hc1⟩
  have HC1 := Lib.hid hc1
  cases b
  case false =>
    have HN := Lib.hid (show runPuts n xs = ([], -1) from if_neg (fun hh => by have := hb.2 hh.2; cases this))
    clear hb hc1
    go_wp2
    (try simp only [Exit.inBlock, Exit.then])
    refine bodyPost_ret (v := .tuple #[.slice none 0 0, .int .i64 (-1)]) (by simp [results, Try.results43, go_sem, *]) rfl ?_
    unfold RunP
    rw [HN.out]
    exact ⟨none, 0, [], rfl, rfl, DevQ.nil _ _ _ _ _, HC1.out⟩
  have HOK := Lib.hid (hb.1 rfl)
  have HRE := Lib.hid (show runPuts n xs = runAt (newDevice n) ⟨-1, -1, -1⟩ 0 xs from if_pos ⟨HNN.out, HOK.out⟩)
  clear hb hc1
  go_wp2_with fail
  refine (iNewDevice_any n _).mono ?_
  rintro e w2 ⟨A2, c2, T2, rfl, hT2, hO2, hc2⟩
  obtain ⟨N, rfl⟩ := Int.eq_ofNat_of_zero_le (show 0 ≤ n by omega)
  have hN : 1 ≤ N ∧ N ≤ 12 := by have := HNN.out; omega
  have HNL := Lib.hid (newDv_len hN)
  have HHN := Lib.hid (heads_none hN)
  have hca := (Chg.refl NoB w2).alloc (.cells #[.int .i64 (-1), .int .i64 (-1), .int .i64 (-1)] 46)
  have HV0 := Lib.hid (Blk.new w2 46 #[.int .i64 (-1), .int .i64 (-1), .int .i64 (-1)])
  have HC2 := Lib.hid ((HC1.out.trans hc2).trans hca)
  have HO2 := Lib.hid (hO2.new hca)
  have HT2 := Lib.hid hT2
  have HS1 := Lib.hid HC1.out.size
  have HS2 := Lib.hid hc2.size
  have hxs20 := HOK.out.1
  clear hca hc2 hT2 hO2 hN
  go_wp2
  obtain ⟨V, hV⟩ : ∃ V, w2.heap.size = V := ⟨_, rfl⟩
  obtain ⟨w3, hw3⟩ : ∃ w3, w2.alloc (.cells #[.int .i64 (-1), .int .i64 (-1), .int .i64 (-1)] 46) = w3 := ⟨_, rfl⟩
  have hs1 := HS1.out
  have hs2 := HS2.out
  try rw [hw3]
  rw [hw3] at HV0 HC2 HO2
  try rw [hV]
  rw [hV] at HV0 HO2 hs2
  obtain ⟨D0, hD0⟩ : ∃ D0, newDevice (N : Int) = D0 := ⟨_, rfl⟩
  rw [hD0] at HNL HHN HRE HT2 ⊢
  have HS12 := Lib.hid (And.intro hs1 hs2)
  clear hV hw3 hs1 hs2 hD0 HS1 HS2
  go_loopw [6, 28] (fun dv i wr => ∃ (k : Nat) (D : List Bk) (hh : Hd) (Aq : Option Addr) (cq : Nat) (T : List BkO) (B E : Nat), k ≤ xs.length ∧ i = .int .i64 k ∧ dv = .slice Aq D.length cq ∧ bksOf T = D ∧ DevQ B E wr Aq cq T ∧ w.heap.size ≤ B ∧ (E ≤ V ∨ V < B) ∧ E ≤ wr.heap.size ∧ Hid (HeadsOk D hh) ∧ D.length = N ∧ Chg NoB w wr ∧ Blk wr V 46 #[.int .i64 hh.hot, .int .i64 hh.warm, .int .i64 hh.cold] ∧ Hid (runPuts (N : Int) xs = runAt D hh k (xs.drop k))) (fun _ i _ => xs.length - (intOf i).toNat)
  case atStart => exact ⟨0, D0, ⟨-1, -1, -1⟩, A2, c2, T2, _, _, Nat.zero_le _, rfl, rfl, HT2.out, HO2.out, HS12.out.1, .inl (Nat.le_refl _), by have := HV0.out.lt; omega, HHN, HNL.out, HC2.out, HV0.out, HRE⟩
  case round =>
    obtain ⟨k, D, ⟨a1, a2, a3⟩, Aq, cq, T, B, E, hk, rfl, rfl, hT, hO, hB, hBE, hE, HHD, hDN, hch, hbV, HRA⟩ := hrel
    have HDN := Lib.hid hDN
    clear hDN
    have HT := Lib.hid hT
    have HO := Lib.hid hO
    have HC := Lib.hid hch
    have HV := Lib.hid hbV
    have HVL := Lib.hid hbV.lt
    have HBE := Lib.hid (And.intro hB (And.intro hBE hE))
    by_cases hlt : k < xs.length
    case neg =>
      obtain rfl : k = xs.length := by omega
      have HEQ := Lib.hid (HRA.out.trans runAt_end)
      clear hT hO hch hbV hB hBE hE
      go_wp2
      (try simp only [Exit.inBlock, Exit.then])
      refine bodyPost_ret (v := .tuple #[.slice Aq D.length cq, .int .i64 (xs.length : Int)]) (by simp [results, Try.results43, go_sem, *]) rfl ?_
      unfold RunP
      rw [HEQ.out]
      exact ⟨Aq, cq, T, rfl, HT.out, HO.out.more HBE.out.1 HBE.out.2.2, HC.out⟩
    have hi0 : (0 : Int) ≤ (k : Int) := Int.natCast_nonneg _
    have hi1 : (k : Int) < (xs.length : Int) := by omega
    have hw1 : IntKind.i64.wrap ((k : Int) + 1) = (k : Int) + 1 := IntWalk.i64_in _ ⟨by omega, by omega⟩
    obtain ⟨pb, po, rfl, hpF, hpb, p0, p1, p2⟩ := pt_at (HX.out.new hch) hlt
    obtain ⟨hpo, hpf⟩ := pgOf_ok HOK.out hlt
    have HPO := Lib.hid hpo
    have HSTOP := Lib.hid (fun hz => HRA.out.trans (runAt_stop (D := D) (h := ⟨a1, a2, a3⟩) hlt hz))
    have HSTEP := Lib.hid (fun hz => HRA.out.trans (runAt_step (D := D) (h := ⟨a1, a2, a3⟩) hlt hz))
    have HAPN := Lib.hid (fun hz => appendPage_neg (D := D) (h := ⟨a1, a2, a3⟩) (n := 1) HHD.out (by omega) hpo hpf hz)
    have HAPH := Lib.hid (HeadsOk.append (D := D) (h := ⟨a1, a2, a3⟩) (n := 1) HHD.out (by omega) hpo hpf)
    obtain ⟨PG, hPG⟩ : ∃ PG, pgOf xs[k] k = PG := ⟨_, rfl⟩
    rw [hPG] at HSTOP HSTEP HAPN HAPH HPO
    obtain ⟨x1, hx1⟩ : ∃ z, xs[k].file = z := ⟨_, rfl⟩
    obtain ⟨x2, hx2⟩ : ∃ z, xs[k].place = z := ⟨_, rfl⟩
    obtain ⟨x3, hx3⟩ : ∃ z, xs[k].value = z := ⟨_, rfl⟩
    rw [hx1] at p0
    rw [hx2] at p1
    rw [hx3] at p2
    have HPGE := Lib.hid (show PG = ⟨true, x1, x2, x3, (k : Int) + 1⟩ by rw [← hPG]; unfold pgOf; rw [hx1, hx2, hx3])
    obtain ⟨q1, q2, q3⟩ := lit2 wr 138 80 #[.int .i64 x1, .int .i64 x2, .int .i64 x3] #[.bool true, .int .i64 x1, .int .i64 x2, .int .i64 x3, .int .i64 ((k : Int) + 1)]
    have y0 := (Blk.new wr 138 #[.int .i64 x1, .int .i64 x2, .int .i64 x3]).cell 0
    have y1 := (Blk.new wr 138 #[.int .i64 x1, .int .i64 x2, .int .i64 x3]).cell 1
    have y2 := (Blk.new wr 138 #[.int .i64 x1, .int .i64 x2, .int .i64 x3]).cell 2
    replace y0 := y0.trans (show _ = some (Value.int .i64 x1) from rfl)
    replace y1 := y1.trans (show _ = some (Value.int .i64 x2) from rfl)
    replace y2 := y2.trans (show _ = some (Value.int .i64 x3) from rfl)
    have z0 := q2.cell 0
    have z1 := q2.cell 1
    have z2 := q2.cell 2
    have z3 := q2.cell 3
    have z4 := q2.cell 4
    replace z0 := z0.trans (show _ = some (Value.bool true) from rfl)
    replace z1 := z1.trans (show _ = some (Value.int .i64 x1) from rfl)
    replace z2 := z2.trans (show _ = some (Value.int .i64 x2) from rfl)
    replace z3 := z3.trans (show _ = some (Value.int .i64 x3) from rfl)
    replace z4 := z4.trans (show _ = some (Value.int .i64 ((k : Int) + 1)) from rfl)
    have hbV2 := hbV.chg q3 (fun x => x)
    have v0 := hbV2.cell 0
    have v1 := hbV2.cell 1
    have v2 := hbV2.cell 2
    replace v0 := v0.trans (show _ = some (Value.int .i64 a1) from rfl)
    replace v1 := v1.trans (show _ = some (Value.int .i64 a2) from rfl)
    replace v2 := v2.trans (show _ = some (Value.int .i64 a3) from rfl)
    have HQ := Lib.hid q3
    clear hx1 hx2 hx3 hPG q1 q2 q3 hbV2 hpo hpf hT hO hch hbV hB hBE hE hpF
    go_wp2_with fail
    obtain ⟨wx, hwx⟩ : ∃ wx, (wr.alloc (.cells #[.int .i64 x1, .int .i64 x2, .int .i64 x3] 138)).alloc (.cells #[.bool true, .int .i64 x1, .int .i64 x2, .int .i64 x3, .int .i64 ((k : Int) + 1)] 80) = wx := ⟨_, rfl⟩
    have hq := HQ.out
    rw [hwx] at hq ⊢
    have HAP := Lib.hid (show Calls Try.prog 89 #[.slice Aq D.length cq, .agg #[.int .i64 a1, .int .i64 a2, .int .i64 a3], .int .i64 1, .agg #[.bool true, .int .i64 x1, .int .i64 x2, .int .i64 x3, .int .i64 ((k : Int) + 1)]] wx (AppP wx D ⟨a1, a2, a3⟩ 1 PG) from by
      have := iAppendPage_any _ Aq cq D ⟨a1, a2, a3⟩ 1 PG wx (HT.out ▸ (HO.out.new hq).reads) HHD.out (by omega) HPO.out (by rw [HPGE.out])
      rw [HPGE.out] at this ⊢
      exact this)
    have HVX := Lib.hid (HV.out.chg hq (fun x => x))
    have HCX := Lib.hid (HC.out.trans hq)
    have HSX := Lib.hid hq.size
    clear HQ hwx hq v0 v1 v2 y0 y1 y2 z0 z1 z2 z3 z4 p0 p1 p2
    refine HAP.out.mono ?_
    rintro e wz ⟨A5, c5, T5, rfl, hT5, hO5, hcz⟩
    obtain ⟨⟨D5, ⟨b1, b2, b3⟩, z⟩, hap⟩ : ∃ r, appendPage D ⟨a1, a2, a3⟩ ((1 : Nat) : Int) PG = r := ⟨_, rfl⟩
    rw [hap] at hT5 HSTOP HSTEP HAPN HAPH ⊢
    have hl5 : D5.length = D.length := HAPH.out.2
    have hbz := HVX.out.chg hcz (fun x => x)
    have v0 : wz.cell? ⟨V, 0, none⟩ = some (.int .i64 a1) := (hbz.cell _).trans rfl
    have vf0 := hbz.frozen 0
    have v1 : wz.cell? ⟨V, 1, none⟩ = some (.int .i64 a2) := (hbz.cell _).trans rfl
    have vf1 := hbz.frozen 1
    have v2 : wz.cell? ⟨V, 2, none⟩ = some (.int .i64 a3) := (hbz.cell _).trans rfl
    have vf2 := hbz.frozen 2
    have hcs := chg3h (F := (· = V)) (g := V) (a := .int .i64 b1) (b := .int .i64 b2) (c := .int .i64 b3) (Chg.refl (· = V) wz) (.inl rfl)
    have hbb : Blk (((wz.setCell ⟨V, 0, none⟩ (.int .i64 b1)).setCell ⟨V, 1, none⟩ (.int .i64 b2)).setCell ⟨V, 2, none⟩ (.int .i64 b3)) V 46 #[.int .i64 b1, .int .i64 b2, .int .i64 b3] := ((hbz.set_ 0 _).set_ 1 _).set_ 2 _
    have HCS := Lib.hid hcs
    have HBB := Lib.hid hbb
    have HCZ := Lib.hid (HCX.out.trans hcz)
    have HO5 := Lib.hid hO5
    have HT5 := Lib.hid hT5
    have HL5 := Lib.hid hl5
    have HSZ := Lib.hid hcz.size
    clear hbz hcs hbb hcz hO5 hT5 hl5 hap HAP
    have HFA := Lib.hid (show w.heap.size ≤ V ∧ V < wr.heap.size by have := HS12.out; have := HVL.out; omega)
    by_cases hz : z < 0
    · have HSD := Lib.hid (HSTOP.out hz)
      have HDD := Lib.hid (HAPN.out hz)
      go_wp2_with fail
      (try simp only [Exit.inBlock, Exit.then])
      refine bodyPost_ret (v := .tuple #[.slice A5 D.length c5, .int .i64 (k : Int)]) (by simp [results, Try.results43, go_sem, *]) rfl ?_
      have hf := HFA.out
      have hsx := HSX.out
      unfold RunP
      rw [HSD.out]
      exact ⟨A5, c5, T5, rfl, by rw [HT5.out]; exact HDD.out, (HO5.out.chg HCS.out (fun i h1 h2 h3 => by omega)).more (by omega) (by simp [World.size_setCell]), HCZ.out.own HCS.out hf.1⟩
    · have HSD := Lib.hid (HSTEP.out (by first | exact hz | exact Int.not_lt.1 hz))
      go_wp2_with fail
      go_roundw
      case rel =>
        have hf := HFA.out
        have hsx := HSX.out
        exact ⟨k + 1, D5, ⟨b1, b2, b3⟩, A5, c5, T5, _, _, by omega, by go_num, by rw [HL5.out], HT5.out, HO5.out.chg HCS.out (fun i h1 h2 h3 => by omega), by omega, .inr (by omega), by simp [World.size_setCell], Lib.hid HAPH.out.1, by rw [HL5.out, HDN.out], HCZ.out.own HCS.out hf.1, HBB.out, Lib.hid HSD.out⟩
      case measure => simp [intOf]; omega
end Go.Proofs.Ytpiojofmflfkkaa
/- RunPuts of the reference. -/
namespace Go.Proofs.Ytpiojofmflfkkaa
open Go.RowKit
theorem ty_block_heads : (67 : Nat) ≠ 46 := by decide
theorem ty_page_heads : (80 : Nat) ≠ 46 := by decide
theorem DevQ.boxH {B E B' : Nat} {w w' : World} {A : Option Addr} {c : Nat} {T : List BkO} (h : DevQ B E w A c T) (hR : RBox NoB B' 46 w w') : DevQ B E w' A c T := by
  refine ⟨⟨⟨h.1.1.1, ?_⟩, ⟨fun r hr => ?_, h.1.2.2⟩⟩, fun hT => ?_⟩
  · rcases h.1.1.2 with h0 | ⟨g, rest, e, hg, hE, hb⟩
    · exact .inl h0
    · exact .inr ⟨g, rest, e, hg, hE, hR.blk hb (fun x => x) (.inr ty_block_heads)⟩
  · obtain ⟨h1, h2, h3, h4⟩ := h.1.2.1 r hr
    exact ⟨h1, h2, hR.blk h3 (fun x => x) (.inr ty_page_heads), h4⟩
  · obtain ⟨h1, g, cs, h2, h3, h4⟩ := h.2 hT
    exact ⟨h1, g, cs, h2, hR.blk h3 (fun x => x) (.inr ty_block_heads), h4⟩
set_option maxRecDepth 100000 in
set_option maxHeartbeats 1000000 in
theorem sRunPuts_any (F : Nat → Prop) (A : Option Addr) (c : Nat) (n : Int) (xs : List Pt) (w : World) (h : Rd F w A (putcells xs)) (hm : xs.length ≤ 9223372036854775807) :
    Calls Try.prog 41 #[.int .i64 n, .slice A xs.length c] w (RunP w n xs) := by
  by_cases hn : 1 ≤ n ∧ n ≤ 12
  case neg =>
    have HN := Lib.hid (show runPuts n xs = ([], -1) from if_neg (fun hh => hn hh.1))
    have HNO := Lib.hid hn
    clear hn h
    go_enter Try.func41, Try.ntmps41
    go_wp2_with fail
    refine (l1In_f n 1 12 _ (by have := HNO.out; omega)).mono ?_
    rintro e w' ⟨rfl, rfl⟩
    go_wp2
    (try simp only [Exit.inBlock, Exit.then])
    refine bodyPost_ret (v := .tuple #[.slice (some ⟨w.heap.size, 0, none⟩) 0 0, .int .i64 (-1)]) (by simp [results, Try.results41, go_sem, *]) rfl ?_
    unfold RunP
    rw [HN.out]
    exact ⟨_, 0, [], rfl, rfl, DevQ.nil _ _ _ _ _, (Chg.refl _ _).alloc _⟩
  have hn1 : ¬ n < 1 := by omega
  have hn2 : ¬ 12 < n := by omega
  have HNN := Lib.hid hn
  have HX := Lib.hid h.lt
  clear hn h
  go_enter Try.func41, Try.ntmps41
  go_wp2_with fail
  refine (l1In_t n 1 12 _ (by have := HNN.out; omega)).mono ?_
  rintro e w' ⟨rfl, rfl⟩
  go_wp2_with fail
  refine (sPutsValid_any _ A c xs _ HX.out hm).mono ?_
  rintro e w1 ⟨b, rfl, hb, hc1⟩
  have HC1 := Lib.hid hc1
  cases b
  case false =>
    have HN := Lib.hid (show runPuts n xs = ([], -1) from if_neg (fun hh => by have := hb.2 hh.2; cases this))
    clear hb hc1
    go_wp2
    (try simp only [Exit.inBlock, Exit.then])
    refine bodyPost_ret (v := .tuple #[.slice (some ⟨w1.heap.size, 0, none⟩) 0 0, .int .i64 (-1)]) (by simp [results, Try.results41, go_sem, *]) rfl ?_
    unfold RunP
    rw [HN.out]
    exact ⟨_, 0, [], rfl, rfl, DevQ.nil _ _ _ _ _, HC1.out.alloc _⟩
  have HOK := Lib.hid (hb.1 rfl)
  have HRE := Lib.hid (show runPuts n xs = runAt (newDevice n) ⟨-1, -1, -1⟩ 0 xs from if_pos ⟨HNN.out, HOK.out⟩)
  clear hb hc1
  go_wp2_with fail
  refine (sNewDevice_any n _).mono ?_
  rintro e w2 ⟨A2, c2, T2, rfl, hT2, hO2, hc2⟩
  obtain ⟨N, rfl⟩ := Int.eq_ofNat_of_zero_le (show 0 ≤ n by omega)
  have hN : 1 ≤ N ∧ N ≤ 12 := by have := HNN.out; omega
  have HNL := Lib.hid (newDv_len hN)
  have HHN := Lib.hid (heads_none hN)
  have hca := (Chg.refl NoB w2).alloc (.cells #[.int .i64 (-1), .int .i64 (-1), .int .i64 (-1)] 46)
  have HV0 := Lib.hid (Blk.new w2 46 #[.int .i64 (-1), .int .i64 (-1), .int .i64 (-1)])
  have HC2 := Lib.hid ((HC1.out.trans hc2).trans hca)
  have HO2 := Lib.hid (hO2.new hca)
  have HT2 := Lib.hid hT2
  have HS1 := Lib.hid HC1.out.size
  have HS2 := Lib.hid hc2.size
  have hxs20 := HOK.out.1
  clear hca hc2 hT2 hO2 hN
  go_wp2
  obtain ⟨V, hV⟩ : ∃ V, w2.heap.size = V := ⟨_, rfl⟩
  obtain ⟨w3, hw3⟩ : ∃ w3, w2.alloc (.cells #[.int .i64 (-1), .int .i64 (-1), .int .i64 (-1)] 46) = w3 := ⟨_, rfl⟩
  have hs1 := HS1.out
  have hs2 := HS2.out
  try rw [hw3]
  rw [hw3] at HV0 HC2 HO2
  try rw [hV]
  rw [hV] at HV0 HO2 hs2
  obtain ⟨D0, hD0⟩ : ∃ D0, newDevice (N : Int) = D0 := ⟨_, rfl⟩
  rw [hD0] at HNL HHN HRE HT2 ⊢
  have HS12 := Lib.hid (And.intro hs1 hs2)
  clear hV hw3 hs1 hs2 hD0 HS1 HS2
  go_loopw [6, 8] (fun dv i wr => ∃ (k : Nat) (D : List Bk) (hh : Hd) (Aq : Option Addr) (cq : Nat) (T : List BkO) (B E : Nat), k ≤ xs.length ∧ i = .int .i64 k ∧ dv = .slice Aq D.length cq ∧ bksOf T = D ∧ DevQ B E wr Aq cq T ∧ w.heap.size ≤ B ∧ (E ≤ V ∨ V < B) ∧ E ≤ wr.heap.size ∧ Hid (HeadsOk D hh) ∧ D.length = N ∧ Chg NoB w wr ∧ Blk wr V 46 #[.int .i64 hh.hot, .int .i64 hh.warm, .int .i64 hh.cold] ∧ Hid (runPuts (N : Int) xs = runAt D hh k (xs.drop k))) (fun _ i _ => xs.length - (intOf i).toNat)
  case atStart => exact ⟨0, D0, ⟨-1, -1, -1⟩, A2, c2, T2, _, _, Nat.zero_le _, rfl, rfl, HT2.out, HO2.out, HS12.out.1, .inl (Nat.le_refl _), by have := HV0.out.lt; omega, HHN, HNL.out, HC2.out, HV0.out, HRE⟩
  case round =>
    obtain ⟨k, D, ⟨a1, a2, a3⟩, Aq, cq, T, B, E, hk, rfl, rfl, hT, hO, hB, hBE, hE, HHD, hDN, hch, hbV, HRA⟩ := hrel
    have HDN := Lib.hid hDN
    clear hDN
    have HT := Lib.hid hT
    have HO := Lib.hid hO
    have HC := Lib.hid hch
    have HV := Lib.hid hbV
    have HVL := Lib.hid hbV.lt
    have HBE := Lib.hid (And.intro hB (And.intro hBE hE))
    by_cases hlt : k < xs.length
    case neg =>
      obtain rfl : k = xs.length := by omega
      have HEQ := Lib.hid (HRA.out.trans runAt_end)
      clear hT hO hch hbV hB hBE hE
      go_wp2
      (try simp only [Exit.inBlock, Exit.then])
      refine bodyPost_ret (v := .tuple #[.slice Aq D.length cq, .int .i64 (xs.length : Int)]) (by simp [results, Try.results41, go_sem, *]) rfl ?_
      unfold RunP
      rw [HEQ.out]
      exact ⟨Aq, cq, T, rfl, HT.out, HO.out.more HBE.out.1 HBE.out.2.2, HC.out⟩
    have hi0 : (0 : Int) ≤ (k : Int) := Int.natCast_nonneg _
    have hi1 : (k : Int) < (xs.length : Int) := by omega
    have hw1 : IntKind.i64.wrap (1 + (k : Int)) = 1 + (k : Int) := IntWalk.i64_in _ ⟨by omega, by omega⟩
    obtain ⟨pb, po, rfl, hpF, hpb, p0, p1, p2⟩ := pt_at (HX.out.new hch) hlt
    obtain ⟨hpo, hpf⟩ := pgOf_ok HOK.out hlt
    have HPO := Lib.hid hpo
    have HSTOP := Lib.hid (fun hz => HRA.out.trans (runAt_stop (D := D) (h := ⟨a1, a2, a3⟩) hlt hz))
    have HSTEP := Lib.hid (fun hz => HRA.out.trans (runAt_step (D := D) (h := ⟨a1, a2, a3⟩) hlt hz))
    have HAPN := Lib.hid (fun hz => appendPage_neg (D := D) (h := ⟨a1, a2, a3⟩) (n := 1) HHD.out (by omega) hpo hpf hz)
    have HAPH := Lib.hid (HeadsOk.append (D := D) (h := ⟨a1, a2, a3⟩) (n := 1) HHD.out (by omega) hpo hpf)
    obtain ⟨PG, hPG⟩ : ∃ PG, pgOf xs[k] k = PG := ⟨_, rfl⟩
    rw [hPG] at HSTOP HSTEP HAPN HAPH HPO
    obtain ⟨x1, hx1⟩ : ∃ z, xs[k].file = z := ⟨_, rfl⟩
    obtain ⟨x2, hx2⟩ : ∃ z, xs[k].place = z := ⟨_, rfl⟩
    obtain ⟨x3, hx3⟩ : ∃ z, xs[k].value = z := ⟨_, rfl⟩
    rw [hx1] at p0
    rw [hx2] at p1
    rw [hx3] at p2
    have HPGE := Lib.hid (show PG = ⟨true, x1, x2, x3, 1 + (k : Int)⟩ by rw [← hPG]; unfold pgOf; rw [hx1, hx2, hx3, Int.add_comm])
    have v0 : wr.cell? ⟨V, 0, none⟩ = some (.int .i64 a1) := (hbV.cell _).trans rfl
    have v1 : wr.cell? ⟨V, 1, none⟩ = some (.int .i64 a2) := (hbV.cell _).trans rfl
    have v2 : wr.cell? ⟨V, 2, none⟩ = some (.int .i64 a3) := (hbV.cell _).trans rfl
    obtain ⟨⟨D5, ⟨b1, b2, b3⟩, z⟩, hap⟩ : ∃ r, appendPage D ⟨a1, a2, a3⟩ ((1 : Nat) : Int) PG = r := ⟨_, rfl⟩
    rw [hap] at HSTOP HSTEP HAPN HAPH
    have HAPE := Lib.hid hap
    have HAP := Lib.hid (show ∀ wx, Chg NoB wr wx → Calls Try.prog 81 #[.slice Aq D.length cq, .agg #[.int .i64 a1, .int .i64 a2, .int .i64 a3], .int .i64 1, .agg #[.bool true, .int .i64 x1, .int .i64 x2, .int .i64 x3, .int .i64 (1 + (k : Int))]] wx (fun e w' => ∃ A5 c5 T5, e = .returned (.tuple #[.slice A5 D.length c5, .agg #[.int .i64 b1, .int .i64 b2, .int .i64 b3], .int .i64 z]) ∧ Hid (bksOf T5 = D5) ∧ DevQ wx.heap.size w'.heap.size w' A5 c5 T5 ∧ Chg NoB wx w') from fun wx hq => by
      have := sAppendPage_any _ Aq cq D ⟨a1, a2, a3⟩ 1 PG wx (HT.out ▸ (HO.out.new hq).reads) HHD.out (by omega) HPO.out (by rw [HPGE.out])
      unfold AppP at this
      rw [hap] at this
      rw [HPGE.out] at this
      exact this.mono fun e w' ⟨A5, c5, T5, h1, h2, h3, h4⟩ => ⟨A5, c5, T5, h1, Lib.hid h2, h3, h4⟩)
    have HL5 := Lib.hid (show D5.length = D.length from HAPH.out.2)
    have HFA := Lib.hid (show w.heap.size ≤ V ∧ V < wr.heap.size by have := HS12.out; have := HVL.out; omega)
    clear hx1 hx2 hx3 hPG hpo hpf hT hO hch hbV hB hBE hE hpF hap
    go_wp2_with fail
    refine wp_region_rg (WInv := fun _ m w5 => Chg (NoB) wr w5 ∧ BoxI wr.heap.size 46 #[.int .i64 0, .int .i64 0, .int .i64 0] 25 27 23 m w5) (R := RBox (NoB) wr.heap.size 46) (Post := PL [fun v w => v = .slice Aq D.length cq, fun v w => v = .agg #[.int .i64 a1, .int .i64 a2, .int .i64 a3], fun v w => v = .slice (some ⟨pb, po, none⟩) xs.length c, fun v w => v = .int .i64 (k : Int), fun v w => v = .pointer (some ⟨pb, po + k * 3, none⟩), fun v w => v = .pointer (some ⟨pb, po + k * 3, none⟩), fun v w => v = .int .i64 x1, fun v w => v = .slice (some ⟨pb, po, none⟩) xs.length c, fun v w => v = .int .i64 (k : Int), fun v w => v = .pointer (some ⟨pb, po + k * 3, none⟩), fun v w => v = .pointer (some ⟨pb, po + k * 3 + 1, none⟩), fun v w => v = .int .i64 x2, fun v w => v = .slice (some ⟨pb, po, none⟩) xs.length c, fun v w => v = .int .i64 (k : Int), fun v w => v = .pointer (some ⟨pb, po + k * 3, none⟩), fun v w => v = .pointer (some ⟨pb, po + k * 3 + 2, none⟩), fun v w => v = .int .i64 x3, fun v w => v = .int .i64 (k : Int), fun v w => v = .int .i64 (1 + (k : Int)), fun v w => v = .agg #[.bool true, .int .i64 x1, .int .i64 x2, .int .i64 x3, .int .i64 (1 + (k : Int))], fun v w => ∃ A5 : Option Addr, ∃ c5 : Nat, ∃ T5 : List BkO, v = .tuple #[.slice A5 D.length c5, .agg #[.int .i64 b1, .int .i64 b2, .int .i64 b3], .int .i64 z] ∧ Hid (bksOf T5 = D5) ∧ DevQ wr.heap.size w.heap.size w A5 c5 T5, fun v w => ∃ A5 : Option Addr, ∃ c5 : Nat, ∃ T5 : List BkO, v = .tuple #[.slice A5 D.length c5, .agg #[.int .i64 b1, .int .i64 b2, .int .i64 b3], .int .i64 z] ∧ Hid (bksOf T5 = D5) ∧ DevQ wr.heap.size w.heap.size w A5 c5 T5, fun v w => ∃ A5 : Option Addr, ∃ c5 : Nat, ∃ T5 : List BkO, v = .slice A5 D.length c5 ∧ Hid (bksOf T5 = D5) ∧ DevQ wr.heap.size w.heap.size w A5 c5 T5, fun v w => v = .agg #[.int .i64 b1, .int .i64 b2, .int .i64 b3], fun v w => v = .int .i64 z, fun _ _ => True, fun v w => ∃ A5 : Option Addr, ∃ c5 : Nat, ∃ T5 : List BkO, v = .slice A5 D.length c5 ∧ Hid (bksOf T5 = D5) ∧ DevQ wr.heap.size w.heap.size w A5 c5 T5, fun _ _ => True, fun v w => v = .int .i64 z]) (by kernel_rfl) (by kernel_rfl) ?_ (pl_stab ⟨(fun _ _ _ h _ => h), (fun _ _ _ h _ => h), (fun _ _ _ h _ => h), (fun _ _ _ h _ => h), (fun _ _ _ h _ => h), (fun _ _ _ h _ => h), (fun _ _ _ h _ => h), (fun _ _ _ h _ => h), (fun _ _ _ h _ => h), (fun _ _ _ h _ => h), (fun _ _ _ h _ => h), (fun _ _ _ h _ => h), (fun _ _ _ h _ => h), (fun _ _ _ h _ => h), (fun _ _ _ h _ => h), (fun _ _ _ h _ => h), (fun _ _ _ h _ => h), (fun _ _ _ h _ => h), (fun _ _ _ h _ => h), (fun _ _ _ h _ => h), (fun _ _ _ ⟨A5, c5, T5, hv, hT5, hO5⟩ hR => ⟨A5, c5, T5, hv, hT5, ((DevQ.boxH hO5 hR).more (Nat.le_refl _) hR.size)⟩), (fun _ _ _ ⟨A5, c5, T5, hv, hT5, hO5⟩ hR => ⟨A5, c5, T5, hv, hT5, ((DevQ.boxH hO5 hR).more (Nat.le_refl _) hR.size)⟩), (fun _ _ _ ⟨A5, c5, T5, hv, hT5, hO5⟩ hR => ⟨A5, c5, T5, hv, hT5, ((DevQ.boxH hO5 hR).more (Nat.le_refl _) hR.size)⟩), (fun _ _ _ h _ => h), (fun _ _ _ h _ => h), (fun _ _ _ _ _ => trivial), (fun _ _ _ ⟨A5, c5, T5, hv, hT5, hO5⟩ hR => ⟨A5, c5, T5, hv, hT5, ((DevQ.boxH hO5 hR).more (Nat.le_refl _) hR.size)⟩), (fun _ _ _ _ _ => trivial), (fun _ _ _ h _ => h), trivial⟩) ⟨(Chg.refl _ _).drew, BoxI.start⟩ ?_ ?_
    · exact fun _ _ _ _ h _ _ => h
    · refine ⟨?_, ?_, ?_, ?_, ?_, ?_, ?_, ?_, ?_, ?_, ?_, ?_, ?_, ?_, ?_, ?_, ?_, ?_, ?_, ?_, ?_, ?_, ?_, ?_, ?_, ?_, ?_, ?_, ?_, trivial⟩
      · rintro kc m a w5 hkc ⟨hch, hbx⟩ hm hn
        obtain ⟨h0, -⟩ := hn
        have e0 : a.tmps[6]?.getD undef = .slice Aq D.length cq := h0
        exact rg_val (v := .slice Aq D.length cq) (by simp [execOp, go_sem, e0]) rfl ⟨hch, hbx.keep (by decide) (by decide) hm (Chg.refl NoB _) (fun _ _ x => x)⟩ (Chg.refl _ _) rfl
      · rintro kc m a w5 hkc ⟨hch, hbx⟩ hm hn
        obtain ⟨h0, -⟩ := hn
        have e0 : a.tmps[7]?.getD undef = .pointer (some ⟨V, 0, none⟩) := h0
        have y0 := hch.cell v0 (fun x => x)
        have y1 := hch.cell v1 (fun x => x)
        have y2 := hch.cell v2 (fun x => x)
        exact rg_val (v := .agg #[.int .i64 a1, .int .i64 a2, .int .i64 a3]) (by simp [execOp, go_sem, e0, y0, y1, y2]) rfl ⟨hch, hbx.keep (by decide) (by decide) hm (Chg.refl NoB _) (fun _ _ x => x)⟩ (Chg.refl _ _) rfl
      · rintro kc m a w5 hkc ⟨hch, hbx⟩ hm hn
        obtain ⟨h0, -⟩ := hn
        have e0 : a.tmps[1]?.getD undef = .slice (some ⟨pb, po, none⟩) xs.length c := h0
        exact rg_val (v := .slice (some ⟨pb, po, none⟩) xs.length c) (by simp [execOp, go_sem, e0]) rfl ⟨hch, hbx.keep (by decide) (by decide) hm (Chg.refl NoB _) (fun _ _ x => x)⟩ (Chg.refl _ _) rfl
      · rintro kc m a w5 hkc ⟨hch, hbx⟩ hm hn
        obtain ⟨h0, -⟩ := hn
        have e0 : a.tmps[8]?.getD undef = .int .i64 (k : Int) := h0
        exact rg_val (v := .int .i64 (k : Int)) (by simp [execOp, go_sem, e0]) rfl ⟨hch, hbx.keep (by decide) (by decide) hm (Chg.refl NoB _) (fun _ _ x => x)⟩ (Chg.refl _ _) rfl
      · rintro kc m a w5 hkc ⟨hch, hbx⟩ hm hn
        obtain ⟨⟨_, e0, m0, rfl⟩, ⟨_, e1, m1, rfl⟩, -⟩ := hn
        exact rg_val (v := .pointer (some ⟨pb, po + k * 3, none⟩)) (by simp [execOp, go_sem, e0, e1]; exact fun hh => absurd hh (by omega)) rfl ⟨hch, hbx.keep (by decide) (by decide) hm (Chg.refl NoB _) (fun _ _ x => x)⟩ (Chg.refl _ _) rfl
      · rintro kc m a w5 hkc ⟨hch, hbx⟩ hm hn
        obtain ⟨⟨_, e0, m0, rfl⟩, -⟩ := hn
        exact rg_val (v := .pointer (some ⟨pb, po + k * 3, none⟩)) (by simp [execOp, go_sem, e0]) rfl ⟨hch, hbx.keep (by decide) (by decide) hm (Chg.refl NoB _) (fun _ _ x => x)⟩ (Chg.refl _ _) rfl
      · rintro kc m a w5 hkc ⟨hch, hbx⟩ hm hn
        obtain ⟨⟨_, e0, m0, rfl⟩, -⟩ := hn
        have y0 := hch.cell p0 (fun x => x)
        exact rg_val (v := .int .i64 x1) (by simp [execOp, go_sem, e0, y0]) rfl ⟨hch, hbx.keep (by decide) (by decide) hm (Chg.refl NoB _) (fun _ _ x => x)⟩ (Chg.refl _ _) rfl
      · rintro kc m a w5 hkc ⟨hch, hbx⟩ hm hn
        obtain ⟨h0, -⟩ := hn
        have e0 : a.tmps[1]?.getD undef = .slice (some ⟨pb, po, none⟩) xs.length c := h0
        exact rg_val (v := .slice (some ⟨pb, po, none⟩) xs.length c) (by simp [execOp, go_sem, e0]) rfl ⟨hch, hbx.keep (by decide) (by decide) hm (Chg.refl NoB _) (fun _ _ x => x)⟩ (Chg.refl _ _) rfl
      · rintro kc m a w5 hkc ⟨hch, hbx⟩ hm hn
        obtain ⟨h0, -⟩ := hn
        have e0 : a.tmps[8]?.getD undef = .int .i64 (k : Int) := h0
        exact rg_val (v := .int .i64 (k : Int)) (by simp [execOp, go_sem, e0]) rfl ⟨hch, hbx.keep (by decide) (by decide) hm (Chg.refl NoB _) (fun _ _ x => x)⟩ (Chg.refl _ _) rfl
      · rintro kc m a w5 hkc ⟨hch, hbx⟩ hm hn
        obtain ⟨⟨_, e0, m0, rfl⟩, ⟨_, e1, m1, rfl⟩, -⟩ := hn
        exact rg_val (v := .pointer (some ⟨pb, po + k * 3, none⟩)) (by simp [execOp, go_sem, e0, e1]; exact fun hh => absurd hh (by omega)) rfl ⟨hch, hbx.keep (by decide) (by decide) hm (Chg.refl NoB _) (fun _ _ x => x)⟩ (Chg.refl _ _) rfl
      · rintro kc m a w5 hkc ⟨hch, hbx⟩ hm hn
        obtain ⟨⟨_, e0, m0, rfl⟩, -⟩ := hn
        exact rg_val (v := .pointer (some ⟨pb, po + k * 3 + 1, none⟩)) (by simp [execOp, go_sem, e0]) rfl ⟨hch, hbx.keep (by decide) (by decide) hm (Chg.refl NoB _) (fun _ _ x => x)⟩ (Chg.refl _ _) rfl
      · rintro kc m a w5 hkc ⟨hch, hbx⟩ hm hn
        obtain ⟨⟨_, e0, m0, rfl⟩, -⟩ := hn
        have y0 := hch.cell p1 (fun x => x)
        exact rg_val (v := .int .i64 x2) (by simp [execOp, go_sem, e0, y0]) rfl ⟨hch, hbx.keep (by decide) (by decide) hm (Chg.refl NoB _) (fun _ _ x => x)⟩ (Chg.refl _ _) rfl
      · rintro kc m a w5 hkc ⟨hch, hbx⟩ hm hn
        obtain ⟨h0, -⟩ := hn
        have e0 : a.tmps[1]?.getD undef = .slice (some ⟨pb, po, none⟩) xs.length c := h0
        exact rg_val (v := .slice (some ⟨pb, po, none⟩) xs.length c) (by simp [execOp, go_sem, e0]) rfl ⟨hch, hbx.keep (by decide) (by decide) hm (Chg.refl NoB _) (fun _ _ x => x)⟩ (Chg.refl _ _) rfl
      · rintro kc m a w5 hkc ⟨hch, hbx⟩ hm hn
        obtain ⟨h0, -⟩ := hn
        have e0 : a.tmps[8]?.getD undef = .int .i64 (k : Int) := h0
        exact rg_val (v := .int .i64 (k : Int)) (by simp [execOp, go_sem, e0]) rfl ⟨hch, hbx.keep (by decide) (by decide) hm (Chg.refl NoB _) (fun _ _ x => x)⟩ (Chg.refl _ _) rfl
      · rintro kc m a w5 hkc ⟨hch, hbx⟩ hm hn
        obtain ⟨⟨_, e0, m0, rfl⟩, ⟨_, e1, m1, rfl⟩, -⟩ := hn
        exact rg_val (v := .pointer (some ⟨pb, po + k * 3, none⟩)) (by simp [execOp, go_sem, e0, e1]; exact fun hh => absurd hh (by omega)) rfl ⟨hch, hbx.keep (by decide) (by decide) hm (Chg.refl NoB _) (fun _ _ x => x)⟩ (Chg.refl _ _) rfl
      · rintro kc m a w5 hkc ⟨hch, hbx⟩ hm hn
        obtain ⟨⟨_, e0, m0, rfl⟩, -⟩ := hn
        exact rg_val (v := .pointer (some ⟨pb, po + k * 3 + 2, none⟩)) (by simp [execOp, go_sem, e0]) rfl ⟨hch, hbx.keep (by decide) (by decide) hm (Chg.refl NoB _) (fun _ _ x => x)⟩ (Chg.refl _ _) rfl
      · rintro kc m a w5 hkc ⟨hch, hbx⟩ hm hn
        obtain ⟨⟨_, e0, m0, rfl⟩, -⟩ := hn
        have y0 := hch.cell p2 (fun x => x)
        exact rg_val (v := .int .i64 x3) (by simp [execOp, go_sem, e0, y0]) rfl ⟨hch, hbx.keep (by decide) (by decide) hm (Chg.refl NoB _) (fun _ _ x => x)⟩ (Chg.refl _ _) rfl
      · rintro kc m a w5 hkc ⟨hch, hbx⟩ hm hn
        obtain ⟨h0, -⟩ := hn
        have e0 : a.tmps[8]?.getD undef = .int .i64 (k : Int) := h0
        exact rg_val (v := .int .i64 (k : Int)) (by simp [execOp, go_sem, e0]) rfl ⟨hch, hbx.keep (by decide) (by decide) hm (Chg.refl NoB _) (fun _ _ x => x)⟩ (Chg.refl _ _) rfl
      · rintro kc m a w5 hkc ⟨hch, hbx⟩ hm hn
        obtain ⟨⟨_, e0, m0, rfl⟩, -⟩ := hn
        exact rg_val (v := .int .i64 (1 + (k : Int))) (by simp [execOp, go_sem, e0, hw1]) rfl ⟨hch, hbx.keep (by decide) (by decide) hm (Chg.refl NoB _) (fun _ _ x => x)⟩ (Chg.refl _ _) rfl
      · rintro kc m a w5 hkc ⟨hch, hbx⟩ hm hn
        obtain ⟨⟨_, e0, m0, rfl⟩, ⟨_, e1, m1, rfl⟩, ⟨_, e2, m2, rfl⟩, ⟨_, e3, m3, rfl⟩, -⟩ := hn
        exact rg_val (v := .agg #[.bool true, .int .i64 x1, .int .i64 x2, .int .i64 x3, .int .i64 (1 + (k : Int))]) (by simp [execOp, go_sem, e0, e1, e2, e3]) rfl ⟨hch, hbx.keep (by decide) (by decide) hm (Chg.refl NoB _) (fun _ _ x => x)⟩ (Chg.refl _ _) rfl
      · rintro kc m a w5 hkc ⟨hch, hbx⟩ hm hn
        obtain ⟨⟨_, e0, m0, rfl⟩, ⟨_, e1, m1, rfl⟩, ⟨_, e2, m2, rfl⟩, -⟩ := hn
        refine rg_call (f := 81) (args := #[.slice Aq D.length cq, .agg #[.int .i64 a1, .int .i64 a2, .int .i64 a3], .int .i64 1, .agg #[.bool true, .int .i64 x1, .int .i64 x2, .int .i64 x3, .int .i64 (1 + (k : Int))]]) (by simp [go_sem, e0, e1, e2]) rfl ?_
        refine (HAP.out _ hch).mono ?_
        rintro e' w6 ⟨A5, c5, T5, rfl, hT5, hO5, hc6⟩
        exact ⟨_, rfl, ⟨hch.trans' hc6 (fun _ x => x.elim), hbx.keep (by decide) (by decide) hm hc6 (fun _ _ x => x)⟩, (RBox.of hc6 (fun _ x => x)), ⟨A5, c5, T5, rfl, hT5, (hO5.more hch.size (Nat.le_refl _))⟩⟩
      · rintro kc m a w5 hkc ⟨hch, hbx⟩ hm hn
        obtain ⟨⟨_, e0, m0, A5, c5, T5, rfl, hT5, hO5⟩, -⟩ := hn
        exact rg_val (v := .tuple #[.slice A5 D.length c5, .agg #[.int .i64 b1, .int .i64 b2, .int .i64 b3], .int .i64 z]) (by simp [execOp, go_sem, e0]) rfl ⟨hch, hbx.keep (by decide) (by decide) hm (Chg.refl NoB _) (fun _ _ x => x)⟩ (Chg.refl _ _) ⟨A5, c5, T5, rfl, hT5, hO5⟩
      · rintro kc m a w5 hkc ⟨hch, hbx⟩ hm hn
        obtain ⟨⟨_, e0, m0, A5, c5, T5, rfl, hT5, hO5⟩, -⟩ := hn
        exact rg_val (v := .slice A5 D.length c5) (by simp [execOp, go_sem, e0]) rfl ⟨hch, hbx.keep (by decide) (by decide) hm (Chg.refl NoB _) (fun _ _ x => x)⟩ (Chg.refl _ _) ⟨A5, c5, T5, rfl, hT5, hO5⟩
      · rintro kc m a w5 hkc ⟨hch, hbx⟩ hm hn
        obtain ⟨⟨_, e0, m0, A5, c5, T5, rfl, hT5, hO5⟩, -⟩ := hn
        exact rg_val (v := .agg #[.int .i64 b1, .int .i64 b2, .int .i64 b3]) (by simp [execOp, go_sem, e0]) rfl ⟨hch, hbx.keep (by decide) (by decide) hm (Chg.refl NoB _) (fun _ _ x => x)⟩ (Chg.refl _ _) rfl
      · rintro kc m a w5 hkc ⟨hch, hbx⟩ hm hn
        obtain ⟨⟨_, e0, m0, A5, c5, T5, rfl, hT5, hO5⟩, -⟩ := hn
        exact rg_val (v := .int .i64 z) (by simp [execOp, go_sem, e0]) rfl ⟨hch, hbx.keep (by decide) (by decide) hm (Chg.refl NoB _) (fun _ _ x => x)⟩ (Chg.refl _ _) rfl
      · rintro kc m a w5 hkc ⟨hch, hbx⟩ hm hn
        have hca : Chg NoB w5 (w5.alloc (.cells #[.int .i64 0, .int .i64 0, .int .i64 0] 46)) := (Chg.refl _ _).alloc _
        exact rg_val (v := .pointer (some ⟨w5.heap.size, 0, none⟩)) (w' := w5.alloc (.cells #[.int .i64 0, .int .i64 0, .int .i64 0] 46)) (by simp [execOp, go_sem]) rfl ⟨hch.alloc _, hbx.alloc (by decide) hm hch.size⟩ (RBox.of hca (fun _ x => x.elim)) trivial
      · rintro kc m a w5 hkc ⟨hch, hbx⟩ hm hn
        obtain ⟨⟨_, e0, m0, A5, c5, T5, rfl, hT5, hO5⟩, -⟩ := hn
        exact rg_val (v := .slice A5 D.length c5) (by simp [execOp, go_sem, e0]) rfl ⟨hch, hbx.keep (by decide) (by decide) hm (Chg.refl NoB _) (fun _ _ x => x)⟩ (Chg.refl _ _) ⟨A5, c5, T5, rfl, hT5, hO5⟩
      · rintro kc m a w5 hkc ⟨hch, hbx⟩ hm hn
        obtain ⟨⟨p0, e0, m0, _⟩, ⟨_, e1, m1, rfl⟩, -⟩ := hn
        obtain ⟨bx, rfl, hBx, hb⟩ := hbx.ready hm m0
        have f0 := hb.frozen 0
        have x0 : w5.cell? ⟨bx, 0, none⟩ = some (.int .i64 0) := (hb.cell _).trans rfl
        have f1 := hb.frozen 1
        have x1 : w5.cell? ⟨bx, 1, none⟩ = some (.int .i64 0) := (hb.cell _).trans rfl
        have f2 := hb.frozen 2
        have x2 : w5.cell? ⟨bx, 2, none⟩ = some (.int .i64 0) := (hb.cell _).trans rfl
        have hs : Chg (· = bx) w5 (((w5.setCell ⟨bx, 0, none⟩ (.int .i64 b1)).setCell ⟨bx, 1, none⟩ (.int .i64 b2)).setCell ⟨bx, 2, none⟩ (.int .i64 b3)) := ((((Chg.refl (· = bx) w5).setCell (p := ⟨bx, 0, none⟩) (.inl rfl) _).setCell (p := ⟨bx, 1, none⟩) (.inl rfl) _).setCell (p := ⟨bx, 2, none⟩) (.inl rfl) _)
        have hb' : Blk (((w5.setCell ⟨bx, 0, none⟩ (.int .i64 b1)).setCell ⟨bx, 1, none⟩ (.int .i64 b2)).setCell ⟨bx, 2, none⟩ (.int .i64 b3)) bx 46 #[.int .i64 b1, .int .i64 b2, .int .i64 b3] := (((hb.set_ 0 _).set_ 1 _).set_ 2 _)
        exact rg_skip (w' := (((w5.setCell ⟨bx, 0, none⟩ (.int .i64 b1)).setCell ⟨bx, 1, none⟩ (.int .i64 b2)).setCell ⟨bx, 2, none⟩ (.int .i64 b3))) (by simp [execOp, go_sem, e0, e1, x0, x1, x2, f0, f1, f2]) rfl ⟨hch.own hs hBx, BoxI.store (by decide) (by decide) m0 hBx m1 hb'⟩ (RBox.box hs hBx hb) trivial
      · rintro kc m a w5 hkc ⟨hch, hbx⟩ hm hn
        obtain ⟨⟨_, e0, m0, rfl⟩, -⟩ := hn
        exact rg_val (v := .int .i64 z) (by simp [execOp, go_sem, e0]) rfl ⟨hch, hbx.keep (by decide) (by decide) hm (Chg.refl NoB _) (fun _ _ x => x)⟩ (Chg.refl _ _) rfl
    rintro m w5 ⟨hch, hbx⟩
    simp only [AllVals]
    rintro q0 m0 p0 q1 m1 p1 q2 m2 p2 q3 m3 p3 q4 m4 p4 q5 m5 p5 q6 m6 p6 q7 m7 p7 q8 m8 p8 q9 m9 p9 q10 m10 p10 q11 m11 p11 q12 m12 p12 q13 m13 p13 q14 m14 p14 q15 m15 p15 q16 m16 p16 q17 m17 p17 q18 m18 p18 q19 m19 p19 q20 m20 p20 q21 m21 p21 q22 m22 p22 q23 m23 p23 q24 m24 p24 q25 m25 p25 q26 m26 p26 q27 m27 p27 q28 m28 p28
    obtain ⟨A5, c5, T5, rfl, hT5, hO5⟩ := p26
    obtain rfl := p28
    obtain rfl := p23
    obtain ⟨bx, rfl, hBx, hb⟩ := hbx.done m25 m27 m23
    have r0 : w5.cell? ⟨bx, 0, none⟩ = some (.int .i64 b1) := (hb.cell _).trans rfl
    have r1 : w5.cell? ⟨bx, 1, none⟩ = some (.int .i64 b2) := (hb.cell _).trans rfl
    have r2 : w5.cell? ⟨bx, 2, none⟩ = some (.int .i64 b3) := (hb.cell _).trans rfl
    have HCQ := Lib.hid hch
    have HO5 := Lib.hid hO5
    have HT5 := Lib.hid hT5.out
    have hbz := HV.out.chg hch (fun x => x)
    have q0 : w5.cell? ⟨V, 0, none⟩ = some (.int .i64 a1) := (hbz.cell _).trans rfl
    have qf0 := hbz.frozen 0
    have q1 : w5.cell? ⟨V, 1, none⟩ = some (.int .i64 a2) := (hbz.cell _).trans rfl
    have qf1 := hbz.frozen 1
    have q2 : w5.cell? ⟨V, 2, none⟩ = some (.int .i64 a3) := (hbz.cell _).trans rfl
    have qf2 := hbz.frozen 2
    have HVZ := Lib.hid hbz
    have hbx1 : V ≠ bx := by have := HFA.out; omega
    have hbx2 : bx ≠ V := Ne.symm hbx1
    clear hb hbx hBx hch hO5 hT5 hbz v0 v1 v2
    clear p0 p1 p2 p3 p4 p5 p6 p7 p8 p9 p10 p11 p12 p13 p14 p15 p16 p17 p18 p19 p20 p21 p22 p24 p25 p27
    simp only [Act.put, List.setIfInBounds_toArray, List.set_cons_succ, List.set_cons_zero]
    by_cases hz : z < 0
    · have HSD := Lib.hid (HSTOP.out hz)
      go_wp2_with fail
      (try simp only [Exit.inBlock, Exit.then])
      refine bodyPost_ret (v := .tuple #[.slice Aq D.length cq, .int .i64 (k : Int)]) (by simp [results, Try.results41, go_sem, *]) rfl ?_
      unfold RunP
      rw [HSD.out]
      exact ⟨Aq, cq, T, rfl, HT.out, (HO.out.new HCQ.out).more HBE.out.1 (Nat.le_trans HBE.out.2.2 HCQ.out.size), HC.out.trans HCQ.out⟩
    · have HSD := Lib.hid (HSTEP.out (by first | exact hz | exact Int.not_lt.1 hz))
      have hcs := chg3h (F := (· = V)) (g := V) (a := .int .i64 b1) (b := .int .i64 b2) (c := .int .i64 b3) (Chg.refl (· = V) w5) (.inl rfl)
      have hbb : Blk (((w5.setCell ⟨V, 0, none⟩ (.int .i64 b1)).setCell ⟨V, 1, none⟩ (.int .i64 b2)).setCell ⟨V, 2, none⟩ (.int .i64 b3)) V 46 #[.int .i64 b1, .int .i64 b2, .int .i64 b3] := ((HVZ.out.set_ 0 _).set_ 1 _).set_ 2 _
      have HCS := Lib.hid hcs
      have HBB := Lib.hid hbb
      clear hcs hbb
      go_wp2_with fail
      go_roundw
      case rel =>
        have hf := HFA.out
        have hsx := HCQ.out.size
        exact ⟨k + 1, D5, ⟨b1, b2, b3⟩, A5, c5, T5, _, _, by omega, by go_num, by rw [HL5.out], HT5.out, HO5.out.chg HCS.out (fun i h1 h2 h3 => by omega), by omega, .inr (by omega), by simp [World.size_setCell], Lib.hid HAPH.out.1, by rw [HL5.out, HDN.out], (HC.out.trans HCQ.out).own HCS.out hf.1, HBB.out, Lib.hid HSD.out⟩
      case measure => simp [intOf]; omega
end Go.Proofs.Ytpiojofmflfkkaa
