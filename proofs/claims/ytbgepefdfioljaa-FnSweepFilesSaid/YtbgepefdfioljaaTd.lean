/- DrawNewerSave; the law FnNewerSave: the walk. -/
import Derived.Test.YtbgepefdfioljaaTj
namespace Go.Proofs.Ytbgepefdfioljaa
open Go.RowKit
def SvDraw2 (w : World) (e : Ending) (w' : World) : Prop :=
  ∃ n A c ys s n' A' c' ys' s', e = .returned (.tuple #[.agg #[.int .i64 n, .slice A (ys : List Int).length c, .int .i64 s], .agg #[.int .i64 n', .slice A' (ys' : List Int).length c', .int .i64 s']]) ∧
    (Rd (fun i => w.heap.size ≤ i) w' A (icells ys) ∧ ys.length ≤ c ∧ c ≤ maxLen ∧ ys.length ≤ 48) ∧ (Rd (fun i => w.heap.size ≤ i) w' A' (icells ys') ∧ ys'.length ≤ c' ∧ c' ≤ maxLen ∧ ys'.length ≤ 48) ∧ Chg NoB w w'
set_option maxRecDepth 100000 in
set_option maxHeartbeats 2000000 in
theorem DrawNewerSave_any (A0 : Option Addr) (c0 : Nat) (bs : List Nat) (w : World) (h : Rd (fun i => i < w.heap.size) w A0 (bs.map fun (b : Nat) => Value.int .u8 (b : Int))) (hx : ∀ b ∈ bs, b < 256) (hc : bs.length ≤ c0) :
    Calls Try.prog 45 #[.slice A0 bs.length c0] w (SvDraw2 w) := by
  obtain ⟨hb1, hb2, hca⟩ := lit2 w 37 37 #[.int .i64 0, .slice none 0 0, .int .i64 0] #[.int .i64 0, .slice none 0 0, .int .i64 0]
  have HH1 := Lib.hid hb1
  have HH2 := Lib.hid hb2
  have HC0 := Lib.hid hca
  have hsz0 := hb2.lt
  have HX0 := Lib.hid ((h.chg hca (fun _ _ x => x)).mono (fun i _ hi => by omega) : Rd (fun i => i < ((w.alloc (.cells #[.int .i64 0, .slice none 0 0, .int .i64 0] 37)).alloc (.cells #[.int .i64 0, .slice none 0 0, .int .i64 0] 37)).heap.size) _ A0 _)
  have HZ0 := Lib.hid hsz0
  clear hca hb1 hb2 hsz0
  go_enter Try.func45, Try.ntmps45
  go_wp2_with fail
  refine (l20Open_any A0 c0 bs _ HX0.out hx hc).mono ?_
  rintro e w1 ⟨g, rfl, hg, hc1, hr1⟩
  have hgH : w.heap.size + 1 < g := by rw [hg]; exact HZ0.out
  have hgw1 := hr1.lt
  have HC1 := Lib.hid (HC0.out.trans hc1)
  have HB1 := Lib.hid (HH1.out.chg hc1 (fun x => x))
  have HB2 := Lib.hid (HH2.out.chg hc1 (fun x => x))
  clear hg hc1
  go_wp2_with fail
  refine (l20Save_any g 0 4 _ hr1 (by omega) (by omega) (by omega)).mono ?_
  rintro e w2 ⟨n, A, c, ys, s, rfl, hrd, hyc, hcm, hyl, -, -, hc2, hr2⟩
  have hg2 := hr2.lt
  have hca := (Chg.refl NoB w2).alloc (.cells #[.int .i64 n, .slice A ys.length c, .int .i64 s] 37)
  have hv3 := Blk.new w2 37 #[.int .i64 n, .slice A ys.length c, .int .i64 s]
  have hc3 : Chg NoB w _ := (show Chg NoB w w2 from HC1.out.own hc2 (by omega)).trans hca
  have hb1 := (HB1.out.chg hc2 (by omega)).chg hca (fun x => x)
  have hb2 := (HB2.out.chg hc2 (by omega)).chg hca (fun x => x)
  have hrd3 := hrd.new hca
  have hr3 := hr2.alloc (.cells #[.int .i64 n, .slice A ys.length c, .int .i64 s] 37)
  have hlt1 := HB1.out.lt
  have hsz2 := hc2.size
  go_wp2_with fail
  obtain ⟨V, hV⟩ : ∃ V, w2.heap.size = V := ⟨_, rfl⟩
  obtain ⟨w3, hw3⟩ : ∃ w3, w2.alloc (.cells #[.int .i64 n, .slice A ys.length c, .int .i64 s] 37) = w3 := ⟨_, rfl⟩
  rw [hw3] at hv3 hc3 hb1 hb2 hrd3 hr3 ⊢
  rw [hV] at hv3 hg2 hsz2 ⊢
  have HV3 := Lib.hid hv3
  have HC3 := Lib.hid hc3
  have HB3 := Lib.hid hb1
  have HB4 := Lib.hid hb2
  have HRD := Lib.hid hrd3
  have HRDg := Lib.hid (show Rd (fun i => w1.heap.size ≤ i) w3 A (icells ys) from hrd3)
  have HR3 := Lib.hid hr3
  have HCM := Lib.hid hcm
  have v0 : w3.cell? ⟨V, 0, none⟩ = some (.int .i64 n) := (hv3.cell _).trans rfl
  have v1 : w3.cell? ⟨V, 1, none⟩ = some (.slice A ys.length c) := (hv3.cell _).trans rfl
  have v2 : w3.cell? ⟨V, 2, none⟩ = some (.int .i64 s) := (hv3.cell _).trans rfl
  have hVl := hv3.lt
  have HVL := Lib.hid hVl
  have hn1 : V ≠ w.heap.size := by omega
  have hn2 : w.heap.size ≠ V := by omega
  have hn3 : V ≠ w.heap.size + 1 := by omega
  have hn4 : w.heap.size + 1 ≠ V := by omega
  clear hV hw3 hv3 hc3 hb1 hb2 hrd3 hr3 hcm hca hc2 hr2 hrd HH1 HH2 HB1 HB2 HC0 HX0 HC1 HZ0
  go_region_held3 (fun w' => w'.cell? ⟨V, 0, none⟩ = some (.int .i64 n) ∧ w'.cell? ⟨V, 1, none⟩ = some (.slice A ys.length c) ∧ w'.cell? ⟨V, 2, none⟩ = some (.int .i64 s))
    (first | go_keep | (refine ⟨?_, ?_, ?_⟩ <;> exact ((HV3.out.chg (F := (· = g)) ((Chg.refl _ w3).drew.trans hcc) (by omega)).cell _).trans rfl))
    (first | (go_at_call 74; refine (l20Save_any g _ 4 _ HR3.out.drew (by omega) (by omega) (by omega)).mono ?_; rintro e' w5 ⟨n', A', c', ys', s', rfl, hrd', hyc', hcm', hyl', -, -, hcc, hr5⟩; have hk := (Chg.refl (· = g) w3).drew.trans hcc; have hb5 := HB3.out.chg hk (by omega); have hb6 := HB4.out.chg hk (by omega); have HK := Lib.hid hk; have HRD5 := Lib.hid hrd'; have HCM' := Lib.hid hcm'; have p0 : w5.cell? ⟨w.heap.size, 0, none⟩ = some (.int .i64 0) := (hb5.cell _).trans rfl; have p1 : w5.cell? ⟨w.heap.size, 1, none⟩ = some (.slice none 0 0) := (hb5.cell _).trans rfl; have p2 : w5.cell? ⟨w.heap.size, 2, none⟩ = some (.int .i64 0) := (hb5.cell _).trans rfl; have pf0 := hb5.frozen 0; have pf1 := hb5.frozen 1; have pf2 := hb5.frozen 2; have q0 : w5.cell? ⟨w.heap.size + 1, 0, none⟩ = some (.int .i64 0) := (hb6.cell _).trans rfl; have q1 : w5.cell? ⟨w.heap.size + 1, 1, none⟩ = some (.slice none 0 0) := (hb6.cell _).trans rfl; have q2 : w5.cell? ⟨w.heap.size + 1, 2, none⟩ = some (.int .i64 0) := (hb6.cell _).trans rfl; have qf0 := hb6.frozen 0; have qf1 := hb6.frozen 1; have qf2 := hb6.frozen 2; clear hk hrd' hcm' hb5 hb6))
  rename_i hh
  clear hh
  have hcs := chg3 (F := fun i => i = w.heap.size ∨ i = w.heap.size + 1) (a := .int .i64 n') (b := .slice A' ys'.length c') (c := .int .i64 s') (chg3 (F := fun i => i = w.heap.size ∨ i = w.heap.size + 1) (a := .int .i64 n) (b := .slice A ys.length c) (c := .int .i64 s) (Chg.refl _ w5) (.inl (.inl rfl))) (.inl (.inr rfl))
  have HCS := Lib.hid hcs
  have HLT := Lib.hid (show w3.heap.size ≤ w5.heap.size from HK.out.size)
  clear hcs hcc v0 v1 v2
  go_wp2_with fail
  (try simp only [Exit.inBlock, Exit.then])
  refine bodyPost_ret (v := .tuple #[.agg #[.int .i64 n, .slice A ys.length c, .int .i64 s], .agg #[.int .i64 n', .slice A' ys'.length c', .int .i64 s']]) (by simp [results, Try.results45, go_sem, *]) rfl ?_
  have hsz3 : w3.drew.heap.size = w3.heap.size := rfl
  have hVl2 := HVL.out
  refine ⟨n, A, c, ys, s, n', A', c', ys', s', rfl, ⟨?_, hyc, HCM.out, hyl⟩, ⟨?_, hyc', HCM'.out, hyl'⟩, ?_⟩
  · exact ((HRDg.out.chg HK.out (fun i h1 h2 => by omega)).chg HCS.out (fun i h1 h2 => by omega)).mono (fun i _ h => by omega)
  · exact (HRD5.out.chg HCS.out (fun i h1 h2 => by omega)).mono (fun i _ h => by omega)
  · exact (HC3.out.own HK.out (by omega)).trans' HCS.out (fun i hi => .inr (by omega))
theorem NewerIs.cases {p q : LdA} {X : List (List Int)} {N : Int} {b : Bool} (h : NewerIs p q X N b) : ∃ X1 b1 X2 b2, LoadIs p.n p.xs p.s X1 b1 ∧ LoadIs q.n q.xs q.s X2 b2 ∧
    ((b1 = false ∧ b2 = false ∧ N = -1 ∧ b = false) ∨ (b = true ∧ tabOk X ∧ ((b1 = true ∧ b2 = false ∧ p.n ≤ N) ∨ (b1 = false ∧ b2 = true ∧ q.n ≤ N) ∨ (b1 = true ∧ b2 = true ∧ p.n ≤ N ∧ q.n ≤ N)))) := by
  obtain ⟨X1, b1, X2, b2, h1, h2, ha, hb, hc⟩ := h
  refine ⟨X1, b1, X2, b2, h1, h2, ?_⟩
  have ok : ∀ {n s : Int} {xs : List Int} {X : List (List Int)}, LoadIs n xs s X true → tabOk X := fun {n s xs X} h => by
    by_cases hl : loadArgs n xs s
    · rw [(h.1 hl).1]; exact hl.2.2.2.1
    · have := (h.2 hl).2; cases this
  cases b1 <;> cases b2
  · obtain ⟨-, e2, e3⟩ := hc rfl rfl
    exact .inl ⟨rfl, rfl, e2, e3⟩
  · obtain ⟨e1, e2, e3⟩ := hb (fun hh => by cases hh.1) rfl
    exact .inr ⟨e3, by rw [e1]; exact ok h2, .inr (.inl ⟨rfl, rfl, by omega⟩)⟩
  · obtain ⟨e1, e2, e3⟩ := ha rfl (.inl rfl)
    exact .inr ⟨e3, by rw [e1]; exact ok h1, .inl ⟨rfl, rfl, by omega⟩⟩
  · by_cases hq : q.n ≤ p.n
    · obtain ⟨e1, e2, e3⟩ := ha rfl (.inr hq)
      exact .inr ⟨e3, by rw [e1]; exact ok h1, .inr (.inr ⟨rfl, rfl, by omega, by omega⟩)⟩
    · obtain ⟨e1, e2, e3⟩ := hb (fun hh => by rcases hh.2 with h' | h' <;> first | cases h' | exact hq h') rfl
      exact .inr ⟨e3, by rw [e1]; exact ok h2, .inr (.inr ⟨rfl, rfl, by omega, by omega⟩)⟩
set_option maxRecDepth 100000 in
set_option maxHeartbeats 8000000 in
theorem FnNewerSave_any (A : Option Addr) (c : Nat) (bs : List Nat) (w : World) (h : Rd (fun i => i < w.heap.size) w A (bs.map fun (b : Nat) => Value.int .u8 (b : Int))) (hx : ∀ b ∈ bs, b < 256) (hc : bs.length ≤ c) (_hm : c ≤ maxLen) :
    Calls Try.prog 11 #[.slice A bs.length c] w fun e w' => e = .returned (.bool true) ∧ Chg NoB w w' := by
  by_cases hl : 1048576 < bs.length
  · go_enter Try.func11, Try.ntmps11
    go_wp2
    go_ret
    exact ⟨rfl, Chg.refl _ _⟩
  have hl' : bs.length ≤ 1048576 := by omega
  go_enter Try.func11, Try.ntmps11
  go_wp2_with fail
  refine (DrawNewerSave_any A c bs w h hx hc).mono ?_
  rintro e w1 ⟨n, A1, c1, ys, s, n', A2, c2, ys', s', rfl, ⟨hrd, hyc, hcm, hyl⟩, ⟨hrd', hyc', hcm', hyl'⟩, hc1⟩
  have HM1 := Lib.hid (show c1 ≤ 9223372036854775807 by unfold maxLen at hcm; exact hcm)
  have HM2 := Lib.hid (show c2 ≤ 9223372036854775807 by unfold maxLen at hcm'; exact hcm')
  obtain ⟨hb1, hb2, hca⟩ := lit2 w1 37 37 #[.int .i64 n, .slice A1 ys.length c1, .int .i64 s] #[.int .i64 n', .slice A2 ys'.length c2, .int .i64 s']
  have HB1 := Lib.hid hb1
  have HB2 := Lib.hid hb2
  have HC := Lib.hid (hc1.trans hca)
  have HR1 := Lib.hid (hrd.new hca)
  have HR2 := Lib.hid (hrd'.new hca)
  clear hb1 hb2 hca hc1 hrd hrd' hcm hcm' h hx hc
  go_wp2_with fail
  refine (iNewerSave_any _ _ ⟨n, ys, s⟩ ⟨n', ys', s'⟩ A1 A2 c1 c2 _ HR1.out hyc HM1.out HR2.out hyc' HM2.out).mono ?_
  rintro e w2 ⟨A3, c3, T3, N, b, rfl, hO3, hI3, hc2⟩
  obtain ⟨X, hX⟩ : ∃ X, listsOf T3 = X := ⟨_, rfl⟩
  have hlx : T3.length = X.length := by rw [← hX, listsOf_length]
  have ht3 := hO3.reads
  have hIX := hI3.out
  rw [hX] at ht3 hIX
  rw [hlx]
  have HNI := Lib.hid hIX
  have hXB : X.length ≤ 9223372036854775807 ∧ ∀ r ∈ X, r.length ≤ 9223372036854775807 := by
    rcases hIX.from with h1 | ⟨r, b', h1, -⟩ | ⟨r, b', h1, -⟩
    · rw [h1]; simp
    · exact (load_total h1).2
    · exact (load_total h1).2
  have HXB := Lib.hid hXB
  obtain ⟨V, hV⟩ : ∃ V, w1.heap.size = V := ⟨_, rfl⟩
  have hb1 := HB1.out.chg hc2 (fun x => x)
  have hb2 := HB2.out.chg hc2 (fun x => x)
  have hca2 := (Chg.refl NoB w2).alloc (.cells #[.slice A3 X.length c3] 39)
  have hv2 := Blk.new w2 39 #[.slice A3 X.length c3]
  have HC2 := Lib.hid ((HC.out.trans hc2).trans hca2)
  have HR12 := Lib.hid ((HR1.out.new hc2).new hca2)
  have HR22 := Lib.hid ((HR2.out.new hc2).new hca2)
  have HT2 := Lib.hid (ht3.new hca2)
  have hb1' := hb1.chg hca2 (fun x => x)
  have hb2' := hb2.chg hca2 (fun x => x)
  rw [hV] at hb1' hb2' hb1 hb2 ⊢
  have p0 : (w2.alloc (.cells #[.slice A3 X.length c3] 39)).cell? ⟨V, 0, none⟩ = some (.int .i64 n) := (hb1'.cell _).trans rfl
  have p1 : (w2.alloc (.cells #[.slice A3 X.length c3] 39)).cell? ⟨V, 1, none⟩ = some (.slice A1 ys.length c1) := (hb1'.cell _).trans rfl
  have p2 : (w2.alloc (.cells #[.slice A3 X.length c3] 39)).cell? ⟨V, 2, none⟩ = some (.int .i64 s) := (hb1'.cell _).trans rfl
  have q0 : (w2.alloc (.cells #[.slice A3 X.length c3] 39)).cell? ⟨V + 1, 0, none⟩ = some (.int .i64 n') := (hb2'.cell _).trans rfl
  have q1 : (w2.alloc (.cells #[.slice A3 X.length c3] 39)).cell? ⟨V + 1, 1, none⟩ = some (.slice A2 ys'.length c2) := (hb2'.cell _).trans rfl
  have q2 : (w2.alloc (.cells #[.slice A3 X.length c3] 39)).cell? ⟨V + 1, 2, none⟩ = some (.int .i64 s') := (hb2'.cell _).trans rfl
  have HP2 := Lib.hid hb1'
  have HQ2 := Lib.hid hb2'
  have HV2 := Lib.hid hv2
  clear hc2 hO3 hI3 hX hlx ht3 hIX hXB hb1 hb2 hca2 hv2 hb1' hb2' hV HC HB1 HB2 HR1 HR2
  go_wp2_with fail
  refine (sNewerSave_any _ _ ⟨n, ys, s⟩ ⟨n', ys', s'⟩ A1 A2 c1 c2 _ HR12.out hyc HM1.out HR22.out hyc' HM2.out).mono ?_
  rintro e w3 ⟨A4, c4, T4, N', b', rfl, hO4, hI4, hc3⟩
  obtain ⟨hTT, hNN, hbb⟩ := HNI.out.det hI4.out
  subst hNN hbb
  have hl4 : T4.length = X.length := by rw [hTT, listsOf_length]
  have ht4 := hO4.reads
  rw [← hTT] at ht4
  rw [hl4]
  obtain ⟨V2, hV2⟩ : ∃ V2, w2.heap.size = V2 := ⟨_, rfl⟩
  have hca3 := (Chg.refl NoB w3).alloc (.cells #[.slice A4 X.length c4] 39)
  have hrg := hc3.trans hca3
  have hv3 := HV2.out.chg hrg (fun x => x)
  have hp3 := HP2.out.chg hrg (fun x => x)
  have hq3 := HQ2.out.chg hrg (fun x => x)
  have HC3 := Lib.hid (HC2.out.trans hrg)
  have HR13 := Lib.hid (HR12.out.new hrg)
  have HR23 := Lib.hid (HR22.out.new hrg)
  have HT3 := Lib.hid (HT2.out.new hrg)
  have HT4 := Lib.hid (ht4.new hca3)
  rw [hV2] at hv3 ⊢
  clear p0 p1 p2 q0 q1 q2
  have t0 : (w3.alloc (.cells #[.slice A4 X.length c4] 39)).cell? ⟨V2, 0, none⟩ = some (.slice A3 X.length c3) := (hv3.cell _).trans rfl
  have HV3 := Lib.hid hv3
  have HP3 := Lib.hid hp3
  have HQ3 := Lib.hid hq3
  have hNe : (N != N) = false := by simp
  have hbe : (b != b) = false := by simp
  clear hc3 hO4 hI4 hTT hl4 ht4 hV2 hca3 hrg hv3 hp3 hq3 HC2 HR12 HR22 HT2 HP2 HQ2 HV2
  go_wp2_with fail
  refine (sameTable_t _ _ A3 A4 c3 c4 X _ HT3.out HT4.out HXB.out.1 HXB.out.2).mono ?_
  rintro e w4 ⟨rfl, hc4⟩
  have HC4 := Lib.hid (HC3.out.trans hc4)
  have HR14 := Lib.hid (HR13.out.new hc4)
  have HR24 := Lib.hid (HR23.out.new hc4)
  have HT4' := Lib.hid (HT3.out.new hc4)
  have HV4 := Lib.hid (HV3.out.chg hc4 (fun x => x))
  have HP4 := Lib.hid (HP3.out.chg hc4 (fun x => x))
  have HQ4 := Lib.hid (HQ3.out.chg hc4 (fun x => x))
  have hp4 := HP4.out
  have hq4 := HQ4.out
  clear t0
  have p0 : w4.cell? ⟨V, 0, none⟩ = some (.int .i64 n) := (hp4.cell _).trans rfl
  have p1 : w4.cell? ⟨V, 1, none⟩ = some (.slice A1 ys.length c1) := (hp4.cell _).trans rfl
  have p2 : w4.cell? ⟨V, 2, none⟩ = some (.int .i64 s) := (hp4.cell _).trans rfl
  clear hc4 hp4 hq4 HC3 HR13 HR23 HT3 HT4 HV3 HP3 HQ3
  go_wp2_with fail
  refine (iLoadTable_any _ n s A1 c1 ys _ HR14.out hyc HM1.out).mono ?_
  rintro e w5 ⟨A5, c5, T5, b1, rfl, hO5, hL5, hc5⟩
  have hca5 := (Chg.refl NoB w5).alloc (.cells #[.slice A5 T5.length c5] 39)
  have hrg := hc5.trans hca5
  have HC5 := Lib.hid (HC4.out.trans hrg)
  have HR25 := Lib.hid (HR24.out.new hrg)
  have HT5 := Lib.hid (HT4'.out.new hrg)
  have HV5 := Lib.hid (HV4.out.chg hrg (fun x => x))
  have HP5 := Lib.hid (HP4.out.chg hrg (fun x => x))
  have HQ5 := Lib.hid (HQ4.out.chg hrg (fun x => x))
  have hq5 := HQ5.out
  clear p0 p1 p2
  have q0 : (w5.alloc (.cells #[.slice A5 T5.length c5] 39)).cell? ⟨V + 1, 0, none⟩ = some (.int .i64 n') := (hq5.cell _).trans rfl
  have q1 : (w5.alloc (.cells #[.slice A5 T5.length c5] 39)).cell? ⟨V + 1, 1, none⟩ = some (.slice A2 ys'.length c2) := (hq5.cell _).trans rfl
  have q2 : (w5.alloc (.cells #[.slice A5 T5.length c5] 39)).cell? ⟨V + 1, 2, none⟩ = some (.int .i64 s') := (hq5.cell _).trans rfl
  clear hc5 hca5 hrg hO5 hq5 HC4 HR14 HR24 HT4' HV4 HP4 HQ4
  go_wp2_with fail
  refine (iLoadTable_any _ n' s' A2 c2 ys' _ HR25.out hyc' HM2.out).mono ?_
  rintro e w6 ⟨A6, c6, T6, b2, rfl, hO6, hL6, hc6⟩
  have hca6 := (Chg.refl NoB w6).alloc (.cells #[.slice A6 T6.length c6] 39)
  have hrg := hc6.trans hca6
  have HC6 := Lib.hid (HC5.out.trans hrg)
  have HT6 := Lib.hid (HT5.out.new hrg)
  have HV6 := Lib.hid (HV5.out.chg hrg (fun x => x))
  have HP6 := Lib.hid (HP5.out.chg hrg (fun x => x))
  have HQ6 := Lib.hid (HQ5.out.chg hrg (fun x => x))
  have hv6 := HV6.out
  clear q0 q1 q2
  have t0 : (w6.alloc (.cells #[.slice A6 T6.length c6] 39)).cell? ⟨V2, 0, none⟩ = some (.slice A3 X.length c3) := (hv6.cell _).trans rfl
  obtain ⟨X1, b1', X2, b2', hL1, hL2, hcs⟩ := HNI.out.cases
  obtain ⟨-, e1⟩ := hL1.det hL5.out
  obtain ⟨-, e2⟩ := hL2.det hL6.out
  subst e1 e2
  clear hc6 hca6 hrg hO6 hv6 hL5 hL6 hL1 hL2 HC5 HR25 HT5 HV5 HP5 HQ5 HNI
  rcases hcs with ⟨rfl, rfl, rfl, rfl⟩ | ⟨rfl, hok, hcs⟩
  · go_wp2_with fail
    refine (alive_any _).mono ?_
    rintro e w' ⟨rfl, rfl⟩
    go_wp2
    go_ret
    exact ⟨rfl, HC6.out⟩
  have HOK := Lib.hid hok
  have HTV := Lib.hid (fun (F : Nat → Prop) (W : World) (hW : TabR F W A3 X) => (iTableValid_any _ A3 c3 X W hW).mono fun e w' ⟨b, he, hb, hc⟩ => (show e = Ending.returned (.bool true) ∧ Chg NoB W w' from ⟨by rw [he, hb.2 hok], hc⟩))
  clear hok
  rcases hcs with ⟨rfl, rfl, hp⟩ | ⟨rfl, rfl, hq⟩ | ⟨rfl, rfl, hp, hq⟩
  all_goals
    go_wp2_with fail
    refine (HTV.out _ _ HT6.out).mono ?_
    rintro e w7 ⟨rfl, hc7⟩
    have HC7 := Lib.hid (HC6.out.trans hc7)
    have hp7 := HP6.out.chg hc7 (fun x => x)
    have hq7 := HQ6.out.chg hc7 (fun x => x)
    have p0 : w7.cell? ⟨V, 0, none⟩ = some (.int .i64 n) := (hp7.cell _).trans rfl
    have p1 : w7.cell? ⟨V, 1, none⟩ = some (.slice A1 ys.length c1) := (hp7.cell _).trans rfl
    have p2 : w7.cell? ⟨V, 2, none⟩ = some (.int .i64 s) := (hp7.cell _).trans rfl
    have q0 : w7.cell? ⟨V + 1, 0, none⟩ = some (.int .i64 n') := (hq7.cell _).trans rfl
    have q1 : w7.cell? ⟨V + 1, 1, none⟩ = some (.slice A2 ys'.length c2) := (hq7.cell _).trans rfl
    have q2 : w7.cell? ⟨V + 1, 2, none⟩ = some (.int .i64 s') := (hq7.cell _).trans rfl
    clear hc7 hp7 hq7 t0
    (try simp only at hp)
    (try simp only at hq)
    go_wp2
    go_ret
    exact ⟨ret_bool (by simp <;> omega), HC7.out⟩
end Go.Proofs.Ytbgepefdfioljaa
