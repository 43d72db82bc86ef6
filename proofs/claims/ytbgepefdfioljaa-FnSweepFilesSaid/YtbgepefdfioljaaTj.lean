/- DrawLoadTable; the law FnLoadTable: the walk. -/
import Derived.Test.YtbgepefdfioljaaTi
import Derived.Test.YtbgepefdfioljaaTf
namespace Go.Proofs.Ytbgepefdfioljaa
open Go.RowKit
def SvDraw (w : World) (e : Ending) (w' : World) : Prop :=
  ∃ n A c ys s, e = .returned (.agg #[.int .i64 n, .slice A (ys : List Int).length c, .int .i64 s]) ∧ Rd (fun i => w.heap.size ≤ i) w' A (icells ys) ∧ ys.length ≤ c ∧ c ≤ maxLen ∧ ys.length ≤ 48 ∧ (0 ≤ n ∧ n ≤ 100) ∧ (-1 ≤ s ∧ s ≤ 100000) ∧ Chg NoB w w'
set_option maxRecDepth 100000 in
set_option maxHeartbeats 1000000 in
theorem DrawLoadTable_any (A0 : Option Addr) (c0 : Nat) (bs : List Nat) (w : World) (h : Rd (fun i => i < w.heap.size) w A0 (bs.map fun (b : Nat) => Value.int .u8 (b : Int))) (hx : ∀ b ∈ bs, b < 256) (hc : bs.length ≤ c0) :
    Calls Try.prog 44 #[.slice A0 bs.length c0] w (SvDraw w) := by
  have hca := (Chg.refl NoB w).alloc (.cells #[.int .i64 0, .slice none 0 0, .int .i64 0] 37)
  have HH0 := Lib.hid (Blk.new w 37 #[.int .i64 0, .slice none 0 0, .int .i64 0])
  have HC0 := Lib.hid hca
  have HX0 := Lib.hid ((h.chg hca (fun _ _ x => x)).mono (fun i _ hi => by rw [World.size_alloc]; omega) : Rd (fun i => i < (w.alloc (.cells #[.int .i64 0, .slice none 0 0, .int .i64 0] 37)).heap.size) _ A0 _)
  clear hca
  go_enter Try.func44, Try.ntmps44
  go_wp2_with fail
  refine (l20Open_any A0 c0 bs _ HX0.out hx hc).mono ?_
  rintro e w1 ⟨g, rfl, hg, hc1, hr1⟩
  have hgH : w.heap.size < g := by rw [hg, World.size_alloc]; omega
  have HC1 := Lib.hid (HC0.out.trans hc1)
  have HH1 := Lib.hid (HH0.out.chg hc1 (fun x => x))
  clear hg hc1
  go_wp2_with fail
  refine (l20Save_any g 0 2 _ hr1 (by omega) (by omega) (by omega)).mono ?_
  rintro e w2 ⟨n, A, c, ys, s, rfl, hrd, hyc, hcm, hyl, hn, hs, hc2, hr2⟩
  have hb := HH1.out.chg hc2 (by omega)
  have hlt1 := HH1.out.lt
  have HC2 := Lib.hid (show Chg NoB w w2 from HC1.out.own hc2 (by omega))
  have HRD := Lib.hid hrd
  have HCM := Lib.hid hcm
  have x0 : w2.cell? ⟨w.heap.size, 0, none⟩ = some (.int .i64 0) := (hb.cell _).trans rfl
  have f0 := hb.frozen 0
  have x1 : w2.cell? ⟨w.heap.size, 1, none⟩ = some (.slice none 0 0) := (hb.cell _).trans rfl
  have f1 := hb.frozen 1
  have x2 : w2.cell? ⟨w.heap.size, 2, none⟩ = some (.int .i64 0) := (hb.cell _).trans rfl
  have f2 := hb.frozen 2
  clear hb hc2 hrd hcm
  go_wp2_with fail
  (try simp only [Exit.inBlock, Exit.then])
  refine bodyPost_ret (v := .agg #[.int .i64 n, .slice A ys.length c, .int .i64 s]) (by simp [results, Try.results44, go_sem, *]) rfl ?_
  have hcs := chg3 (F := (· = w.heap.size)) (a := .int .i64 n) (b := .slice A ys.length c) (c := .int .i64 s) (Chg.refl (· = w.heap.size) w2) (.inl rfl)
  exact ⟨n, A, c, ys, s, rfl, (HRD.out.chg hcs (fun i h1 h2 => by omega)).mono (fun i _ h => by omega), hyc, HCM.out, hyl, hn, hs, HC2.out.own hcs (Nat.le_refl _)⟩
theorem load_none {n s : Int} {xs : List Int} (h : loadArgs n xs s) : ¬ loadArgs n xs (s + 1) := fun h' => by
  have h1 := h.2.2.2.2
  have h2 := h'.2.2.2.2
  omega
theorem save_of_load {n s : Int} {xs : List Int} (h : loadArgs n xs s) : savArgs (chunks xs) n ∧ (chunks xs).flatten = xs ∧ saveSum n (chunks xs).flatten = s := by
  have h1 := chunks_flat h.1
  exact ⟨⟨h.2.2.2.1, h.2.1, h.2.2.1⟩, h1, by rw [h1]; exact h.2.2.2.2⟩
set_option maxRecDepth 100000 in
set_option maxHeartbeats 4000000 in
theorem FnLoadTable_any (A : Option Addr) (c : Nat) (bs : List Nat) (w : World) (h : Rd (fun i => i < w.heap.size) w A (bs.map fun (b : Nat) => Value.int .u8 (b : Int))) (hx : ∀ b ∈ bs, b < 256) (hc : bs.length ≤ c) (_hm : c ≤ maxLen) :
    Calls Try.prog 10 #[.slice A bs.length c] w fun e w' => e = .returned (.bool true) ∧ Chg NoB w w' := by
  by_cases hl : 1048576 < bs.length
  · go_enter Try.func10, Try.ntmps10
    go_wp2
    go_ret
    exact ⟨rfl, Chg.refl _ _⟩
  have hl' : bs.length ≤ 1048576 := by omega
  go_enter Try.func10, Try.ntmps10
  go_wp2_with fail
  refine (DrawLoadTable_any A c bs w h hx hc).mono ?_
  rintro e w1 ⟨n, A1, c1, ys, s, rfl, hrd, hyc, hcm, hyl, hn, hs, hc1⟩
  have hcm' : c1 ≤ 9223372036854775807 := by unfold maxLen at hcm; exact hcm
  have hca := (Chg.refl NoB w1).alloc (.cells #[.int .i64 n, .slice A1 ys.length c1, .int .i64 s] 37)
  have HB := Lib.hid (Blk.new w1 37 #[.int .i64 n, .slice A1 ys.length c1, .int .i64 s])
  have HC := Lib.hid (hc1.alloc (.cells #[.int .i64 n, .slice A1 ys.length c1, .int .i64 s] 37))
  have HR := Lib.hid (hrd.new hca)
  have HCM := Lib.hid hcm'
  clear hca hc1 hrd hcm hcm' h hx hc
  go_wp2_with fail
  refine (iLoadTable_any _ n s A1 c1 ys _ HR.out hyc HCM.out).mono ?_
  rintro e w2 ⟨A2, c2, T2, b2, rfl, hO2, hL2, hc2⟩
  obtain ⟨X, hX⟩ : ∃ X, listsOf T2 = X := ⟨_, rfl⟩
  have hlx : T2.length = X.length := by rw [← hX, listsOf_length]
  have ht2 := hO2.reads
  have hLX := hL2.out
  rw [hX] at ht2 hLX
  rw [hlx]
  have HLI := Lib.hid hLX
  have HXB := Lib.hid (load_total hLX)
  have hca2 := (Chg.refl NoB w2).alloc (.cells #[.slice A2 X.length c2] 39)
  have HB2 := Lib.hid ((HB.out.chg hc2 (fun x => x)).chg hca2 (fun x => x))
  have HC2 := Lib.hid ((HC.out.trans hc2).trans hca2)
  have HR2 := Lib.hid ((HR.out.new hc2).new hca2)
  have HT2 := Lib.hid (ht2.new hca2)
  have HV2 := Lib.hid (Blk.new w2 39 #[.slice A2 X.length c2])
  have hb2 := HB2.out
  have s0 : (w2.alloc (.cells #[.slice A2 X.length c2] 39)).cell? ⟨w1.heap.size, 0, none⟩ = some (.int .i64 n) := (hb2.cell _).trans rfl
  have s1 : (w2.alloc (.cells #[.slice A2 X.length c2] 39)).cell? ⟨w1.heap.size, 1, none⟩ = some (.slice A1 ys.length c1) := (hb2.cell _).trans rfl
  have s2 : (w2.alloc (.cells #[.slice A2 X.length c2] 39)).cell? ⟨w1.heap.size, 2, none⟩ = some (.int .i64 s) := (hb2.cell _).trans rfl
  clear hb2 hc2 hca2 hO2 hL2 hX hlx ht2 hLX
  go_wp2_with fail
  refine (sLoadTable_any _ n s A1 c1 ys _ HR2.out hyc HCM.out).mono ?_
  rintro e w3 ⟨A3, c3, T3, b3, rfl, hO3, hL3, hc3⟩
  obtain ⟨hTT, hbb⟩ := HLI.out.det hL3.out
  subst hbb
  have hl3 : T3.length = X.length := by rw [hTT, listsOf_length]
  have ht3 := hO3.reads
  rw [← hTT] at ht3
  rw [hl3]
  have hca3 := (Chg.refl NoB w3).alloc (.cells #[.slice A3 X.length c3] 39)
  have HC3 := Lib.hid ((HC2.out.trans hc3).trans hca3)
  have HTB := Lib.hid (ht3.new hca3)
  have HTA := Lib.hid ((HT2.out.new hc3).new hca3)
  have HR3 := Lib.hid ((HR2.out.new hc3).new hca3)
  have HV3 := Lib.hid ((HV2.out.chg hc3 (fun x => x)).chg hca3 (fun x => x))
  have HS3 := Lib.hid ((HB2.out.chg hc3 (fun x => x)).chg hca3 (fun x => x))
  clear s0 s1 s2
  have hv3 := HV3.out
  have t0 : (w3.alloc (.cells #[.slice A3 X.length c3] 39)).cell? ⟨w2.heap.size, 0, none⟩ = some (.slice A2 X.length c2) := (hv3.cell _).trans rfl
  have hbeq : (b2 != b2) = false := by simp
  clear hc3 hca3 hO3 hL3 hTT hl3 ht3 hv3 HT2 HB2 HR2 HV2 HB
  go_wp2_with fail
  refine (sameTable_t _ _ A2 A3 c2 c3 X _ HTA.out HTB.out HXB.out.2.1 HXB.out.2.2).mono ?_
  rintro e w4 ⟨rfl, hc4⟩
  have HC4 := Lib.hid (HC3.out.trans hc4)
  have HT4 := Lib.hid (HTA.out.new hc4)
  have HR4 := Lib.hid (HR3.out.new hc4)
  have hv4 := HV3.out.chg hc4 (fun x => x)
  have hs4 := HS3.out.chg hc4 (fun x => x)
  have HV4 := Lib.hid hv4
  have HS4 := Lib.hid hs4
  clear t0
  obtain ⟨V, hV⟩ : ∃ V, w1.heap.size = V := ⟨_, rfl⟩
  obtain ⟨V2, hV2⟩ : ∃ V2, w2.heap.size = V2 := ⟨_, rfl⟩
  rw [hV] at HS4 hs4 ⊢
  rw [hV2] at HV4 hv4 ⊢
  have t0 : w4.cell? ⟨V2, 0, none⟩ = some (.slice A2 X.length c2) := (hv4.cell _).trans rfl
  have s0 : w4.cell? ⟨V, 0, none⟩ = some (.int .i64 n) := (hs4.cell _).trans rfl
  have s1 : w4.cell? ⟨V, 1, none⟩ = some (.slice A1 ys.length c1) := (hs4.cell _).trans rfl
  have s2 : w4.cell? ⟨V, 2, none⟩ = some (.int .i64 s) := (hs4.cell _).trans rfl
  clear hc4 hv4 hs4 hV hV2 HC3 HTA HTB HR3 HV3 HS3 HC HR HC2
  by_cases hla : loadArgs n ys s
  case neg =>
    obtain ⟨rfl, rfl⟩ := HLI.out.2 hla
    clear hla
    simp only [List.length_nil] at t0 ⊢
    go_wp2_with fail
    refine (sameTable_t (fun _ => True) (fun _ => True) A2 none c2 0 [] _ (fun k hk => absurd hk (by simp)) (fun k hk => absurd hk (by simp)) (by simp) (by simp)).mono ?_
    rintro e w5 ⟨rfl, hc5⟩
    have HC5 := Lib.hid (HC4.out.trans hc5)
    clear hc5
    go_wp2_with fail
    refine (alive_any _).mono ?_
    rintro e w' ⟨rfl, rfl⟩
    go_wp2
    go_ret
    exact ⟨rfl, HC5.out⟩
  obtain ⟨rfl, rfl⟩ := HLI.out.1 hla
  have HLN := Lib.hid (load_none hla)
  have HSV := Lib.hid (save_of_load hla)
  clear hla
  have hcy : ∃ cy, chunks ys = cy := ⟨_, rfl⟩
  go_wp2_with fail
  refine (iLoadTable_any _ n (s + 1) A1 c1 ys _ HR4.out hyc HCM.out).mono ?_
  rintro e w5 ⟨A5, c5, T5, b5, rfl, hO5, hL5, hc5⟩
  obtain ⟨hT5, rfl⟩ := hL5.out.2 HLN.out
  have hl5 : T5.length = 0 := by rw [← listsOf_length, hT5]; rfl
  rw [hl5]
  have hca5 := (Chg.refl NoB w5).alloc (.cells #[.slice A5 0 c5] 39)
  have hrg := hc5.trans hca5
  have HC5 := Lib.hid (HC4.out.trans hrg)
  have HT5 := Lib.hid (HT4.out.new hrg)
  have HR5 := Lib.hid (HR4.out.new hrg)
  have hv5 := HV4.out.chg hrg (fun x => x)
  have hs5 := HS4.out.chg hrg (fun x => x)
  clear t0 s0 s1 s2 hcy
  go_wp2_with fail
  obtain ⟨w6, hw6⟩ : ∃ w6, w5.alloc (.cells #[.slice A5 0 c5] 39) = w6 := ⟨_, rfl⟩
  rw [hw6] at HC5 HT5 HR5 hv5 hs5 ⊢
  have HV6 := Lib.hid hv5
  have HS6 := Lib.hid hs5
  have t0 : w6.cell? ⟨V2, 0, none⟩ = some (.slice A2 (chunks ys).length c2) := (hv5.cell _).trans rfl
  have s0 : w6.cell? ⟨V, 0, none⟩ = some (.int .i64 n) := (hs5.cell _).trans rfl
  have s1 : w6.cell? ⟨V, 1, none⟩ = some (.slice A1 ys.length c1) := (hs5.cell _).trans rfl
  have s2 : w6.cell? ⟨V, 2, none⟩ = some (.int .i64 s) := (hs5.cell _).trans rfl
  clear hc5 hO5 hL5 hT5 hl5 hca5 hrg hw6 hv5 hs5 HV4 HS4 HT4 HR4 HC4
  go_region_held3 (fun w' => w'.cell? ⟨V2, 0, none⟩ = some (.slice A2 (chunks ys).length c2) ∧ w'.cell? ⟨V, 0, none⟩ = some (.int .i64 n) ∧ w'.cell? ⟨V, 1, none⟩ = some (.slice A1 ys.length c1) ∧ w'.cell? ⟨V, 2, none⟩ = some (.int .i64 s))
    (first | go_keep | (refine ⟨?_, ?_, ?_, ?_⟩ <;> first | exact ((HV6.out.chg (F := NoB) (by first | exact (Chg.refl NoB w6).drew.trans hcc | exact ((Chg.refl NoB w6).drew.trans HK1.out).trans hcc) (fun x => x)).cell _).trans rfl | exact ((HS6.out.chg (F := NoB) (by first | exact (Chg.refl NoB w6).drew.trans hcc | exact ((Chg.refl NoB w6).drew.trans HK1.out).trans hcc) (fun x => x)).cell _).trans rfl))
    (first
      | (go_at_call 22; refine (iSaveTable_any _ A2 c2 (chunks ys) n _ (HT5.out.new (Chg.refl NoB w6).drew)).mono ?_; rintro e' w7 ⟨N7, A7, c7, ys7, S7, rfl, ho7, hcm7, hI7, hcc⟩; obtain ⟨e1, e2, e3⟩ := hI7.out.1 HSV.out.1; rw [HSV.out.2.2] at e3; rw [HSV.out.2.1] at e2; subst e1 e2 e3; have HK1 := Lib.hid hcc; have HO7 := Lib.hid ho7.rd; clear ho7 hcm7 hI7)
      | (go_at_call 34; refine (sameSave_t _ _ N7 S7 A7 A1 c7 c1 ys7 _ HO7.out ((HR5.out.new (Chg.refl NoB w6).drew).new HK1.out) (by omega)).mono ?_; rintro e' w8 ⟨rfl, hcc⟩))
  have HC8 := Lib.hid (HC5.out.trans (((Chg.refl NoB w6).drew.trans HK1.out).trans hcc))
  clear hcc
  go_wp2
  go_ret
  exact ⟨rfl, HC8.out⟩
end Go.Proofs.Ytbgepefdfioljaa
