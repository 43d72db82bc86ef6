/- TablePut of the program, where it takes the page. -/
import Derived.Test.YtpiojofmflfkkaaCb
import Derived.Test.YtpiojofmflfkkaaMg
namespace Go.Proofs.Ytpiojofmflfkkaa
open Go.RowKit
def PutP (w : World) (X : List (List Int)) (f p : Nat) (v : Int) (e : Ending) (w' : World) : Prop :=
  ∃ g T, e = .returned (.tuple #[.agg #[.slice (some ⟨g, 0, none⟩) 8 8], .bool true]) ∧ listsOf T = tput X f p v ∧ Chg NoB w w' ∧ TabO w.heap.size w'.heap.size w' (some ⟨g, 0, none⟩) 8 T
set_option maxRecDepth 100000 in
set_option maxHeartbeats 2000000 in
theorem iTablePut_any (F : Nat → Prop) (A : Option Addr) (c : Nat) (X : List (List Int)) (w : World) (h : TabR F w A X) (hX : tabOk X) (f p : Nat) (v : Int) (hf : f < 8) (hp : p < 6) (hv : 0 ≤ v ∧ v ≤ 47) (hn : ∀ f' p', f' < 8 → p' < 6 → tget X f' p' ≠ v) :
    Calls Try.prog 90 #[.agg #[.slice A X.length c], .int .i64 f, .int .i64 p, .int .i64 v] w (PutP w X f p v) := by
  obtain ⟨hb1, hb2, hcb⟩ := lit2 w 31 31 #[.slice A X.length c] #[.slice none 0 0]
  have HB1 := Lib.hid hb1
  have HB2 := Lib.hid hb2
  have HC0 := Lib.hid hcb
  have HT0 := Lib.hid h.lt
  have HX := Lib.hid hX
  have HL8 := Lib.hid hX.1
  have HNV := Lib.hid hn
  have HVR := Lib.hid hv
  have hv0 := hv.1
  have hv1 := hv.2
  have HF := Lib.hid hf
  have HP := Lib.hid hp
  have i0 : (0 : Int) ≤ (f : Int) := Int.natCast_nonneg _
  have i1 : (f : Int) < 8 := by omega
  have i2 : ¬ ((f : Int) < 0) := by omega
  have i3 : ¬ ((8 : Int) ≤ (f : Int)) := by omega
  have j0 : (0 : Int) ≤ (p : Int) := Int.natCast_nonneg _
  have j1 : (p : Int) < 6 := by omega
  have j2 : ¬ ((p : Int) < 0) := by omega
  have j3 : ¬ ((5 : Int) < (p : Int)) := by omega
  have HTG := Lib.hid (tabF_tget hX)
  clear h hb1 hb2 hcb hX hn hv hf hp
  go_enter Try.func90, Try.ntmps90
  go_wp2_with fail
  refine (iTableValid_any _ A c X _ (HT0.out.new HC0.out)).mono ?_
  rintro e w1 ⟨r, rfl, hr, hc1⟩
  obtain rfl : r = true := hr.2 HX.out
  have HC1 := Lib.hid (HC0.out.trans hc1)
  have hb1 := HB1.out.chg hc1 (fun x => x)
  have x0 : w1.cell? ⟨w.heap.size, 0, none⟩ = some (.slice A X.length c) := (hb1.cell _).trans rfl
  have HB1' := Lib.hid hb1
  have HB2' := Lib.hid (HB2.out.chg hc1 (fun x => x))
  clear hr hb1 hc1 HB1 HB2
  go_wp2_with fail
  refine (pageNumber_t v _ (by have := HVR.out; omega)).mono ?_
  rintro e w1' ⟨rfl, rfl⟩
  go_wp2_with fail
  refine (cloneTable_any _ A c X _ (HT0.out.new HC1.out) HX.out).mono ?_
  rintro e w2 ⟨g, T, rfl, hT, hc2, hO⟩
  have HT := Lib.hid (hT.trans HTG.out.symm)
  have hca := (Chg.refl NoB w2).alloc (.cells #[.slice (some ⟨g, 0, none⟩) 8 8] 31)
  have HV0 := Lib.hid (Blk.new w2 31 #[.slice (some ⟨g, 0, none⟩) 8 8])
  have HC3 := Lib.hid ((HC1.out.trans hc2).trans hca)
  have HR3 := Lib.hid ((HB2'.out.chg hc2 (fun x => x)).chg hca (fun x => x))
  have HX3 := Lib.hid ((HB1'.out.chg hc2 (fun x => x)).chg hca (fun x => x))
  have HO3 := Lib.hid (hO.new hca)
  have HS1 := Lib.hid (show w.heap.size + 1 < w1.heap.size from HB2'.out.lt)
  have HS2 := Lib.hid hc2.size
  clear hT hO hc2 hca x0
  have x0 : (w2.alloc (.cells #[.slice (some ⟨g, 0, none⟩) 8 8] 31)).cell? ⟨w.heap.size, 0, none⟩ = some (.slice A 8 c) := (HX3.out.cell 0).trans (show some (Value.slice A X.length c) = _ by rw [HL8.out])
  go_wp2_with fail
  obtain ⟨V, hV⟩ : ∃ V, w2.heap.size = V := ⟨_, rfl⟩
  obtain ⟨w3, hw3⟩ : ∃ w3, w2.alloc (.cells #[.slice (some ⟨g, 0, none⟩) 8 8] 31) = w3 := ⟨_, rfl⟩
  have hs2 := HS2.out
  rw [hw3] at HV0 HC3 HR3 HX3 HO3
  try rw [hw3]
  rw [hV] at HV0 hs2 HO3
  try rw [hV]
  replace HS2 := Lib.hid hs2
  clear hV hs2 hw3 x0
  go_loopw [45] (fun i wr => ∃ k : Nat, k ≤ 8 ∧ i = .int .i64 k ∧ Chg NoB w3 wr) (fun i _ => 8 - (intOf i).toNat)
  case atStart => exact ⟨0, Nat.zero_le _, rfl, Chg.refl _ _⟩
  case round =>
    obtain ⟨k, hk, rfl, hch⟩ := hrel
    have HCH := Lib.hid hch
    have k0 : (0 : Int) ≤ (k : Int) := Int.natCast_nonneg _
    by_cases hlt : k < 8
    · obtain ⟨ad, B, c', rfl, hcell, hrows⟩ := tab_row (HT0.out.new (HC3.out.trans hch)) HX.out hlt
      have HROW := Lib.hid hrows
      have k1 : (k : Int) < 8 := by omega
      clear hch hrows
      go_wp2_with fail
      go_loopw [52] (fun i wi => ∃ m : Nat, m ≤ 6 ∧ i = .int .i64 m ∧ Chg NoB wr wi) (fun i _ => 6 - (intOf i).toNat)
      case atStart => exact ⟨0, Nat.zero_le _, rfl, Chg.refl _ _⟩
      case round =>
        obtain ⟨m, hm, rfl, hci⟩ := hrel
        have HCI := Lib.hid hci
        have m0 : (0 : Int) ≤ (m : Int) := Int.natCast_nonneg _
        by_cases hlm : m < 6
        · have ck := hci.cell (HROW.out m hlm) (fun x => x)
          have hne : (tget X k m == v) = false := beq_eq_false_iff_ne.2 (HNV.out k m hlt hlm)
          have m1 : (m : Int) < 6 := by omega
          generalize tget X k m = x at ck hne
          clear hci
          go_wp2_with fail
          go_roundw
          case rel => exact ⟨m + 1, by omega, by go_num, HCI.out⟩
          case measure => simp [intOf]; omega
        · obtain rfl : m = 6 := by omega
          clear hci
          go_wp2_with fail
          go_roundw
          case rel => exact ⟨k + 1, by omega, by go_num, HCH.out.trans HCI.out⟩
          case measure => simp [intOf]; omega
    · obtain rfl : k = 8 := by omega
      have hbV := HV0.out.chg hch (fun x => x)
      have hbR := HR3.out.chg hch (fun x => x)
      have v0 : wr.cell? ⟨V, 0, none⟩ = some (.slice (some ⟨g, 0, none⟩) 8 8) := (hbV.cell _).trans rfl
      have r0 : wr.cell? ⟨w.heap.size + 1, 0, none⟩ = some (.slice none 0 0) := (hbR.cell _).trans rfl
      have rf := hbR.frozen 0
      obtain ⟨gf, cf, s1, s2, s3, s4, s5, s6, s7, s8⟩ := (HO3.out.new hch).spot HT.out HF.out HP.out
      obtain ⟨T', hO', hT'⟩ := s8 v
      have HGF := Lib.hid (And.intro s2 s3)
      have HO' := Lib.hid hO'
      have HT' := Lib.hid hT'
      have h1 := HS1.out
      have h2 := HS2.out
      have hV1 : w.heap.size + 1 ≠ gf := by omega
      have hV2 : gf ≠ w.heap.size + 1 := by omega
      have hV3 : V ≠ gf := by omega
      have hV4 : gf ≠ V := by omega
      have hcs : Chg (· = gf) wr (wr.setCell ⟨gf, p, none⟩ (.int .i64 v)) := (Chg.refl (· = gf) wr).setCell (p := ⟨gf, p, none⟩) (.inl rfl) _
      have HCS := Lib.hid hcs
      obtain ⟨old, hold⟩ : ∃ old, tget X f p = old := ⟨_, rfl⟩
      rw [hold] at s4
      have HW := Lib.hid (HC3.out.trans hch)
      have HCH' := Lib.hid hch
      clear hcs hO' hT' s8 hbV hbR hch s2 s3 hold h1 h2
      go_wp2_with fail
      (try simp only [Exit.inBlock, Exit.then])
      refine bodyPost_ret (v := .tuple #[.agg #[.slice (some ⟨g, 0, none⟩) 8 8], .bool true]) (by simp [results, Try.results90, go_sem, *]) rfl ?_
      have h1 := HS1.out
      have h2 := HS2.out
      have hg := HGF.out
      have hct : Chg (· = w.heap.size + 1) (wr.setCell ⟨gf, p, none⟩ (.int .i64 v)) ((wr.setCell ⟨gf, p, none⟩ (.int .i64 v)).setCell ⟨w.heap.size + 1, 0, none⟩ (.slice (some ⟨g, 0, none⟩) 8 8)) := (Chg.refl (· = w.heap.size + 1) _).setCell (p := ⟨w.heap.size + 1, 0, none⟩) (.inl rfl) _
      exact ⟨g, T', rfl, HT'.out, (HW.out.own HCS.out (by omega)).own hct (by omega), (HO'.out.chg hct (fun i h3 h4 h5 => by omega)).more (by omega) (by have h3 := HV0.out.lt; have h4 := HCH'.out.size; have h5 := hct.size; have h6 := HCS.out.size; omega)⟩
end Go.Proofs.Ytpiojofmflfkkaa
