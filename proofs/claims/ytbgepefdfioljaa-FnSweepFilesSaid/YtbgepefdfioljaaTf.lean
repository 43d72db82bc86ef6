/- The law FnSaveTable: the walk. -/
import Derived.Test.YtbgepefdfioljaaTg
import Derived.Test.YtbgepefdfioljaaTv
import Derived.Test.YtbgepefdfioljaaTz
import Derived.Deep.RegionHeld3
namespace Go.Proofs.Ytbgepefdfioljaa
open Go.RowKit
theorem chunks_of_flat {X : List (List Int)} (h : tabOk X) : chunks X.flatten = X := by
  refine List.ext_getElem (by rw [chunks_len, h.1]) fun f h1 h2 => ?_
  rw [chunks_get]
  have hl := flat_take_len h f (by have := h.1; omega)
  have h6 : X[f].length = 6 := (h.2 f h2).1
  unfold chunk
  have e : X.flatten = (X.take f).flatten ++ (X[f] ++ (X.drop (f + 1)).flatten) := by
    rw [← List.flatten_cons, ← List.drop_eq_getElem_cons h2, ← List.flatten_append, List.take_append_drop]
  rw [e, ← hl, List.drop_left, ← h6, List.take_left]
theorem load_of_save {X : List (List Int)} {n : Int} (h : savArgs X n) : loadArgs n X.flatten (saveSum n X.flatten) :=
  ⟨flat_len h.1, h.2.1, h.2.2, by rw [chunks_of_flat h.1]; exact h.1, rfl⟩
set_option maxRecDepth 100000 in
set_option maxHeartbeats 4000000 in
theorem FnSaveTable_any (A : Option Addr) (c : Nat) (bs : List Nat) (w : World) (h : Rd (fun i => i < w.heap.size) w A (bs.map fun (b : Nat) => Value.int .u8 (b : Int))) (hx : ∀ b ∈ bs, b < 256) (hc : bs.length ≤ c) (_hm : c ≤ maxLen) :
    Calls Try.prog 7 #[.slice A bs.length c] w fun e w' => e = .returned (.bool true) ∧ Chg NoB w w' := by
  by_cases hl : 1048576 < bs.length
  · go_enter Try.func7, Try.ntmps7
    go_wp2
    go_ret
    exact ⟨rfl, Chg.refl _ _⟩
  have hl' : bs.length ≤ 1048576 := by omega
  go_enter Try.func7, Try.ntmps7
  go_wp2_with fail
  refine (DrawSaveTable_any A c bs w h hx hc).mono ?_
  rintro e w1 ⟨v, N, rfl, ⟨A1, c1, X, rfl, ht, hl8, hl6, -⟩, hc1⟩
  have HT := Lib.hid (ht.new ((Chg.refl NoB w1).alloc (.cells #[.slice A1 X.length c1] 39)))
  have HC := Lib.hid (hc1.alloc (.cells #[.slice A1 X.length c1] 39))
  have HB := Lib.hid (Blk.new w1 39 #[.slice A1 X.length c1])
  have HX8 := Lib.hid hl8
  have HX6 := Lib.hid hl6
  have HXL := Lib.hid (show X.length ≤ 9223372036854775807 by omega)
  have HXR := Lib.hid (show ∀ r ∈ X, r.length ≤ 9223372036854775807 from fun r hr => by have := hl6 r hr; omega)
  clear ht hc1 hl6 h hx hc
  go_wp2_with fail
  refine (iSaveTable_any _ A1 c1 X N _ HT.out).mono ?_
  rintro e w2 ⟨N1, A2, c2, ys, S, rfl, ho2, hcm2, hI, hc2⟩
  have hca := (Chg.refl NoB w2).alloc (.cells #[.int .i64 N1, .slice A2 ys.length c2, .int .i64 S] 37)
  have hbs := Blk.new w2 37 #[.int .i64 N1, .slice A2 ys.length c2, .int .i64 S]
  have hc3 := HC.out.trans (hc2.trans hca)
  have ht3 := HT.out.new (hc2.trans hca)
  have hb3 := HB.out.chg (hc2.trans hca) (fun x => x)
  have hO := ho2.new hca
  have HCM := Lib.hid hcm2
  have HYC := Lib.hid ho2.1
  have hyl : ys.length ≤ 48 := by
    by_cases ha : savArgs X N
    · rw [(hI.out.1 ha).2.1, flat_len ha.1]; omega
    · rw [(hI.out.2 ha).2.1]; simp
  go_wp2_with fail
  obtain ⟨V, hV⟩ : ∃ V, w1.heap.size = V := ⟨_, rfl⟩
  obtain ⟨V2, hV2⟩ : ∃ V2, w2.heap.size = V2 := ⟨_, rfl⟩
  obtain ⟨w3, hw3⟩ : ∃ w3, w2.alloc (.cells #[.int .i64 N1, .slice A2 ys.length c2, .int .i64 S] 37) = w3 := ⟨_, rfl⟩
  rw [hV] at hb3 ⊢
  rw [hV2] at hbs ⊢
  rw [hw3] at hc3 ht3 hb3 hO hbs ⊢
  have HC3 := Lib.hid hc3
  have HT3 := Lib.hid ht3
  have HB3 := Lib.hid hb3
  have HBS := Lib.hid hbs
  have HO := Lib.hid hO.rd
  have t0 : w3.cell? ⟨V, 0, none⟩ = some (.slice A1 X.length c1) := (hb3.cell _).trans rfl
  have s0 : w3.cell? ⟨V2, 0, none⟩ = some (.int .i64 N1) := (hbs.cell _).trans rfl
  have s1 : w3.cell? ⟨V2, 1, none⟩ = some (.slice A2 ys.length c2) := (hbs.cell _).trans rfl
  have s2 : w3.cell? ⟨V2, 2, none⟩ = some (.int .i64 S) := (hbs.cell _).trans rfl
  clear hV hV2 hw3 hca hc2 ho2 hc3 ht3 hb3 hO hbs HT HC HB hcm2
  go_region_held3 (fun w' => w'.cell? ⟨V, 0, none⟩ = some (.slice A1 X.length c1) ∧ w'.cell? ⟨V2, 0, none⟩ = some (.int .i64 N1) ∧ w'.cell? ⟨V2, 1, none⟩ = some (.slice A2 ys.length c2) ∧ w'.cell? ⟨V2, 2, none⟩ = some (.int .i64 S))
    (first | go_keep | (refine ⟨?_, ?_, ?_, ?_⟩ <;> first | exact ((HB3.out.chg (F := NoB) (by first | exact (Chg.refl NoB w3).drew.trans hcc | exact ((Chg.refl NoB w3).drew.trans HK1.out).trans hcc) (fun x => x)).cell _).trans rfl | exact ((HBS.out.chg (F := NoB) (by first | exact (Chg.refl NoB w3).drew.trans hcc | exact ((Chg.refl NoB w3).drew.trans HK1.out).trans hcc) (fun x => x)).cell _).trans rfl))
    (first
      | (go_at_call 20; refine (sSaveTable_any _ A1 c1 X N _ (HT3.out.new (Chg.refl NoB w3).drew) HXL.out HXR.out).mono ?_; rintro e' w4 ⟨N4, A4, c4, ys4, S4, rfl, ho4, hcm4, hI4, hcc⟩; obtain ⟨e1, e2, e3⟩ := hI.out.det hI4.out; subst e1 e2 e3; have HK1 := Lib.hid hcc; have HO4 := Lib.hid ho4.rd; clear ho4 hcm4 hI4)
      | (go_at_call 34; refine (sameSave_t _ _ N1 S A2 A4 c2 c4 ys _ ((HO.out.new (Chg.refl NoB w3).drew).new HK1.out) HO4.out (by omega)).mono ?_; rintro e' w5 ⟨rfl, hcc⟩))
  have hrg : Chg NoB w3 w5 := ((Chg.refl NoB w3).drew.trans HK1.out).trans hcc
  have HC5 := Lib.hid (HC3.out.trans hrg)
  have HT5 := Lib.hid (HT3.out.new hrg)
  have HO5 := Lib.hid (HO.out.new hrg)
  have hb5 := HB3.out.chg hrg (fun x => x)
  have hs5 := HBS.out.chg hrg (fun x => x)
  have HB5 := Lib.hid hb5
  have HS5 := Lib.hid hs5
  clear t0 s0 s1 s2
  have t0 : w5.cell? ⟨V, 0, none⟩ = some (.slice A1 X.length c1) := (hb5.cell _).trans rfl
  have s0 : w5.cell? ⟨V2, 0, none⟩ = some (.int .i64 N1) := (hs5.cell _).trans rfl
  have s1 : w5.cell? ⟨V2, 1, none⟩ = some (.slice A2 ys.length c2) := (hs5.cell _).trans rfl
  have s2 : w5.cell? ⟨V2, 2, none⟩ = some (.int .i64 S) := (hs5.cell _).trans rfl
  clear hb5 hs5 hrg hcc
  by_cases ha : savArgs X N
  case neg =>
    obtain ⟨rfl, rfl, rfl⟩ := hI.out.2 ha
    have HA := Lib.hid ha
    clear ha
    simp only [List.length_nil] at s1 HO5 ⊢
    go_wp2_with fail
    refine (sameSave_t (fun _ => True) (fun _ => True) 0 0 A2 none c2 0 [] _ (Rd.nil _ _ _) (Rd.nil _ _ _) (by simp)).mono ?_
    rintro e w6 ⟨rfl, hc6⟩
    have HC6 := Lib.hid (HC5.out.trans hc6)
    clear hc6
    go_wp2_with fail
    refine (alive_any _).mono ?_
    rintro e w' ⟨rfl, rfl⟩
    go_wp2
    go_ret
    exact ⟨rfl, HC6.out⟩
  obtain ⟨rfl, hys, hS⟩ := hI.out.1 ha
  have h48 : ys.length = 48 := by rw [hys, flat_len ha.1]
  have h48' : ((ys.length : Int) == 0) = false := by rw [beq_eq_false_iff_ne]; omega
  have HLA := Lib.hid (show loadArgs N1 ys S from by rw [hys, hS]; exact load_of_save ha)
  have HCF := Lib.hid (show chunks ys = X from by rw [hys]; exact chunks_of_flat ha.1)
  have hN : (N1 == N1) = true := by simp
  clear hys hS h48 ha hI
  go_wp2_with fail
  refine (iLoadTable_any _ N1 S A2 c2 ys _ HO5.out HYC.out (by have := HCM.out; unfold maxLen at this; omega)).mono ?_
  rintro e w6 ⟨A6, c6, T, b, rfl, hO6, hL6, hc6⟩
  obtain ⟨hTX, rfl⟩ := hL6.out.1 HLA.out
  rw [HCF.out] at hTX
  have hTl : T.length = X.length := by rw [← listsOf_length, hTX]
  have hr6 := hO6.reads
  rw [hTX] at hr6
  rw [hTl]
  have hca6 := (Chg.refl NoB w6).alloc (.cells #[.slice A6 X.length c6] 39)
  have HC6 := Lib.hid ((HC5.out.trans hc6).alloc (.cells #[.slice A6 X.length c6] 39))
  have HR6 := Lib.hid (hr6.new hca6)
  have HT6 := Lib.hid ((HT5.out.new hc6).new hca6)
  have z0 := hca6.cell (hc6.cell t0 (fun x => x)) (fun x => x)
  have y0 := hca6.cell (hc6.cell s0 (fun x => x)) (fun x => x)
  have HS6 := Lib.hid ((HS5.out.chg hc6 (fun x => x)).chg hca6 (fun x => x))
  clear hc6 hO6 hL6 hTX hTl hr6 hca6 t0 s0 s1 s2
  go_wp2_with fail
  refine (sameTable_t _ _ A6 A1 c6 c1 X _ HR6.out HT6.out HXL.out HXR.out).mono ?_
  rintro e w7 ⟨rfl, hc7⟩
  have HC7 := Lib.hid (HC6.out.trans hc7)
  have x0 := hc7.cell y0 (fun x => x)
  clear hc7 z0 y0
  go_wp2
  go_ret
  exact ⟨rfl, HC7.out⟩
end Go.Proofs.Ytbgepefdfioljaa
