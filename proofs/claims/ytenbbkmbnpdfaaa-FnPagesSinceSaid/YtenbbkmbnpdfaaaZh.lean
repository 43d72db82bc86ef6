/- PagesSince of the reference. -/
import Derived.Test.YtenbbkmbnpdfaaaZg
import Derived.Test.YtenbbkmbnpdfaaaAp
import Derived.Test.YtenbbkmbnpdfaaaRs
namespace Go.Proofs.Ytenbbkmbnpdfaaa
open Go.RowKit
/-- The facts of a region that lays anew what stands ahead of p, x, and what stands behind. -/
structure AppI (W : World) (x : Nat) (L : List Nat) (p : Nat) (m : Nat → Option Value) (w : World) : Prop where
  chg : Chg NoB W w
  o1 : m 7 = none → m 11 = none
  o2 : m 4 = none → m 7 = none
  s0 : m 4 = none → ∀ v, m 0 = some v → ∃ g0, v = .slice (some ⟨g0, 0, none⟩) 0 0 ∧ W.heap.size ≤ g0 ∧ Blk w g0 3 #[]
  s4 : m 7 = none → ∀ v, m 4 = some v → w.ownsRow W.heap.size 3 1 v p (rowc (L.take p))
  s6 : m 7 = none → ∀ v, m 6 = some v → ∃ g6, v = .slice (some ⟨g6, 0, none⟩) 1 1 ∧ W.heap.size ≤ g6 ∧ Blk w g6 3 #[.int .i64 (x : Int)]
  s7 : m 11 = none → ∀ v, m 7 = some v → w.ownsRow W.heap.size 3 1 v (p + 1) (rowc (L.take p) ++ [.int .i64 (x : Int)])
  s11 : ∀ v, m 11 = some v → w.ownsRow W.heap.size 3 1 v (p + 1 + (L.length - p)) ((rowc (L.take p) ++ [.int .i64 (x : Int)]) ++ rowc (L.drop p))
  s12 : ∀ v, m 12 = some v → m 11 = some v
section
variable {W w w' : World} {x p : Nat} {L : List Nat} {m : Nat → Option Value}
theorem upd_ne {m : Nat → Option Value} {i k : Nat} {v : Value} (h : k ≠ i) : upd m i v k = m k := by unfold upd; rw [if_neg h]
theorem upd_eq {m : Nat → Option Value} {i : Nat} {v : Value} : upd m i v i = some v := by unfold upd; rw [if_pos rfl]
theorem AppI.start (W : World) (x : Nat) (L : List Nat) (p : Nat) : AppI W x L p (fun _ => none) W.drew :=
  ⟨(Chg.refl NoB W).drew, fun _ => rfl, fun _ => rfl, fun _ _ h => by (cases h), fun _ _ h => by (cases h), fun _ _ h => by (cases h), fun _ _ h => by (cases h), fun _ h => by (cases h), fun _ h => by (cases h)⟩
theorem AppI.pure (h : AppI W x L p m w) {i : Nat} (v : Value) (h0 : i ≠ 0) (h4 : i ≠ 4) (h6 : i ≠ 6) (h7 : i ≠ 7) (h11 : i ≠ 11) (h12 : i ≠ 12) : AppI W x L p (upd m i v) w := by
  have e0 := upd_ne (m := m) (v := v) h0.symm; have e4 := upd_ne (m := m) (v := v) h4.symm; have e6 := upd_ne (m := m) (v := v) h6.symm
  have e7 := upd_ne (m := m) (v := v) h7.symm; have e11 := upd_ne (m := m) (v := v) h11.symm; have e12 := upd_ne (m := m) (v := v) h12.symm
  exact ⟨h.chg, by rw [e7, e11]; exact h.o1, by rw [e4, e7]; exact h.o2, by rw [e4, e0]; exact h.s0, by rw [e7, e4]; exact h.s4, by rw [e7, e6]; exact h.s6, by rw [e11, e7]; exact h.s7, by rw [e11]; exact h.s11, by rw [e12, e11]; exact h.s12⟩
theorem AppI.keep (h : AppI W x L p m w) (hc : Chg NoB w w') : AppI W x L p m w' :=
  ⟨h.chg.trans hc, h.o1, h.o2, fun h1 v h2 => by obtain ⟨g, a, b, c⟩ := h.s0 h1 v h2; exact ⟨g, a, b, c.chg hc (fun x => x)⟩, fun h1 v h2 => own_chg (h.s4 h1 v h2) hc (fun _ _ x => x),
    fun h1 v h2 => by obtain ⟨g, a, b, c⟩ := h.s6 h1 v h2; exact ⟨g, a, b, c.chg hc (fun x => x)⟩, fun h1 v h2 => own_chg (h.s7 h1 v h2) hc (fun _ _ x => x), fun v h2 => own_chg (h.s11 v h2) hc (fun _ _ x => x), h.s12⟩
theorem AppI.al0 (h : AppI W x L p m w) : AppI W x L p (upd m 0 (.slice (some ⟨w.heap.size, 0, none⟩) 0 0)) (w.alloc (.cells #[] 3)) := by
  have k := h.keep ((Chg.refl NoB w).alloc (.cells #[] 3))
  refine ⟨k.chg, k.o1, k.o2, fun h1 v h2 => ?_, k.s4, k.s6, k.s7, k.s11, k.s12⟩
  rw [upd_eq] at h2
  cases h2
  exact ⟨_, rfl, h.chg.size, Blk.new _ _ _⟩
theorem AppI.al6 (h : AppI W x L p m w) : AppI W x L p (upd m 6 (.slice (some ⟨w.heap.size, 0, none⟩) 1 1)) (w.alloc (.cells #[.int .i64 (x : Int)] 3)) := by
  have k := h.keep ((Chg.refl NoB w).alloc (.cells #[.int .i64 (x : Int)] 3))
  refine ⟨k.chg, k.o1, k.o2, k.s0, k.s4, fun h1 v h2 => ?_, k.s7, k.s11, k.s12⟩
  rw [upd_eq] at h2
  cases h2
  exact ⟨_, rfl, h.chg.size, Blk.new _ _ _⟩
theorem AppI.st4 (h : AppI W x L p m w) (h4 : m 4 = none) (hc : Chg NoB w w') {v : Value} (ho : w'.ownsRow W.heap.size 3 1 v p (rowc (L.take p))) : AppI W x L p (upd m 4 v) w' := by
  have k := h.keep hc
  have h7 := h.o2 h4
  have h11 := h.o1 h7
  refine ⟨k.chg, k.o1, fun _ => h7, fun h1 => (by rw [upd_eq] at h1; cases h1), fun _ u hu => (by rw [upd_eq] at hu; cases hu; exact ho), k.s6, k.s7, k.s11, k.s12⟩
theorem AppI.st7 (h : AppI W x L p m w) (h7 : m 7 = none) {v4 v : Value} (h4 : m 4 = some v4) (hg : w.grownBy w' v4.ownBlock) (ho : w'.ownsRow W.heap.size 3 1 v (p + 1) (rowc (L.take p) ++ [.int .i64 (x : Int)])) : AppI W x L p (upd m 7 v) w' := by
  have h11 := h.o1 h7
  have hc := chg_grown (h.s4 h7 v4 h4) hg h.chg (Nat.le_refl _)
  have e4 : upd m 7 v 4 = some v4 := by rw [upd_ne (by decide)]; exact h4
  refine ⟨hc, fun h1 => (by rw [upd_eq] at h1; cases h1), fun h1 => (by rw [e4] at h1; cases h1), fun h1 => (by rw [e4] at h1; cases h1), fun h1 => (by rw [upd_eq] at h1; cases h1), fun h1 => (by rw [upd_eq] at h1; cases h1), fun _ u hu => (by rw [upd_eq] at hu; cases hu; exact ho), fun u hu => ?_, h.s12⟩
  have hu' : m 11 = some u := hu
  rw [h11] at hu'; cases hu'
theorem AppI.st11 (h : AppI W x L p m w) (h11 : m 11 = none) {v7 v : Value} (h7 : m 7 = some v7) (hg : w.grownBy w' v7.ownBlock) (ho : w'.ownsRow W.heap.size 3 1 v (p + 1 + (L.length - p)) ((rowc (L.take p) ++ [.int .i64 (x : Int)]) ++ rowc (L.drop p))) : AppI W x L p (upd m 11 v) w' := by
  have hc := chg_grown (h.s7 h11 v7 h7) hg h.chg (Nat.le_refl _)
  have e7 : upd m 11 v 7 = some v7 := by rw [upd_ne (by decide)]; exact h7
  have n4 : m 4 ≠ none := fun e => by have := h.o2 e; rw [h7] at this; cases this
  refine ⟨hc, fun h1 => (by rw [e7] at h1; cases h1), fun h1 => absurd h1 n4, fun h1 => absurd h1 n4, fun h1 => (by rw [e7] at h1; cases h1), fun h1 => (by rw [e7] at h1; cases h1), fun h1 => (by rw [upd_eq] at h1; cases h1), fun u hu => (by rw [upd_eq] at hu; cases hu; exact ho), fun u hu => ?_⟩
  have hu' : m 12 = some u := hu
  have := h.s12 u hu'
  rw [h11] at this; cases this
theorem AppI.st12 (h : AppI W x L p m w) {v : Value} (h11 : m 11 = some v) : AppI W x L p (upd m 12 v) w := by
  refine ⟨h.chg, h.o1, h.o2, h.s0, h.s4, h.s6, h.s7, h.s11, fun u hu => ?_⟩
  rw [upd_eq] at hu
  cases hu
  exact h11
end
theorem RowB.rdTake {w : World} {g : Nat} {rest : List Value} {L : List Nat} (h : RowB w g rest L) (p : Nat) : Rd (· = g) w (some ⟨g, 0, none⟩) (rowc (L.take p)) := fun k v hk => by
  refine Blk.rd h k v ?_
  have e : rowc L = rowc (L.take p) ++ rowc (L.drop p) := by rw [← rowc_append, List.take_append_drop]
  rw [e, List.append_assoc, List.getElem?_append_left (List.getElem?_eq_some_iff.1 hk).1]
  exact hk
theorem RowB.rdDrop {w : World} {g : Nat} {rest : List Value} {L : List Nat} (h : RowB w g rest L) (p : Nat) (hp : p ≤ L.length) : Rd (· = g) w (some ⟨g, p, none⟩) (rowc (L.drop p)) := fun k v hk => by
  refine ⟨_, rfl, rfl, ?_⟩
  have e1 : (⟨g, p, none⟩ : Addr).add k = ⟨g, p + k, none⟩ := by unfold Addr.add; split <;> simp_all
  have e : rowc L = rowc (L.take p) ++ rowc (L.drop p) := by rw [← rowc_append, List.take_append_drop]
  have hl : (rowc (L.take p)).length = p := by rw [rowc_length, List.length_take]; omega
  rw [e1, Blk.cell h, e, List.append_assoc]
  have hk' := (List.getElem?_eq_some_iff.1 hk).1
  simp only [List.getElem?_toArray]
  rw [List.getElem?_append_right (by omega), hl, Nat.add_sub_cancel_left, List.getElem?_append_left hk']
  exact hk
theorem since_ins {D : List Bk} {s : Int} {k p : Nat} (h : sinceGood D s k = true) (hp : p ≤ (srt (stampOf D) (since D s k)).length)
    (h1 : p = 0 ∨ stampOf D ((srt (stampOf D) (since D s k)).getD (p - 1) 0) ≤ stampOf D k) (h2 : p = (srt (stampOf D) (since D s k)).length ∨ stampOf D k < stampOf D ((srt (stampOf D) (since D s k)).getD p 0)) :
    (srt (stampOf D) (since D s k)).take p ++ k :: (srt (stampOf D) (since D s k)).drop p = srt (stampOf D) (since D s (k + 1)) := by
  rw [ins_right (srt_sorted _) (fun x hx _ => Nat.le_of_lt (since_lt (srt_mem.1 hx))) hp (h1.imp id (fun h => Int.not_lt.2 h)) h2, srt_left, since_yes h]
set_option maxRecDepth 100000 in
set_option maxHeartbeats 4000000 in
theorem sPagesSince_any (F : Nat → Prop) (A : Option Addr) (c : Nat) (D : List Bk) (s : Int) (w : World) (h : DevR F w A D) (hs : Small D) (hm : D.length ≤ 1048576) :
    Calls Try.prog 42 #[.slice A D.length c, .int .i64 s] w (PsP w D s) := by
  obtain ⟨i0, hi, hz0, hz1, hz2⟩ := info_parts info_int
  have hca := (Chg.refl NoB w).alloc (.cells #[] 3)
  have HCA := Lib.hid hca
  have HB := Lib.hid (Blk.new w 3 #[])
  have HR0 := Lib.hid (show DevR (fun i => i < w.heap.size) w A D from h.lt.mono fun i _ hi => hi.2)
  have hSZ : (w.alloc (.cells #[] 3)).heap.size = w.heap.size + 1 := by simp [World.size_alloc]
  have HSZ := Lib.hid hSZ
  have HS := Lib.hid hs
  clear h hca hSZ
  by_cases hd : DvOk D
  case neg =>
    have HD := Lib.hid hd
    have hl0 := hs.1
    clear hd hs
    by_cases hl : 0 < D.length
    · have hl' : (0 : Int) < 4 * (D.length : Int) := by omega
      go_enter Try.func42, Try.ntmps42
      go_wp2_with fail
      refine wp_loop_rounds 1 ?_
      refine one_round ?_
      go_wp2_with fail
      refine (sDeviceValid_f _ A c D _ (HR0.out.new HCA.out) HS.out HD.out).mono ?_
      rintro e w1 ⟨rfl, hc1⟩
      have HC := Lib.hid (HCA.out.trans hc1)
      clear hc1
      go_wp2
      go_ret
      unfold PsP
      rw [show pagesSince D s = [] from if_neg HD.out]
      exact ⟨_, 0, rfl, OwnS.empty _ _ _ _ _ _, HC.out⟩
    · have hl' : ¬ ((0 : Int) < 4 * (D.length : Int)) := by omega
      go_enter Try.func42, Try.ntmps42
      go_wp2_with fail
      refine wp_loop_rounds 1 ?_
      refine one_round ?_
      go_wp2
      go_ret
      unfold PsP
      rw [show pagesSince D s = [] from if_neg HD.out]
      exact ⟨_, 0, rfl, OwnS.empty _ _ _ _ _ _, HCA.out⟩
  have HD := Lib.hid hd
  have h1 := hd.1.1
  have h2 := hd.1.2
  clear hd hs
  go_enter Try.func42, Try.ntmps42
  go_wp2_with fail
  go_loopw [5, 6] (fun v i wr => ∃ (k g cap : Nat) (rest : List Value), v = .slice (some ⟨g, 0, none⟩) (srt (stampOf D) (since D s k)).length cap ∧ k ≤ 4 * D.length ∧ i = .int .i64 k ∧ Chg NoB w wr ∧ w.heap.size ≤ g ∧ (srt (stampOf D) (since D s k)).length ≤ cap ∧ RowB wr g rest (srt (stampOf D) (since D s k))) (fun _ i _ => 4 * D.length - (intOf i).toNat)
  case atStart =>
    have e0 : srt (stampOf D) (since D s 0) = [] := srt_nil _
    exact ⟨0, w.heap.size, 0, [], by rw [e0]; rfl, Nat.zero_le _, rfl, HCA.out, Nat.le_refl _, by rw [e0]; exact Nat.le_refl _, by rw [e0]; exact HB.out⟩
  case round =>
    obtain ⟨k, g, cap, rest, rfl, hk, rfl, hch, hg, hcap, hbl⟩ := hrel
    have HCH := Lib.hid hch
    have HBL := Lib.hid hbl
    have HG := Lib.hid hg
    have HCAP := Lib.hid hcap
    have HGL := Lib.hid (show g < wr.heap.size from hbl.lt)
    have hll : (srt (stampOf D) (since D s k)).length ≤ k := by rw [srt_length]; exact since_len D s k
    obtain ⟨L, hL⟩ : ∃ L, srt (stampOf D) (since D s k) = L := ⟨_, rfl⟩
    have HL := Lib.hid hL
    rw [hL] at HBL HCAP hll ⊢
    have HLM := Lib.hid (show ∀ x ∈ L, x < 4 * D.length from fun x hx => by rw [← hL, srt_mem] at hx; have := since_lt hx; omega)
    clear hL hch hg hcap hbl
    by_cases hlt : k < 4 * D.length
    case neg =>
      have hlt' : ¬ ((k : Int) < 4 * (D.length : Int)) := by omega
      obtain rfl : k = 4 * D.length := by omega
      have HPS := Lib.hid (show pagesSince D s = L by rw [← HL.out]; exact if_pos HD.out)
      go_wp2
      go_ret
      unfold PsP
      rw [HPS.out]
      exact ⟨_, cap, rfl, ⟨HCAP.out, .inr ⟨g, rest, rfl, HG.out, HGL.out, HBL.out⟩⟩, HCH.out⟩
    have hi0 : (0 : Int) ≤ (k : Int) := Int.natCast_nonneg _
    have hi1 : (k : Int) < 4 * (D.length : Int) := by omega
    go_wp2_with fail
    refine (sDeviceValid_t _ A c D _ (HR0.out.new HCH.out) HD.out).mono ?_
    rintro e w1 ⟨rfl, hc1⟩
    have HC1 := Lib.hid (HCH.out.trans hc1)
    have HB1 := Lib.hid (HBL.out.chg hc1 (fun x => x))
    have HP := Lib.hid (readPage_yes HD.out hlt)
    clear hc1
    go_wp2_with fail
    refine (sReadPage_any _ A c D (k : Int) _ (HR0.out.new HC1.out) HS.out).mono ?_
    rw [HP.out]
    rintro e w2 ⟨rfl, hc2⟩
    have HC2 := Lib.hid (HC1.out.trans hc2)
    have HB2 := Lib.hid (HB1.out.chg hc2 (fun x => x))
    have HSG := Lib.hid (show sinceGood D s k = ((pgAt D k).full && decide (s < (pgAt D k).stamp)) from rfl)
    clear hc2
    cases hf : (pgAt D k).full with
    | false =>
      have HN := Lib.hid (since_no (by rw [HSG.out, hf]; rfl))
      go_wp2
      go_roundw
      case rel => exact ⟨k + 1, g, cap, rest, by rw [HN.out, HL.out], by omega, by go_num, HC2.out.alloc _, HG.out, by rw [HN.out, HL.out]; exact HCAP.out, by rw [HN.out, HL.out]; exact Blk.chg HB2.out ((Chg.refl NoB _).alloc _) (fun x => x)⟩
      case measure => simp [intOf]; omega
    | true =>
      by_cases hs : s < (pgAt D k).stamp
      case neg =>
        have HN := Lib.hid (since_no (by rw [HSG.out, hf, decide_eq_false hs]; rfl))
        have hs' : (pgAt D k).stamp ≤ s := by omega
        go_wp2
        go_roundw
        case rel => exact ⟨k + 1, g, cap, rest, by rw [HN.out, HL.out], by omega, by go_num, HC2.out.alloc _, HG.out, by rw [HN.out, HL.out]; exact HCAP.out, by rw [HN.out, HL.out]; exact Blk.chg HB2.out ((Chg.refl NoB _).alloc _) (fun x => x)⟩
        case measure => simp [intOf]; omega
      have HGD := Lib.hid (show sinceGood D s k = true by rw [HSG.out, hf, decide_eq_true hs]; rfl)
      have hs' : ¬ (pgAt D k).stamp ≤ s := by omega
      have HK := Lib.hid (show stampOf D k = (pgAt D k).stamp from rfl)
      have hca := (Chg.refl NoB w2).alloc (.cells #[.bool true, .int .i64 (pgAt D k).file, .int .i64 (pgAt D k).place, .int .i64 (pgAt D k).value, .int .i64 (pgAt D k).stamp] 60)
      have HB3 := Lib.hid (HB2.out.chg hca (fun x => x))
      have HC3 := Lib.hid (HC2.out.trans hca)
      have HX3 := Lib.hid (Blk.new w2 60 #[.bool true, .int .i64 (pgAt D k).file, .int .i64 (pgAt D k).place, .int .i64 (pgAt D k).value, .int .i64 (pgAt D k).stamp])
      clear hca hs
      go_wp2_with fail
      obtain ⟨w3, hw3⟩ : ∃ w3, w2.alloc (.cells #[.bool true, .int .i64 (pgAt D k).file, .int .i64 (pgAt D k).place, .int .i64 (pgAt D k).value, .int .i64 (pgAt D k).stamp] 60) = w3 := ⟨_, rfl⟩
      obtain ⟨P0, hP0⟩ : ∃ P0, w2.heap.size = P0 := ⟨_, rfl⟩
      rw [hw3] at HB3 HC3 HX3
      rw [hP0] at HX3
      rw [hw3, hP0]
      obtain ⟨x, hx⟩ : ∃ x, stampOf D k = x := ⟨_, rfl⟩
      have HKX := Lib.hid hx
      rw [← HK.out, hx] at HX3
      clear hw3 hP0 hx
      go_loopw [9] (fun v wr => ∃ p : Nat, v = .int .i64 (p : Int) ∧ p ≤ L.length ∧ Hid (p = L.length ∨ x < stampOf D (L.getD p 0)) ∧ Chg NoB w3 wr) (fun v _ => (intOf v).toNat)
      case atStart => exact ⟨L.length, rfl, Nat.le_refl _, Lib.hid (.inl rfl), Chg.refl _ _⟩
      case round =>
        obtain ⟨p, rfl, hp, HPX, hch⟩ := hrel
        have HC4 := Lib.hid (HC3.out.trans hch)
        have HB4 := Lib.hid (HB3.out.chg hch (fun x => x))
        have hbx := HX3.out.chg hch (fun x => x)
        have x4 := hbx.cell 4
        replace x4 := x4.trans (show _ = some (Value.int .i64 x) from rfl)
        have HH := Lib.hid hch
        clear hbx hch
        by_cases hp0 : p = 0
        · subst hp0
          have HL2 := Lib.hid (show L.take 0 ++ k :: L.drop 0 = srt (stampOf D) (since D s (k + 1)) by
            have := since_ins (p := 0) HGD.out (Nat.zero_le _) (.inl rfl) (by rw [HL.out]; rcases HPX.out with q | q; exact .inl q; rw [← HKX.out] at q; exact .inr q)
            rw [HL.out] at this; exact this)
          clear x4
          go_wp2_with fail
          have hlc : L.length ≤ cap := HCAP.out
          obtain ⟨AD, hAD⟩ : ∃ AD : Addr, AD = if cap = 0 then ⟨g, 0, none⟩ else ⟨g, 0, none⟩ := ⟨_, rfl⟩
          have HAD := Lib.hid (show Rd (· = g) wr (some AD) (rowc (L.drop 0)) from by
            rw [hAD]; split
            · rename_i hh; rw [List.drop_of_length_le (by omega)]; exact Rd.nil _ _ _
            · exact RowB.rdDrop HB4.out 0 hp)
          have HTK := Lib.hid (RowB.rdTake HB4.out 0)
          have hpc : 0 ≤ cap := by omega
          have hpl : 0 ≤ L.length := hp
          refine wp_region_rs (gl := []) (WInv := fun _ m w5 => AppI wr k L 0 m w5) (R := fun _ _ => True) (Post := PV [none, some (.slice (some ⟨g, 0, none⟩) L.length cap), some (.int .i64 ((0 : Nat) : Int)), some (.slice (some ⟨g, 0, none⟩) 0 cap), none, some (.int .i64 (k : Int)), none, none, some (.slice (some ⟨g, 0, none⟩) L.length cap), some (.int .i64 ((0 : Nat) : Int)), some (.slice (some AD) (L.length - 0) (cap - 0)), none, none]) (by kernel_rfl) (by kernel_rfl) (pv_guard (by intro p hp; cases hp)) (fun _ _ _ _ h _ _ => h) (fun _ _ _ _ h _ => h) (AppI.start _ _ _ _) ⟨?_, ?_, ?_, ?_, ?_, ?_, ?_, ?_, ?_, ?_, ?_, ?_, ?_, trivial⟩ ?_
          · rintro kc m a w5 hkc hch hm hn
            exact rg_val (v := .slice (some ⟨w5.heap.size, 0, none⟩) 0 0) (by simp [execOp, go_sem]) rfl hch.al0 trivial trivial
          · rintro kc m a w5 hkc hch hm hn
            obtain ⟨e1, -⟩ := hn
            replace e1 : a.tmps[5]?.getD undef = .slice (some ⟨g, 0, none⟩) L.length cap := e1
            exact rg_val (v := .slice (some ⟨g, 0, none⟩) L.length cap) (by simp [execOp, go_sem, e1]) rfl (hch.pure _ (by decide) (by decide) (by decide) (by decide) (by decide) (by decide)) trivial rfl
          · rintro kc m a w5 hkc hch hm hn
            obtain ⟨e1, -⟩ := hn
            replace e1 : a.tmps[9]?.getD undef = .int .i64 ((0 : Nat) : Int) := e1
            exact rg_val (v := .int .i64 ((0 : Nat) : Int)) (by simp [execOp, go_sem, e1]) rfl (hch.pure _ (by decide) (by decide) (by decide) (by decide) (by decide) (by decide)) trivial rfl
          · rintro kc m a w5 hkc hch hm hn
            obtain ⟨⟨_, e1, _, rfl⟩, ⟨_, e2, _, rfl⟩, -⟩ := hn
            exact rg_val (v := .slice (some ⟨g, 0, none⟩) 0 cap) (by simp [execOp, go_sem, e1, e2]) rfl (hch.pure _ (by decide) (by decide) (by decide) (by decide) (by decide) (by decide)) trivial rfl
          · rintro kc m a w5 hkc hch hm hn
            obtain ⟨⟨v0, e1, m0, -⟩, ⟨_, e2, _, rfl⟩, -⟩ := hn
            obtain ⟨g0, rfl, hg0, hb0⟩ := hch.s0 hm v0 m0
            obtain ⟨v', w', hr, h2, h3, _⟩ := run_append_fresh (P := Try.prog) w5 wr.heap.size 53 53 3 i0 (.int .i64 0) 1 8 Try.underlying53 hi hz0 hz1 hz2 rfl (by decide) g0 hg0 hb0 (some ⟨g, 0, none⟩) 0 cap (rowc (L.take 0)) (by rw [rowc_length, List.length_take]; omega) (HTK.out.new hch.chg) (by simp only [maxLen]; omega) (by omega) hch.chg.size
            exact rg_val (v := v') (exec_append (v := .slice (some ⟨g0, 0, none⟩) 0 0) (u := .slice (some ⟨g, 0, none⟩) 0 cap) (.tmp 59) (.tmp 62) _ rfl (by simp [go_sem, e1]) (by simp [go_sem, e2]) hr) rfl (hch.st4 hm h3 h2) trivial trivial
          · rintro kc m a w5 hkc hch hm hn
            obtain ⟨e1, -⟩ := hn
            replace e1 : a.tmps[6]?.getD undef = .int .i64 (k : Int) := e1
            exact rg_val (v := .int .i64 (k : Int)) (by simp [execOp, go_sem, e1]) rfl (hch.pure _ (by decide) (by decide) (by decide) (by decide) (by decide) (by decide)) trivial rfl
          · rintro kc m a w5 hkc hch hm hn
            obtain ⟨⟨_, e1, _, rfl⟩, -⟩ := hn
            exact rg_val (v := .slice (some ⟨w5.heap.size, 0, none⟩) 1 1) (by simp [execOp, go_sem, e1]) rfl hch.al6 trivial trivial
          · rintro kc m a w5 hkc hch hm hn
            obtain ⟨⟨v4, e1, m4, -⟩, ⟨v6, e2, m6, -⟩, -⟩ := hn
            obtain ⟨g6, rfl, hg6, hb6⟩ := hch.s6 hm v6 m6
            obtain ⟨v', w', hr, h2, h3, _⟩ := run_append_rd (P := Try.prog) w5 wr.heap.size 53 53 3 i0 (.int .i64 0) 1 8 Try.underlying53 hi hz0 hz1 hz2 rfl (by decide) v4 0 (rowc (L.take 0)) (hch.s4 hm v4 m4) (some ⟨g6, 0, none⟩) 1 1 [.int .i64 (k : Int)] rfl (Blk.rd (cs := [.int .i64 (k : Int)]) hb6) (by simp [Value.oneCell']) (by simp only [maxLen]; omega) (by omega) hch.chg.size
            exact rg_val (v := v') (exec_append (v := v4) (u := .slice (some ⟨g6, 0, none⟩) 1 1) (.tmp 63) (.tmp 65) _ rfl (by simp [go_sem, e1]) (by simp [go_sem, e2]) hr) rfl (hch.st7 hm m4 h3 h2) trivial trivial
          · rintro kc m a w5 hkc hch hm hn
            obtain ⟨e1, -⟩ := hn
            replace e1 : a.tmps[5]?.getD undef = .slice (some ⟨g, 0, none⟩) L.length cap := e1
            exact rg_val (v := .slice (some ⟨g, 0, none⟩) L.length cap) (by simp [execOp, go_sem, e1]) rfl (hch.pure _ (by decide) (by decide) (by decide) (by decide) (by decide) (by decide)) trivial rfl
          · rintro kc m a w5 hkc hch hm hn
            obtain ⟨e1, -⟩ := hn
            replace e1 : a.tmps[9]?.getD undef = .int .i64 ((0 : Nat) : Int) := e1
            exact rg_val (v := .int .i64 ((0 : Nat) : Int)) (by simp [execOp, go_sem, e1]) rfl (hch.pure _ (by decide) (by decide) (by decide) (by decide) (by decide) (by decide)) trivial rfl
          · rintro kc m a w5 hkc hch hm hn
            obtain ⟨⟨_, e1, _, rfl⟩, ⟨_, e2, _, rfl⟩, -⟩ := hn
            exact rg_val (v := .slice (some AD) (L.length - 0) (cap - 0)) (by simp [execOp, go_sem, e1, e2, hAD]) rfl (hch.pure _ (by decide) (by decide) (by decide) (by decide) (by decide) (by decide)) trivial rfl
          · rintro kc m a w5 hkc hch hm hn
            obtain ⟨⟨v7, e1, m7, -⟩, ⟨_, e2, _, rfl⟩, -⟩ := hn
            obtain ⟨v', w', hr, h2, h3, _⟩ := run_append_rd (P := Try.prog) w5 wr.heap.size 53 53 3 i0 (.int .i64 0) 1 8 Try.underlying53 hi hz0 hz1 hz2 rfl (by decide) v7 (0 + 1) (rowc (L.take 0) ++ [.int .i64 (k : Int)]) (hch.s7 hm v7 m7) (some AD) (L.length - 0) (cap - 0) (rowc (L.drop 0)) (by rw [rowc_length, List.length_drop]; omega) (HAD.out.new hch.chg) (rowc_one _) (by simp only [maxLen]; omega) (by omega) hch.chg.size
            exact rg_val (v := v') (exec_append (v := v7) (u := .slice (some AD) (L.length - 0) (cap - 0)) (.tmp 66) (.tmp 69) _ rfl (by simp [go_sem, e1]) (by simp [go_sem, e2]) hr) rfl (hch.st11 hm m7 h3 h2) trivial trivial
          · rintro kc m a w5 hkc hch hm hn
            obtain ⟨⟨v11, e1, m11, -⟩, -⟩ := hn
            exact rg_val (v := v11) (by simp [execOp, go_sem, e1]) rfl (hch.st12 m11) trivial trivial
          rintro m w6 hai
          simp only [AllVals]
          rintro v0 m0 p0 v1 m1 p1 v2 m2 p2 v3 m3 p3 v4 m4 p4 v5 m5 p5 v6 m6 p6 v7 m7 p7 v8 m8 p8 v9 m9 p9 v10 m10 p10 v11 m11 p11 v12 m12 p12
          have ho := hai.s11 v12 (hai.s12 v12 m12)
          have HC6 := Lib.hid hai.chg
          clear p0 p1 p2 p3 p4 p5 p6 p7 p8 p9 p10 p11 p12 m0 m1 m2 m3 m4 m5 m6 m7 m8 m9 m10 m11 m12
          rw [show 0 + 1 + (L.length - 0) = (srt (stampOf D) (since D s (k + 1))).length by have := congrArg List.length HL2.out; simp at this; omega, show (rowc (L.take 0) ++ [.int .i64 (k : Int)]) ++ rowc (L.drop 0) = rowc (srt (stampOf D) (since D s (k + 1))) by rw [← HL2.out, rowc_append, rowc_cons, List.append_assoc]; rfl] at ho
          have hL2n : 0 < (srt (stampOf D) (since D s (k + 1))).length := by have := congrArg List.length HL2.out; simp at this; omega
          obtain ⟨A9, c9, rfl, hn9, h9⟩ := OwnS.of_row ho
          rcases h9 with ⟨h9, _⟩ | ⟨g9, rest9, rfl, hg9, hE9, hb9⟩
          · omega
          have HB9 := Lib.hid hb9
          have HG9 := Lib.hid (show w.heap.size ≤ g9 by have := HC4.out.size; omega)
          have HN9 := Lib.hid hn9
          clear hai ho hb9 hg9 hE9 hn9 hAD hpc hpl hlc hL2n
          simp only [Act.put, List.setIfInBounds_toArray, List.set_cons_succ, List.set_cons_zero]
          go_wp2
          go_roundw
          case rel => exact ⟨k + 1, g9, c9, rest9, rfl, by omega, by go_num, HC4.out.trans HC6.out, HG9.out, HN9.out, HB9.out⟩
          case measure => simp [intOf]; omega
        obtain ⟨q, rfl⟩ : ∃ q, p = q + 1 := ⟨p - 1, by omega⟩
        have hq1 : (0 : Int) < (q : Int) + 1 := by omega
        have HQL := Lib.hid (show q < L.length by omega)
        have cq := RowB.get HB4.out HQL.out
        have hqn : (q : Int) < (L.length : Int) := by omega
        have HLQ := Lib.hid (HLM.out _ (getD_mem HQL.out))
        obtain ⟨y, hy⟩ : ∃ y, L.getD q 0 = y := ⟨_, rfl⟩
        rw [hy] at cq HLQ
        have HY := Lib.hid hy
        have HPY := Lib.hid (readPage_yes HD.out HLQ.out)
        clear hy
        go_wp2_with fail
        refine (sReadPage_any _ A c D (y : Int) _ (HR0.out.new HC4.out) HS.out).mono ?_
        rw [HPY.out]
        rintro e w5 ⟨rfl, hc5⟩
        have x4' := hc5.cell x4 (fun x => x)
        have HC5 := Lib.hid (HC4.out.trans hc5)
        have HH5 := Lib.hid (HH.out.trans hc5)
        have HB5 := Lib.hid (HB4.out.chg hc5 (fun x => x))
        have HZ5 := Lib.hid (show P0 < w5.heap.size from (World.block_lt_of_cell? _ _ x4'))
        obtain ⟨z, hz⟩ : ∃ z, (pgAt D y).stamp = z := ⟨_, rfl⟩
        have HZ := Lib.hid (show stampOf D y = z from hz)
        have x4a := ((Chg.refl NoB w5).alloc (.cells #[.bool (pgAt D y).full, .int .i64 (pgAt D y).file, .int .i64 (pgAt D y).place, .int .i64 (pgAt D y).value, .int .i64 z] 60)).cell x4' (fun x => x)
        clear hc5 x4 cq
        by_cases hl : z ≤ x
        · have HL2 := Lib.hid (show L.take (q + 1) ++ k :: L.drop (q + 1) = srt (stampOf D) (since D s (k + 1)) by
            have := since_ins (p := q + 1) HGD.out (by rw [HL.out]; exact hp) (.inr (by rw [HL.out, Nat.add_sub_cancel, HY.out, HZ.out, HKX.out]; exact hl)) (by rw [HL.out]; rcases HPX.out with h | h; exact .inl h; rw [← HKX.out] at h; exact .inr h)
            rw [HL.out] at this; exact this)
          have HC7 := Lib.hid (HC5.out.alloc (.cells #[.bool (pgAt D y).full, .int .i64 (pgAt D y).file, .int .i64 (pgAt D y).place, .int .i64 (pgAt D y).value, .int .i64 z] 60))
          have HB7 := Lib.hid (Blk.chg HB5.out ((Chg.refl NoB w5).alloc (.cells #[.bool (pgAt D y).full, .int .i64 (pgAt D y).file, .int .i64 (pgAt D y).place, .int .i64 (pgAt D y).value, .int .i64 z] 60)) (fun x => x))
          go_wp2_with fail
          obtain ⟨w7, hw7⟩ : ∃ w7, w5.alloc (.cells #[.bool (pgAt D y).full, .int .i64 (pgAt D y).file, .int .i64 (pgAt D y).place, .int .i64 (pgAt D y).value, .int .i64 z] 60) = w7 := ⟨_, rfl⟩
          rw [hw7] at HC7 HB7 ⊢
          clear hw7 hz
          have hlc : L.length ≤ cap := HCAP.out
          obtain ⟨AD, hAD⟩ : ∃ AD : Addr, AD = if cap = (q + 1) then ⟨g, 0, none⟩ else ⟨g, (q + 1), none⟩ := ⟨_, rfl⟩
          have HAD := Lib.hid (show Rd (· = g) w7 (some AD) (rowc (L.drop (q + 1))) from by
            rw [hAD]; split
            · rename_i hh; rw [List.drop_of_length_le (by omega)]; exact Rd.nil _ _ _
            · exact RowB.rdDrop HB7.out (q + 1) hp)
          have HTK := Lib.hid (RowB.rdTake HB7.out (q + 1))
          have hpc : (q + 1) ≤ cap := by omega
          have hpl : (q + 1) ≤ L.length := hp
          have hq0 : (0 : Int) ≤ (q : Int) + 1 := by omega
          have hq2 : (q : Int) + 1 ≤ (L.length : Int) := by omega
          refine wp_region_rs (gl := []) (WInv := fun _ m w5 => AppI w7 k L (q + 1) m w5) (R := fun _ _ => True) (Post := PV [none, some (.slice (some ⟨g, 0, none⟩) L.length cap), some (.int .i64 ((q : Int) + 1)), some (.slice (some ⟨g, 0, none⟩) (q + 1) cap), none, some (.int .i64 (k : Int)), none, none, some (.slice (some ⟨g, 0, none⟩) L.length cap), some (.int .i64 ((q : Int) + 1)), some (.slice (some AD) (L.length - (q + 1)) (cap - (q + 1))), none, none]) (by kernel_rfl) (by kernel_rfl) (pv_guard (by intro p hp; cases hp)) (fun _ _ _ _ h _ _ => h) (fun _ _ _ _ h _ => h) (AppI.start _ _ _ _) ⟨?_, ?_, ?_, ?_, ?_, ?_, ?_, ?_, ?_, ?_, ?_, ?_, ?_, trivial⟩ ?_
          · rintro kc m a w5 hkc hch hm hn
            exact rg_val (v := .slice (some ⟨w5.heap.size, 0, none⟩) 0 0) (by simp [execOp, go_sem]) rfl hch.al0 trivial trivial
          · rintro kc m a w5 hkc hch hm hn
            obtain ⟨e1, -⟩ := hn
            replace e1 : a.tmps[5]?.getD undef = .slice (some ⟨g, 0, none⟩) L.length cap := e1
            exact rg_val (v := .slice (some ⟨g, 0, none⟩) L.length cap) (by simp [execOp, go_sem, e1]) rfl (hch.pure _ (by decide) (by decide) (by decide) (by decide) (by decide) (by decide)) trivial rfl
          · rintro kc m a w5 hkc hch hm hn
            obtain ⟨e1, -⟩ := hn
            replace e1 : a.tmps[9]?.getD undef = .int .i64 ((q : Int) + 1) := e1
            exact rg_val (v := .int .i64 ((q : Int) + 1)) (by simp [execOp, go_sem, e1]) rfl (hch.pure _ (by decide) (by decide) (by decide) (by decide) (by decide) (by decide)) trivial rfl
          · rintro kc m a w5 hkc hch hm hn
            obtain ⟨⟨_, e1, _, rfl⟩, ⟨_, e2, _, rfl⟩, -⟩ := hn
            exact rg_val (v := .slice (some ⟨g, 0, none⟩) (q + 1) cap) (by simp [execOp, go_sem, e1, e2]; intro hh; have := hh (by omega); omega) rfl (hch.pure _ (by decide) (by decide) (by decide) (by decide) (by decide) (by decide)) trivial rfl
          · rintro kc m a w5 hkc hch hm hn
            obtain ⟨⟨v0, e1, m0, -⟩, ⟨_, e2, _, rfl⟩, -⟩ := hn
            obtain ⟨g0, rfl, hg0, hb0⟩ := hch.s0 hm v0 m0
            obtain ⟨v', w', hr, h2, h3, _⟩ := run_append_fresh (P := Try.prog) w5 w7.heap.size 53 53 3 i0 (.int .i64 0) 1 8 Try.underlying53 hi hz0 hz1 hz2 rfl (by decide) g0 hg0 hb0 (some ⟨g, 0, none⟩) (q + 1) cap (rowc (L.take (q + 1))) (by rw [rowc_length, List.length_take]; omega) (HTK.out.new hch.chg) (by simp only [maxLen]; omega) (by omega) hch.chg.size
            exact rg_val (v := v') (exec_append (v := .slice (some ⟨g0, 0, none⟩) 0 0) (u := .slice (some ⟨g, 0, none⟩) (q + 1) cap) (.tmp 59) (.tmp 62) _ rfl (by simp [go_sem, e1]) (by simp [go_sem, e2]) hr) rfl (hch.st4 hm h3 h2) trivial trivial
          · rintro kc m a w5 hkc hch hm hn
            obtain ⟨e1, -⟩ := hn
            replace e1 : a.tmps[6]?.getD undef = .int .i64 (k : Int) := e1
            exact rg_val (v := .int .i64 (k : Int)) (by simp [execOp, go_sem, e1]) rfl (hch.pure _ (by decide) (by decide) (by decide) (by decide) (by decide) (by decide)) trivial rfl
          · rintro kc m a w5 hkc hch hm hn
            obtain ⟨⟨_, e1, _, rfl⟩, -⟩ := hn
            exact rg_val (v := .slice (some ⟨w5.heap.size, 0, none⟩) 1 1) (by simp [execOp, go_sem, e1]) rfl hch.al6 trivial trivial
          · rintro kc m a w5 hkc hch hm hn
            obtain ⟨⟨v4, e1, m4, -⟩, ⟨v6, e2, m6, -⟩, -⟩ := hn
            obtain ⟨g6, rfl, hg6, hb6⟩ := hch.s6 hm v6 m6
            obtain ⟨v', w', hr, h2, h3, _⟩ := run_append_rd (P := Try.prog) w5 w7.heap.size 53 53 3 i0 (.int .i64 0) 1 8 Try.underlying53 hi hz0 hz1 hz2 rfl (by decide) v4 (q + 1) (rowc (L.take (q + 1))) (hch.s4 hm v4 m4) (some ⟨g6, 0, none⟩) 1 1 [.int .i64 (k : Int)] rfl (Blk.rd (cs := [.int .i64 (k : Int)]) hb6) (by simp [Value.oneCell']) (by simp only [maxLen]; omega) (by omega) hch.chg.size
            exact rg_val (v := v') (exec_append (v := v4) (u := .slice (some ⟨g6, 0, none⟩) 1 1) (.tmp 63) (.tmp 65) _ rfl (by simp [go_sem, e1]) (by simp [go_sem, e2]) hr) rfl (hch.st7 hm m4 h3 h2) trivial trivial
          · rintro kc m a w5 hkc hch hm hn
            obtain ⟨e1, -⟩ := hn
            replace e1 : a.tmps[5]?.getD undef = .slice (some ⟨g, 0, none⟩) L.length cap := e1
            exact rg_val (v := .slice (some ⟨g, 0, none⟩) L.length cap) (by simp [execOp, go_sem, e1]) rfl (hch.pure _ (by decide) (by decide) (by decide) (by decide) (by decide) (by decide)) trivial rfl
          · rintro kc m a w5 hkc hch hm hn
            obtain ⟨e1, -⟩ := hn
            replace e1 : a.tmps[9]?.getD undef = .int .i64 ((q : Int) + 1) := e1
            exact rg_val (v := .int .i64 ((q : Int) + 1)) (by simp [execOp, go_sem, e1]) rfl (hch.pure _ (by decide) (by decide) (by decide) (by decide) (by decide) (by decide)) trivial rfl
          · rintro kc m a w5 hkc hch hm hn
            obtain ⟨⟨_, e1, _, rfl⟩, ⟨_, e2, _, rfl⟩, -⟩ := hn
            exact rg_val (v := .slice (some AD) (L.length - (q + 1)) (cap - (q + 1))) (by simp [execOp, go_sem, e1, e2, hAD, hq0, hq2]; split <;> rfl) rfl (hch.pure _ (by decide) (by decide) (by decide) (by decide) (by decide) (by decide)) trivial rfl
          · rintro kc m a w5 hkc hch hm hn
            obtain ⟨⟨v7, e1, m7, -⟩, ⟨_, e2, _, rfl⟩, -⟩ := hn
            obtain ⟨v', w', hr, h2, h3, _⟩ := run_append_rd (P := Try.prog) w5 w7.heap.size 53 53 3 i0 (.int .i64 0) 1 8 Try.underlying53 hi hz0 hz1 hz2 rfl (by decide) v7 ((q + 1) + 1) (rowc (L.take (q + 1)) ++ [.int .i64 (k : Int)]) (hch.s7 hm v7 m7) (some AD) (L.length - (q + 1)) (cap - (q + 1)) (rowc (L.drop (q + 1))) (by rw [rowc_length, List.length_drop]; omega) (HAD.out.new hch.chg) (rowc_one _) (by simp only [maxLen]; omega) (by omega) hch.chg.size
            exact rg_val (v := v') (exec_append (v := v7) (u := .slice (some AD) (L.length - (q + 1)) (cap - (q + 1))) (.tmp 66) (.tmp 69) _ rfl (by simp [go_sem, e1]) (by simp [go_sem, e2]) hr) rfl (hch.st11 hm m7 h3 h2) trivial trivial
          · rintro kc m a w5 hkc hch hm hn
            obtain ⟨⟨v11, e1, m11, -⟩, -⟩ := hn
            exact rg_val (v := v11) (by simp [execOp, go_sem, e1]) rfl (hch.st12 m11) trivial trivial
          rintro m w6 hai
          simp only [AllVals]
          rintro v0 m0 p0 v1 m1 p1 v2 m2 p2 v3 m3 p3 v4 m4 p4 v5 m5 p5 v6 m6 p6 v7 m7 p7 v8 m8 p8 v9 m9 p9 v10 m10 p10 v11 m11 p11 v12 m12 p12
          have ho := hai.s11 v12 (hai.s12 v12 m12)
          have HC6 := Lib.hid hai.chg
          clear p0 p1 p2 p3 p4 p5 p6 p7 p8 p9 p10 p11 p12 m0 m1 m2 m3 m4 m5 m6 m7 m8 m9 m10 m11 m12
          rw [show (q + 1) + 1 + (L.length - (q + 1)) = (srt (stampOf D) (since D s (k + 1))).length by have := congrArg List.length HL2.out; simp at this; omega, show (rowc (L.take (q + 1)) ++ [.int .i64 (k : Int)]) ++ rowc (L.drop (q + 1)) = rowc (srt (stampOf D) (since D s (k + 1))) by rw [← HL2.out, rowc_append, rowc_cons, List.append_assoc]; rfl] at ho
          have hL2n : 0 < (srt (stampOf D) (since D s (k + 1))).length := by have := congrArg List.length HL2.out; simp at this; omega
          obtain ⟨A9, c9, rfl, hn9, h9⟩ := OwnS.of_row ho
          rcases h9 with ⟨h9, _⟩ | ⟨g9, rest9, rfl, hg9, hE9, hb9⟩
          · omega
          have HB9 := Lib.hid hb9
          have HG9 := Lib.hid (show w.heap.size ≤ g9 by have := HC7.out.size; omega)
          have HN9 := Lib.hid hn9
          clear hai ho hb9 hg9 hE9 hn9 hAD hpc hpl hlc hL2n
          simp only [Act.put, List.setIfInBounds_toArray, List.set_cons_succ, List.set_cons_zero]
          go_wp2
          go_roundw
          case rel => exact ⟨k + 1, g9, c9, rest9, rfl, by omega, by go_num, HC7.out.trans HC6.out, HG9.out, HN9.out, HB9.out⟩
          case measure => simp [intOf]; omega
        · have hl' : ¬ z ≤ x := hl
          go_wp2
          go_roundw
          case rel => exact ⟨q, by go_num, by omega, Lib.hid (.inr (by rw [HY.out, HZ.out]; omega)), HH5.out.alloc _⟩
          case measure => simp [intOf]
end Go.Proofs.Ytenbbkmbnpdfaaa
