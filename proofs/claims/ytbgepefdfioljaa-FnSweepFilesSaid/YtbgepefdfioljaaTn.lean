/- l7New of the reference: the empty table. -/
import Derived.Test.YtbgepefdfioljaaTx
namespace Go.Proofs.Ytbgepefdfioljaa
open Go.RowKit
def NewTabP (w : World) (X : List (List Int)) (e : Ending) (w' : World) : Prop := ∃ A c T, e = .returned (.agg #[.slice A 8 c]) ∧ listsOf T = X ∧ Chg NoB w w' ∧ TabO w.heap.size w'.heap.size w' A c T
set_option maxRecDepth 100000 in
set_option maxHeartbeats 1000000 in
theorem l7New_any (w : World) :
    Calls Try.prog 77 #[] w (NewTabP w (emptyRows 8)) := by
  obtain ⟨i0, hi, hz0, hz1, hz2⟩ := info_parts info_int
  obtain ⟨j0, hj, hy0, hy1, hy2⟩ := info_parts info_ints'
  obtain ⟨q1, q2, q3⟩ := lit2 w 39 39 #[.slice none 0 0] #[.slice none 0 0]
  have HR0 := Lib.hid q1
  have HV0 := Lib.hid q2
  have HC0 := Lib.hid q3
  clear q1 q2 q3
  go_enter Try.func77, Try.ntmps77
  go_wp2
  go_loopw [2] (fun i wr => ∃ (f : Nat) (u : Value) (T : List RowO), f ≤ 8 ∧ i = .int .i64 f ∧ Chg NoB w wr ∧ Blk wr w.heap.size 39 #[.slice none 0 0] ∧ Blk wr (w.heap.size + 1) 39 #[u] ∧ wr.ownsRow (w.heap.size + 1 + 1) 22 1 u f (T.map RowO.cell) ∧ RowsO (w.heap.size + 1 + 1) wr.heap.size wr T ∧ Hid (listsOf T = emptyRows f)) (fun i _ => 8 - (intOf i).toNat)
  case atStart => exact ⟨0, .slice none 0 0, [], Nat.zero_le _, rfl, HC0.out, HR0.out, HV0.out, World.ownsRow_nil _ _ _ _, RowsO.nil _ _ _, Lib.hid rfl⟩
  case round =>
    obtain ⟨wo, rfl⟩ : ∃ wo, wo = wr := ⟨_, rfl⟩
    obtain ⟨f, u, T, hf8, rfl, hch, hbr, hbv, hou, hrows, hT⟩ := hrel
    obtain ⟨Au, cu, rfl, _⟩ := own_rd hou
    have hTl : T.length = f := by have := congrArg List.length hT.out; rw [listsOf_length, emptyRows, List.length_replicate] at this; exact this
    have HTL := Lib.hid hTl
    have HC := Lib.hid hch
    have HR := Lib.hid hbr
    have HV := Lib.hid hbv
    have HOU := Lib.hid hou
    have HRW := Lib.hid hrows
    have HVL := Lib.hid hbv.lt
    clear hTl
    by_cases hlt : f < 8
    · have HE := Lib.hid (own_empty wo 3 1 wo.heap.size (Nat.le_refl _))
      have HCE := Lib.hid ((Chg.refl NoB wo).alloc (.cells #[] 3))
      have HLT := Lib.hid hlt
      have hi1 : (f : Int) < 8 := by omega
      clear hch hbr hbv hou hrows
      go_wp2
      go_loopw [3, 4] (fun v i wr => ∃ k : Nat, k ≤ 6 ∧ i = .int .i64 k ∧ Chg NoB wo wr ∧ wr.ownsRow wo.heap.size 3 1 v k (icells (List.replicate k (-1)))) (fun _ i _ => 6 - (intOf i).toNat)
      case atStart => exact ⟨0, Nat.zero_le _, rfl, HCE.out, HE.out⟩
      case round =>
        obtain ⟨wi, rfl⟩ : ∃ wi, wi = wr := ⟨_, rfl⟩
        obtain ⟨k, hk6, rfl, hch, how⟩ := hrel
        have HCI := Lib.hid hch
        have HOI := Lib.hid how
        have hsz := hch.size
        by_cases hk : k < 6
        · have hcx : Chg NoB wi (wi.alloc (.cells #[.int .i64 (-1)] 3)) := (Chg.refl _ _).alloc _
          have HCX := Lib.hid hcx
          have HSX := Lib.hid (Nat.le_trans hsz hcx.size)
          have hk5 : (k : Int) ≤ 5 := by omega
          clear hch how hsz hcx
          go_wp2_with (at_builtin; refine wpList_append_rd rfl (.tmp 15) (.tmp 16) _ rfl wo.heap.size 3 i0 (.int .i64 0) 1 8 Try.underlying22 hi hz0 hz1 hz2 rfl (by decide) _ _ _ rfl (HOI.out.alloc _) (some ⟨wi.heap.size, 0, none⟩) 1 1 [.int .i64 (-1)] rfl rfl (Blk.new _ _ _).rd (by simp [Value.oneCell']) (by simp only [maxLen]; omega) (by omega) HSX.out ?_; intro v' w5 hown' hgrow _)
          go_roundw
          case rel =>
            refine ⟨k + 1, by omega, by go_num, chg_grown (HOI.out.alloc _) hgrow (HCI.out.alloc _) (Nat.le_refl _), ?_⟩
            have e1 : icells (List.replicate (k + 1) (-1)) = icells (List.replicate k (-1)) ++ [.int .i64 (-1)] := by rw [List.replicate_succ', ← icells_snoc']
            rw [e1]
            exact hown'
          case measure => simp [intOf]; omega
        · obtain rfl : k = 6 := by omega
          obtain ⟨g6, c6, rest6, rfl, hok6⟩ := own_row_ok how (by simp) (by omega)
          have hcx : Chg NoB wi (wi.alloc (.cells #[RowO.cell ⟨g6, c6, List.replicate 6 (-1), rest6⟩] 22)) := (Chg.refl _ _).alloc _
          have hou := own_chg1 HOU.out (HCI.out.trans hcx) (fun _ _ _ _ x => x)
          have hbv := HV.out.chg (HCI.out.trans hcx) (fun x => x)
          have v0 : wi.cell? ⟨w.heap.size + 1, 0, none⟩ = some (.slice Au f cu) := ((HV.out.chg HCI.out (fun x => x)).cell _).trans rfl
          have v0x : (wi.alloc (.cells #[RowO.cell ⟨g6, c6, List.replicate 6 (-1), rest6⟩] 22)).cell? ⟨w.heap.size + 1, 0, none⟩ = some (.slice Au f cu) := (hbv.cell _).trans rfl
          have hne : ¬ (some (w.heap.size + 1) = (Value.slice Au f cu).ownBlock) := fun hh => by
            have := (hou.lt _ hh.symm).1; omega
          have HNE := Lib.hid hne
          have HOX := Lib.hid hou
          have HBX := Lib.hid hbv
          have HOK := Lib.hid hok6
          have HSW := Lib.hid (show w.heap.size + 1 + 1 ≤ (wi.alloc (.cells #[RowO.cell ⟨g6, c6, List.replicate 6 (-1), rest6⟩] 22)).heap.size by have := HVL.out; have := hcx.size; omega)
          have HSZ := Lib.hid hsz
          have HCX := Lib.hid (HCI.out.trans hcx)
          have HCC := Lib.hid hcx
          clear hch how hok6 hcx hou hbv hne hsz
          obtain ⟨rc, hrc⟩ : ∃ rc, RowO.cell ⟨g6, c6, List.replicate 6 (-1), rest6⟩ = rc := ⟨_, rfl⟩
          have hrc1 : rc = .slice (some ⟨g6, 0, none⟩) 6 c6 := by rw [← hrc]; simp [RowO.cell]
          subst hrc1
          rw [hrc] at HOX HBX HSW HCX HCC v0x ⊢
          have HRC := Lib.hid hrc
          clear hrc
          go_wp2_with (at_builtin; refine wpList_append_rd rfl (.tmp 19) (.tmp 21) _ rfl (w.heap.size + 1 + 1) 22 j0 (.slice none 0 0) 1 24 Try.underlying32 hj hy0 hy1 hy2 rfl (by decide) _ _ _ rfl HOX.out (some ⟨wi.heap.size, 0, none⟩) 1 1 [.slice (some ⟨g6, 0, none⟩) 6 c6] rfl rfl (Blk.new _ _ _).rd (by simp [Value.oneCell']) (by simp only [maxLen]; omega) (by omega) HSW.out ?_; intro v' w5 hown' hgrow _; obtain ⟨A5, c5, rfl, _⟩ := own_rd hown'; have HOWN := Lib.hid hown'; have hg5 := chg_row hgrow; have HG5 := Lib.hid hg5; have hb5 := HBX.out.chg hg5 HNE.out; have v5 : w5.cell? ⟨w.heap.size + 1, 0, none⟩ = some (.slice Au f cu) := (hb5.cell _).trans rfl; have vf5 := hb5.frozen 0; have HB5 := Lib.hid hb5; clear hown' hgrow hg5 hb5)
          go_roundw
          case rel =>
            have hc5 : Chg (fun k => some k = (Value.slice Au f cu).ownBlock) wi w5 := (HCC.out.mono (fun _ _ x => x.elim)).trans HG5.out
            have hcs : Chg (· = w.heap.size + 1) w5 (w5.setCell ⟨w.heap.size + 1, 0, none⟩ (.slice A5 (f + 1) c5)) := (Chg.refl (· = w.heap.size + 1) w5).setCell (p := ⟨w.heap.size + 1, 0, none⟩) (.inl rfl) _
            have hss : (w5.setCell ⟨w.heap.size + 1, 0, none⟩ (.slice A5 (f + 1) c5)).heap.size = w5.heap.size := World.size_setCell _ _ _
            have hlo : ∀ k, some k = (Value.slice Au f cu).ownBlock → w.heap.size + 1 + 1 ≤ k := fun k hk => (HOU.out.lt _ hk.symm).1
            have hs5 := hc5.size
            refine ⟨f + 1, .slice A5 (f + 1) c5, T ++ [⟨g6, c6, List.replicate 6 (-1), rest6⟩], by have := HLT.out; omega, by go_num, ?_, ?_, ?_, ?_, ?_, Lib.hid ?_⟩
            · exact ((HC.out.trans HCI.out).trans' hc5 (fun i hi => .inr (by have := hlo i hi; omega))).own hcs (by omega)
            · exact (((HR.out.chg HCI.out (fun x => x)).chg hc5 (fun hh => by have := hlo _ hh; omega)).chg hcs (by omega))
            · exact HB5.out.set_ 0 _
            · rw [cells_snoc', HRC.out]
              exact own_chg1 HOWN.out hcs (fun g cs hg _ he => by omega)
            · have h0 : RowsO (w.heap.size + 1 + 1) wi.heap.size wi (T ++ [⟨g6, c6, List.replicate 6 (-1), rest6⟩]) := (HRW.out.new HCI.out).snoc ⟨by have h6 : wo.heap.size ≤ g6 := HOK.out.1; have := HVL.out; show w.heap.size + 1 + 1 ≤ g6; omega, HOK.out.2⟩ HOK.out.1
              have hoi := own_chg1 HOU.out HCI.out (fun _ _ _ _ x => x)
              have h1 := h0.chgT hc5 (fun k cs hk hh => own_ne_box hoi hk (Ne.symm ty_ne) hh)
              exact (h1.chg hcs (fun i h1 h2 h3 => by omega)).more (Nat.le_refl _) (by rw [hss]; exact hs5)
            · rw [lists_snoc, hT.out]; unfold emptyRows; rw [← List.replicate_succ']
          case measure => simp [intOf]; have := HLT.out; omega
    · obtain rfl : f = 8 := by omega
      obtain ⟨A8, c8, he, ho8⟩ := OwnS.of_row hou
      injection he with he1 he2 he3
      subst he1 he3
      have hTO : TabO (w.heap.size + 1 + 1) wo.heap.size wo Au cu T := ⟨by rw [HTL.out]; exact ho8, hrows⟩
      have HTO := Lib.hid hTO
      have v0 : wo.cell? ⟨w.heap.size + 1, 0, none⟩ = some (.slice Au 8 cu) := (hbv.cell _).trans rfl
      have r0 : wo.cell? ⟨w.heap.size, 0, none⟩ = some (.slice none 0 0) := (hbr.cell _).trans rfl
      have rf := hbr.frozen 0
      clear hch hbr hbv hou hrows hTO ho8 HOU HRW
      go_wp2_with fail
      (try simp only [Exit.inBlock, Exit.then])
      refine bodyPost_ret (v := .agg #[.slice Au 8 cu]) (by simp [results, Try.results77, go_sem, *]) rfl ?_
      have hcs : Chg (· = w.heap.size) wo (wo.setCell ⟨w.heap.size, 0, none⟩ (.slice Au 8 cu)) := (Chg.refl (· = w.heap.size) wo).setCell (p := ⟨w.heap.size, 0, none⟩) (.inl rfl) _
      have hss : (wo.setCell ⟨w.heap.size, 0, none⟩ (.slice Au 8 cu)).heap.size = wo.heap.size := World.size_setCell _ _ _
      refine ⟨Au, cu, T, rfl, hT.out, HC.out.own hcs (Nat.le_refl _), ?_⟩
      exact (HTO.out.chg hcs (fun i h1 h2 h3 => by omega)).more (by omega) (by rw [hss]; omega)
end Go.Proofs.Ytbgepefdfioljaa
