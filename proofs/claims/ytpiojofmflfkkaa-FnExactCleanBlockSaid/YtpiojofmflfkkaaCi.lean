/- Marks of devices and of tables, told by the blocks that they turn; eqHeads. -/
import Derived.Test.YtpiojofmflfkkaaMfi
import Derived.Test.YtpiojofmflfkkaaMg
import Derived.Test.YtpiojofmflfkkaaMc
import Derived.Test.YtpiojofmflfkkaaMb
namespace Go.Proofs.Ytpiojofmflfkkaa
open Go.RowKit
set_option maxRecDepth 100000 in
set_option maxHeartbeats 4000000 in
theorem markBlockS_f (Fm : Nat → Prop) (B E : Nat) (A : Option Addr) (c : Nat) (T : List BkO) (k0 : Int) (w : World) (h : DevO B E w A c T) (hl : ∀ r ∈ T, r.ps.length ≤ 1048576) (hL : T.length ≤ 1048576) (hk0 : 0 ≤ k0) (hk1 : endT T k0 ≤ 500000000000) (hFg : ∀ g cs, A = some ⟨g, 0, none⟩ → B ≤ g → g < E → Blk w g 67 cs → Fm g) (hFr : ∀ r ∈ T, Fm r.g) :
    Calls Try.prog 29 #[.slice A T.length c, .int .i64 k0] w fun e w' => e = .returned (.int .i64 (endT T k0)) ∧ Chg Fm w w' ∧ DevO B E w' A c (markT T k0) := by
  obtain ⟨⟨hn, h⟩, hT⟩ := h
  rcases h with ⟨h0, h1⟩ | ⟨g, rest, rfl, hg, hgE, hb⟩
  · have hx : T = [] := List.eq_nil_of_length_eq_zero h0
    subst hx
    go_enter Try.func29, Try.ntmps29
    go_wp2_with fail
    refine wp_loop_rounds 1 ?_
    rw [rounds_succ]
    go_wp2
    go_ret
    exact ⟨rfl, Chg.refl _ _, DevO.nil _ _ _ _ _⟩
  have HFG := Lib.hid (hFg g _ rfl hg hgE hb)
  have HFR := Lib.hid hFr
  have HB := Lib.hid hb
  have HT := Lib.hid hT
  have HLL := Lib.hid hl
  have HK1 := Lib.hid hk1
  have HN := Lib.hid hn
  clear hb hT hl hk1 hn hFg hFr
  go_enter Try.func29, Try.ntmps29
  go_wp2_with fail
  go_loopw [1, 5] (fun v i wr => ∃ (k : Nat) (z : Int), k ≤ T.length ∧ i = .int .i64 k ∧ v = .int .i64 z ∧ Hid (z = endT (T.take k) k0) ∧ 0 ≤ z ∧ z ≤ 500000000000 ∧ Chg Fm w wr ∧ BksO B E wr (markT (T.take k) k0 ++ T.drop k) ∧ Blk wr g 67 (bcells (markT (T.take k) k0 ++ T.drop k) ++ rest).toArray) (fun _ i _ => T.length - (intOf i).toNat)
  case atStart => exact ⟨0, k0, Nat.zero_le _, rfl, rfl, Lib.hid rfl, hk0, by have := HK1.out; have := endT_le T k0; omega, Chg.refl _ _, HT.out, HB.out⟩
  case round =>
    obtain ⟨k, z, hk, rfl, rfl, HZ, hz0, hz1, hch, hT, hb⟩ := hrel
    have HC := Lib.hid hch
    have HT := Lib.hid hT
    have HBB := Lib.hid hb
    clear hch hT
    by_cases hlt : k < T.length
    · obtain ⟨U, hU⟩ : ∃ U, markT (T.take k) k0 ++ T.drop k = U := ⟨_, rfl⟩
      have hlen : (markT (T.take k) k0).length = k := by rw [markT_len, List.length_take]; omega
      have hUk : k < U.length := by rw [← hU, List.length_append, hlen, List.length_drop]; omega
      have hUg : U[k] = T[k] := by
        have e : U[k]? = some T[k] := by
          rw [← hU, List.getElem?_append_right (by omega), hlen, Nat.sub_self, List.getElem?_drop, Nat.add_zero, List.getElem?_eq_getElem hlt]
        exact (List.getElem?_eq_some_iff.1 e).2
      have HST := Lib.hid (show U.set k (markB T[k] z) = markT (T.take (k + 1)) k0 ++ T.drop (k + 1) by
        rw [List.take_succ_eq_append_getElem hlt, markT_snoc, ← HZ.out, ← hU, List.set_append_right _ _ (by omega), hlen, Nat.sub_self, show (T.drop k).set 0 (markB T[k] z) = markB T[k] z :: T.drop (k + 1) by rw [List.drop_eq_getElem_cons hlt]; rfl]
        simp)
      have HZN := Lib.hid (show z + 1 + 5 * (T[k].ps.length : Int) = endT (T.take (k + 1)) k0 by rw [List.take_succ_eq_append_getElem hlt, endT_snoc, ← HZ.out])
      have HZB := Lib.hid (show z + 1 + 5 * (T[k].ps.length : Int) ≤ 500000000000 by have := HZN.out; have := HK1.out; have := endT_take T (k + 1) k0; omega)
      rw [hU] at hb HT HBB
      obtain ⟨rr, hrr⟩ : ∃ r, U[k] = r := ⟨_, rfl⟩
      have HOK := Lib.hid (HT.out.1 U[k] (List.getElem_mem hUk))
      rw [hUg] at HOK
      have e0 : bcells U = bcells (U.take k) ++ .int .i64 T[k].wear :: .slice (some ⟨T[k].g, 0, none⟩) T[k].ps.length T[k].c :: bcells (U.drop (k + 1)) := by
        conv => lhs; rw [← List.take_append_drop k U, List.drop_eq_getElem_cons hUk, hUg]
        rw [bcells_append]
        rfl
      rw [e0, List.append_assoc] at hb
      have hlu : (bcells (U.take k)).length = k * 2 := by rw [bcells_length, List.length_take]; omega
      obtain ⟨x0, x1⟩ := hb.room2 hlu
      have f0 := hb.frozen (k * 2)
      have hk8 : (k : Int) < (T.length : Int) := by omega
      have hk9 : (0 : Int) ≤ (k : Int) := by omega
      have HUG := Lib.hid hUg
      have HUK := Lib.hid hUk
      have HPL := Lib.hid (HLL.out T[k] (List.getElem_mem hlt))
      clear hb hU hlen hUg e0 hlu hrr
      go_wp2_with fail
      have hcs := (Chg.refl (· = g) wr).setCell (p := ⟨g, k * 2, none⟩) (.inl rfl) (.int .i64 z)
      have hpg : Blk (wr.setCell ⟨g, k * 2, none⟩ (.int .i64 z)) T[k].g 80 (pgs T[k].ps ++ T[k].rest).toArray := HOK.out.2.2.1.chg hcs (fun e => by
        have h2 := HOK.out.2.2.1
        have h3 := HBB.out
        rw [show T[k].g = g from e] at h2
        unfold Blk at h2 h3
        rw [h2] at h3
        injection h3 with h3
        injection h3 with _ h3
        exact ty_page_block h3)
      have HPG := Lib.hid hpg
      have HCS := Lib.hid hcs
      clear hpg hcs
      refine (markPageS_any T[k].g T[k].c T[k].ps T[k].rest (z + 1) _ HPG.out HPL.out (by omega) (by omega)).mono ?_
      rintro e w5 ⟨rfl, hc5, hb5⟩
      have hm := DevO.mark (g := g) (rest := rest) (ps := mkPgs T[k].ps.length (z + 1)) HT.out HBB.out HUK.out (by rw [HUG.out, mkPgs_len]) rfl (by rw [HUG.out]; exact hc5) (by rw [HUG.out]; exact hb5)
      rw [HUG.out] at hm
      have HM := Lib.hid hm
      have HC5 := Lib.hid (show Chg Fm w w5 from (HC.out.trans (HCS.out.mono (fun i _ h => (by have h' : i = g := h; subst h'; exact HFG.out)))).trans (hc5.mono (fun i _ h => (by have h' : i = T[k].g := h; rw [h']; exact HFR.out _ (List.getElem_mem hlt)))))
      clear hm hc5 hb5 x0 x1 f0
      go_wp2
      go_roundw
      case rel =>
        refine ⟨k + 1, z + 1 + 5 * (T[k].ps.length : Int), by omega, by go_num, rfl, HZN, by omega, HZB.out, HC5.out, ?_, ?_⟩
        · rw [← HST.out]; exact HM.out.1
        · rw [← HST.out]; exact HM.out.2
      case measure => simp [intOf]; omega
    · have hlt' : ¬ ((k : Int) < (T.length : Int)) := by omega
      have hk' : k = T.length := by omega
      subst hk'
      clear hb
      go_wp2
      go_ret
      have h1 := HT.out
      have h2 := HBB.out
      rw [List.drop_length, List.append_nil, List.take_length] at h1 h2
      have h3 := HZ.out
      rw [List.take_length] at h3
      exact ⟨ret_int h3, HC.out, ⟨by rw [markT_len]; exact HN.out, .inr ⟨g, rest, rfl, hg, hgE, h2⟩⟩, h1⟩
theorem cell_g {T T' : List RowO} (h : T'.map RowO.cell = T.map RowO.cell) {k : Nat} (hk : k < T'.length) : ∃ hk' : k < T.length, T'[k].g = T[k].g := by
  have hl : T'.length = T.length := by have := congrArg List.length h; simpa using this
  refine ⟨by omega, ?_⟩
  have e : (T'.map RowO.cell)[k]'(by simpa using hk) = (T.map RowO.cell)[k]'(by simp; omega) := by simp only [h]
  rw [List.getElem_map, List.getElem_map] at e
  unfold RowO.cell at e
  injection e with e
  injection e with e
  injection e
set_option maxRecDepth 100000 in
set_option maxHeartbeats 1000000 in
theorem markIntSS_f (Fm : Nat → Prop) (B E : Nat) (A : Option Addr) (c : Nat) (T : List RowO) (k0 : Int) (w : World) (h : TabO B E w A c T) (hX : total (listsOf T) ≤ 1048576) (hk0 : 0 ≤ k0) (hk1 : k0 ≤ 100000000) (hFr : ∀ r ∈ T, Fm r.g) :
    Calls Try.prog 95 #[.slice A T.length c, .int .i64 k0] w fun e w' => ∃ T', e = .returned (.int .i64 (k0 + (lens (listsOf T) : Nat))) ∧ Chg Fm w w' ∧ listsOf T' = marksT (listsOf T) k0 ∧ T'.length = T.length ∧ TabO B E w' A c T' := by
  obtain ⟨X, hX0⟩ : ∃ X, listsOf T = X := ⟨_, rfl⟩
  have hTX : T.length = X.length := by rw [← hX0, listsOf_length]
  rw [hX0] at hX ⊢
  have hXl : X.length ≤ 1048576 := by unfold total at hX; omega
  rw [hTX]
  have HH := Lib.hid h
  have HFR := Lib.hid hFr
  have HX0 := Lib.hid hX0
  have HTX := Lib.hid hTX
  clear h hX0 hTX hFr
  go_enter Try.func95, Try.ntmps95
  go_wp2
  go_loopw [1, 5] (fun v i wr => ∃ (k : Nat) (T' : List RowO), k ≤ X.length ∧ i = .int .i64 k ∧ v = .int .i64 (k0 + (lens (X.take k) : Nat)) ∧ Chg Fm w wr ∧ Hid (listsOf T' = (marksT X k0).take k ++ X.drop k) ∧ Hid (T'.map RowO.cell = T.map RowO.cell) ∧ TabO B E wr A c T') (fun _ i _ => X.length - (intOf i).toNat)
  case atStart => exact ⟨0, T, Nat.zero_le _, rfl, by simp [lens], Chg.refl _ _, Lib.hid (by simp [HX0.out]), Lib.hid rfl, HH.out⟩
  case round =>
    obtain ⟨k, T', hk, rfl, rfl, hch, hl, hcell, hO⟩ := hrel
    have HC := Lib.hid hch
    have HO := Lib.hid hO
    by_cases hlt : k < X.length
    · have hTk : k < T'.length := by rw [marks_len hcell.out, HTX.out]; exact hlt
      obtain ⟨ad, e1, hf, hbl, hc0⟩ := hO.1.rd.at_ (k := k) (by simpa using hTk)
      subst e1
      rw [List.getElem_map] at hc0
      have hxs : T'[k].xs = X[k] := by
        have h1 : (listsOf T')[k]'(by rw [listsOf_length]; exact hTk) = T'[k].xs := by simp [listsOf]
        rw [← h1]
        have h2 := mark_get X k0 k hlt (by rw [← hl.out, listsOf_length]; exact hTk)
        simp only [hl.out]
        exact h2
      unfold RowO.cell at hc0
      rw [hxs] at hc0
      have hok := hO.2.1 T'[k] (List.getElem_mem hTk)
      have hrowlen : X[k].length ≤ 1048576 := by have := total_row X k hlt; omega
      have hlk := Lib.hid (lens_take_succ X k hlt)
      have hrl := lens_row X k hlt
      have htl : lens X ≤ 1048576 := by unfold total at hX; unfold lens; omega
      have hi0 : (0 : Int) ≤ (k : Int) := Int.natCast_nonneg _
      have hi1 : (k : Int) < (X.length : Int) := by omega
      have HOK := Lib.hid hok
      have HXS := Lib.hid hxs
      clear hO hch hok
      go_wp2_with fail
      have hbk := HOK.out.2.2.1
      rw [HXS.out] at hbk
      refine (markIntS_row T'[k].g T'[k].c X[k] T'[k].rest _ _ hbk hrowlen (by omega) (by omega)).mono ?_
      rintro e w1 ⟨rfl, hc1, hb1⟩
      have hml : (marksI X[k].length (k0 + (lens (X.take k) : Nat))).length = T'[k].xs.length := by rw [marksI_len, HXS.out]
      have hrows := rows_mark (ys := marksI X[k].length (k0 + (lens (X.take k) : Nat))) HO.out.2 hTk (hc1.mono (G := fun i => T'[k].g ≤ i ∧ i < T'[k].g + 1) (fun i _ hi => by omega)) hml hb1
      have hcb : Chg Fm wr w1 := hc1.mono fun i _ hi => by rw [hi]; obtain ⟨hk3, hg3⟩ := cell_g hcell.out hTk; rw [hg3]; exact HFR.out _ (List.getElem_mem hk3)
      have hcell2 := rows_cell (rest' := T'[k].rest) hTk hml
      have hhd : OwnS B E w1 24 (some ad) T'.length c (T'.map RowO.cell) := by
        refine ⟨HO.out.1.1, ?_⟩
        rcases HO.out.1.2 with h0 | ⟨g, rest, hA, hg, hE, hb⟩
        · exact .inl h0
        · exact .inr ⟨g, rest, hA, hg, hE, hb.chg hc1 (fun he => ty_ne (Blk.ty hbk (by rw [← he]; exact hb)))⟩
      have HN := Lib.hid (show TabO B E w1 (some ad) c (T'.set k ⟨T'[k].g, T'[k].c, marksI X[k].length (k0 + (lens (X.take k) : Nat)), T'[k].rest⟩) from ⟨by rw [List.length_set, hcell2]; exact hhd, hrows⟩)
      have HL2 := Lib.hid (show listsOf (T'.set k ⟨T'[k].g, T'[k].c, marksI X[k].length (k0 + (lens (X.take k) : Nat)), T'[k].rest⟩) = (marksT X k0).take (k + 1) ++ X.drop (k + 1) by rw [rows_lists, hl.out]; exact mark_step X k0 k hlt)
      have HC2 := Lib.hid (hcell2.trans hcell.out)
      have HCB := Lib.hid (HC.out.trans hcb)
      clear hrows hcb hcell2 hhd hc1 hb1 hml hbk hc0
      go_wp2
      go_roundw
      case rel => exact ⟨k + 1, _, by omega, by go_num, by rw [hlk.out]; exact congrArg (Value.int .i64) (by omega), HCB.out, HL2, HC2, HN.out⟩
      case measure => simp [intOf]; omega
    · have hk' : k = X.length := by omega
      subst hk'
      clear hO hch
      go_wp2
      go_ret
      have e1 : listsOf T' = marksT X k0 := by have := hl.out; rwa [List.drop_length, List.append_nil, List.take_of_length_le (by rw [marksT_length]; exact Nat.le_refl _)] at this
      refine ⟨T', ret_int (by rw [List.take_length]), HC.out, e1, ?_, HO.out⟩
      rw [marks_len hcell.out, HTX.out]
theorem markTable_f (Fm : Nat → Prop) (B E : Nat) (A : Option Addr) (c : Nat) (T : List RowO) (k0 : Int) (w : World) (h : TabO B E w A c T) (hX : total (listsOf T) ≤ 1048576) (hk0 : 0 ≤ k0) (hk1 : k0 ≤ 100000000) (hFr : ∀ r ∈ T, Fm r.g) :
    Calls Try.prog 30 #[.agg #[.slice A T.length c], .int .i64 k0] w fun e w' => ∃ T', e = .returned (.int .i64 (k0 + (lens (listsOf T) : Nat))) ∧ Chg Fm w w' ∧ listsOf T' = marksT (listsOf T) k0 ∧ T'.length = T.length ∧ TabO B E w' A c T' := by
  have HC := Lib.hid ((Chg.refl NoB w).alloc (.cells #[.slice A T.length c] 31))
  have h1 := h.new HC.out
  clear h
  go_enter Try.func30, Try.ntmps30
  go_wp2_with fail
  refine (markIntSS_f Fm B E A c T k0 _ h1 hX hk0 hk1 hFr).mono ?_
  rintro e w1 ⟨T', rfl, hc1, hl, hlen, hO⟩
  go_wp2
  go_ret
  exact ⟨T', rfl, (HC.out.mono (fun _ _ x => x.elim)).trans hc1, hl, hlen, hO⟩
theorem DevO.blkT {B E : Nat} {w w' : World} {A : Option Addr} {c : Nat} {T : List BkO} {F : Nat → Prop} (h : DevO B E w A c T) (hc : Chg F w w') (hF : ∀ i, F i → ∃ cs, Blk w i 3 cs) : DevO B E w' A c T := by
  have key : ∀ {b : Nat} {t : TypeId} {cs : Array Value}, Blk w b t cs → t ≠ 3 → Blk w' b t cs := fun hb ht => hb.chg hc fun hf => by
    obtain ⟨cs', h'⟩ := hF _ hf
    exact ht (hb.sameTy h')
  refine ⟨⟨h.1.1, ?_⟩, ⟨fun r hr => ?_, h.2.2⟩⟩
  · rcases h.1.2 with h0 | ⟨g, rest, e, hg, hE, hb⟩
    · exact .inl h0
    · exact .inr ⟨g, rest, e, hg, hE, key hb (by decide)⟩
  · obtain ⟨h1, h2, h3, h4⟩ := h.2.1 r hr
    exact ⟨h1, h2, key h3 (by decide), h4⟩
theorem TabO.blkT {B E : Nat} {w w' : World} {A : Option Addr} {c : Nat} {T : List RowO} {F : Nat → Prop} (h : TabO B E w A c T) (hc : Chg F w w') (hF : ∀ i, F i → (∃ cs, Blk w i 67 cs) ∨ ∃ cs, Blk w i 80 cs) : TabO B E w' A c T := by
  have key : ∀ {b : Nat} {t : TypeId} {cs : Array Value}, Blk w b t cs → t ≠ 67 → t ≠ 80 → Blk w' b t cs := fun hb h1 h2 => hb.chg hc fun hf => by
    rcases hF _ hf with ⟨cs', h'⟩ | ⟨cs', h'⟩
    · exact h1 (hb.sameTy h')
    · exact h2 (hb.sameTy h')
  refine ⟨⟨h.1.1, ?_⟩, ⟨fun r hr => ?_, h.2.2⟩⟩
  · rcases h.1.2 with h0 | ⟨g, rest, e, hg, hE, hb⟩
    · exact .inl h0
    · exact .inr ⟨g, rest, e, hg, hE, key hb (by decide) (by decide)⟩
  · obtain ⟨h1, h2, h3, h4⟩ := h.2.1 r hr
    exact ⟨h1, h2, key h3 (by decide) (by decide), h4⟩
set_option maxRecDepth 100000 in
set_option maxHeartbeats 1000000 in
theorem eqHeads_t (a b d : Int) (w : World) : Calls Try.prog 28 #[.agg #[.int .i64 a, .int .i64 b, .int .i64 d], .agg #[.int .i64 a, .int .i64 b, .int .i64 d]] w fun e w' => e = .returned (.bool true) ∧ Chg NoB w w' := by
  obtain ⟨p1, p2, p3⟩ := lit2 w 46 46 #[.int .i64 a, .int .i64 b, .int .i64 d] #[.int .i64 a, .int .i64 b, .int .i64 d]
  have x0 : ((w.alloc (.cells #[.int .i64 a, .int .i64 b, .int .i64 d] 46)).alloc (.cells #[.int .i64 a, .int .i64 b, .int .i64 d] 46)).cell? ⟨w.heap.size, 0, none⟩ = some (.int .i64 a) := (p1.cell _).trans rfl
  have x1 : ((w.alloc (.cells #[.int .i64 a, .int .i64 b, .int .i64 d] 46)).alloc (.cells #[.int .i64 a, .int .i64 b, .int .i64 d] 46)).cell? ⟨w.heap.size, 1, none⟩ = some (.int .i64 b) := (p1.cell _).trans rfl
  have x2 : ((w.alloc (.cells #[.int .i64 a, .int .i64 b, .int .i64 d] 46)).alloc (.cells #[.int .i64 a, .int .i64 b, .int .i64 d] 46)).cell? ⟨w.heap.size, 2, none⟩ = some (.int .i64 d) := (p1.cell _).trans rfl
  have y0 : ((w.alloc (.cells #[.int .i64 a, .int .i64 b, .int .i64 d] 46)).alloc (.cells #[.int .i64 a, .int .i64 b, .int .i64 d] 46)).cell? ⟨(w.heap.size + 1), 0, none⟩ = some (.int .i64 a) := (p2.cell _).trans rfl
  have y1 : ((w.alloc (.cells #[.int .i64 a, .int .i64 b, .int .i64 d] 46)).alloc (.cells #[.int .i64 a, .int .i64 b, .int .i64 d] 46)).cell? ⟨(w.heap.size + 1), 1, none⟩ = some (.int .i64 b) := (p2.cell _).trans rfl
  have y2 : ((w.alloc (.cells #[.int .i64 a, .int .i64 b, .int .i64 d] 46)).alloc (.cells #[.int .i64 a, .int .i64 b, .int .i64 d] 46)).cell? ⟨(w.heap.size + 1), 2, none⟩ = some (.int .i64 d) := (p2.cell _).trans rfl
  have HC := Lib.hid p3
  have h1 : (a != a) = false := by simp
  have h2 : (b != b) = false := by simp
  have h3 : (d != d) = false := by simp
  clear p1 p2 p3
  go_enter Try.func28, Try.ntmps28
  go_wp2_with fail
  go_ret
  exact ⟨rfl, HC.out⟩
end Go.Proofs.Ytpiojofmflfkkaa
