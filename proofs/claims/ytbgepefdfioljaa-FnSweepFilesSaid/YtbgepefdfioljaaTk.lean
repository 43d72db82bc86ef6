/- CutFile of the program and of the reference, from place 0 on, on a table that is valid. -/
import Derived.Test.YtbgepefdfioljaaTx
namespace Go.Proofs.Ytbgepefdfioljaa
open Go.RowKit
theorem tabOk_small {X : List (List Int)} (h : tabOk X) : total X ≤ 1048576 ∧ X.length ≤ 9223372036854775807 ∧ ∀ r ∈ X, r.length ≤ 9223372036854775807 := by
  have h8 := h.1
  have hr : ∀ r ∈ X, r.length = 6 := fun r hr => by
    obtain ⟨k, hk, rfl⟩ := List.getElem_of_mem hr
    exact (h.2 k hk).1
  have : ∀ (l : List (List Int)), (∀ r ∈ l, r.length = 6) → (l.map List.length).sum = 6 * l.length := by
    intro l
    induction l with
    | nil => intro _; rfl
    | cons x l ih => intro h; rw [List.map_cons, List.sum_cons, ih (fun r hr => h r (List.mem_cons_of_mem _ hr)), h x (List.mem_cons_self), List.length_cons]; omega
  refine ⟨?_, by omega, fun r h => by rw [hr r h]; omega⟩
  unfold total
  have h3 := this _ hr
  omega
theorem TabO.at_ {B E : Nat} {w : World} {A : Option Addr} {c : Nat} {T : List RowO} (h : TabO B E w A c T) {f : Nat} (hf : f < T.length) :
    ∃ ad, A = some ad ∧ B ≤ (ad.add f).block ∧ (ad.add f).block < E ∧ w.cell? (ad.add f) = some (.slice (some ⟨T[f].g, 0, none⟩) T[f].xs.length T[f].c) := by
  obtain ⟨ad, e, hf', hb, hc⟩ := h.1.rd.at_ (k := f) (by simpa using hf)
  rw [List.getElem_map] at hc
  have hb' : (ad.add f).block = ad.block := block_add _ _
  exact ⟨ad, e, by rw [hb']; exact hf'.1, by rw [hb']; exact hf'.2, hc⟩
/-- One list of the table is turned. -/
theorem TabO.setRow {B E : Nat} {w w' : World} {A : Option Addr} {c : Nat} {T : List RowO} (h : TabO B E w A c T) {f : Nat} (hf : f < T.length) {ys : List Int} (hc : Chg (· = T[f].g) w w') (hl : ys.length = T[f].xs.length) (hb : Blk w' T[f].g 3 (icells ys ++ T[f].rest).toArray) :
    TabO B E w' A c (T.set f ⟨T[f].g, T[f].c, ys, T[f].rest⟩) := by
  have hrows := rows_mark (ys := ys) h.2 hf (hc.mono (G := fun i => T[f].g ≤ i ∧ i < T[f].g + 1) (fun i _ hi => by omega)) hl hb
  refine ⟨?_, hrows⟩
  rw [List.length_set, rows_cell (rest' := T[f].rest) hf hl]
  have h0 := h.1
  refine ⟨h0.1, ?_⟩
  rcases h0.2 with h0 | ⟨g', rest, hA, hg, hE, hbb⟩
  · exact .inl h0
  · exact .inr ⟨g', rest, hA, hg, hE, hbb.chg hc (fun he => ty_ne (Blk.ty (h.2.1 _ (List.getElem_mem hf)).2.2.1 (by rw [← he]; exact hbb)))⟩
theorem icells_set (xs : List Int) (k : Nat) (v : Int) : icells (xs.set k v) = (icells xs).set k (.int .i64 v) := by unfold icells; rw [List.map_set]
/-- A number is stored into a list. -/
theorem row_store {w : World} {g : Nat} {xs : List Int} {rest : List Value} (h : Blk w g 3 (icells xs ++ rest).toArray) {k : Nat} (hk : k < xs.length) (v : Int) :
    Blk (w.setCell ⟨g, k, none⟩ (.int .i64 v)) g 3 (icells (xs.set k v) ++ rest).toArray := by
  have h1 := h.set_ k (.int .i64 v)
  have e : ((icells xs ++ rest).toArray).setIfInBounds k (.int .i64 v) = (icells (xs.set k v) ++ rest).toArray := by
    rw [List.setIfInBounds_toArray, icells_set, List.set_append_left _ _ (by rw [icells_length]; exact hk)]
  rw [← e]
  exact h1
theorem row_cell {w : World} {g : Nat} {xs : List Int} {rest : List Value} (h : Blk w g 3 (icells xs ++ rest).toArray) {k : Nat} (hk : k < xs.length) : w.cell? ⟨g, k, none⟩ = some (.int .i64 xs[k]) := by
  rw [h.cell]
  have hl : k < (icells xs).length := by rw [icells_length]; exact hk
  rw [List.getElem?_toArray, List.getElem?_append_left hl]
  simp [icells, hk]
/-- A list whose first k places are cut. -/
def cutRow (k : Nat) (xs : List Int) : List Int := List.replicate k (-1) ++ xs.drop k
theorem cutRow_zero (xs : List Int) : cutRow 0 xs = xs := by simp [cutRow]
theorem cutRow_len {xs : List Int} {k : Nat} (h : k ≤ xs.length) : (cutRow k xs).length = xs.length := by simp [cutRow]; omega
theorem cutRow_succ {xs : List Int} {k : Nat} (h : k < xs.length) : (cutRow k xs).set k (-1) = cutRow (k + 1) xs := by
  unfold cutRow
  rw [List.set_append_right _ _ (by simp), List.length_replicate, Nat.sub_self, List.drop_eq_getElem_cons h, List.set_cons_zero, List.replicate_succ', List.append_assoc]
  rfl
theorem cutRow_all {xs : List Int} (h : xs.length = 6) : cutRow 6 xs = List.replicate 6 (-1) := by
  unfold cutRow
  rw [List.drop_of_length_le (by omega), List.append_nil]
theorem rowOk_less {pre pre' r : List Int} (h : rowOk pre r) (hs : ∀ x ∈ pre', 0 ≤ x → x ∈ pre) : rowOk pre' r := by
  refine ⟨h.1, fun k hk => ⟨(h.2 k hk).1, (h.2 k hk).2.1, fun h0 hm => ?_⟩⟩
  refine (h.2 k hk).2.2 h0 ?_
  rcases List.mem_append.1 hm with h1 | h1
  · exact List.mem_append.2 (.inl (hs _ h1 h0))
  · exact List.mem_append.2 (.inr h1)
theorem rowOk_blank (pre : List Int) : rowOk pre (List.replicate 6 (-1)) := ⟨by simp, fun k hk => by rw [List.getElem_replicate]; exact ⟨by omega, by omega, fun h => absurd h (by omega)⟩⟩
theorem tabOk_cut {X : List (List Int)} (h : tabOk X) (f : Nat) : tabOk (X.set f (List.replicate 6 (-1))) := by
  refine ⟨by rw [List.length_set]; exact h.1, fun j hj => ?_⟩
  rw [List.length_set] at hj
  rw [List.getElem_set]
  split
  · exact rowOk_blank _
  · refine rowOk_less (h.2 j hj) fun x hx h0 => ?_
    obtain ⟨l, hl, hxl⟩ := List.mem_flatten.1 hx
    refine List.mem_flatten.2 ⟨l, ?_, hxl⟩
    rw [List.take_set] at hl
    rcases List.mem_or_eq_of_mem_set hl with h1 | rfl
    · exact h1
    · have := List.eq_of_mem_replicate hxl; omega
set_option maxRecDepth 100000 in
set_option maxHeartbeats 1000000 in
theorem iCutFile_any (F : Nat → Prop) (A : Option Addr) (c : Nat) (X : List (List Int)) (w : World) (h : TabR F w A X) (hX : tabOk X) (f : Nat) (hf : f < 8) :
    Calls Try.prog 70 #[.agg #[.slice A X.length c], .int .i64 f, .int .i64 0] w fun e w' => ∃ A' c' T, e = .returned (.agg #[.slice A' 8 c']) ∧ listsOf T = X.set f (List.replicate 6 (-1)) ∧ Chg NoB w w' ∧ TabO w.heap.size w'.heap.size w' A' c' T := by
  obtain ⟨hb1, hb2, hcb⟩ := lit2 w 39 39 #[.slice A X.length c] #[.slice none 0 0]
  have HB1 := Lib.hid hb1
  have HB2 := Lib.hid hb2
  have HC0 := Lib.hid hcb
  have h0 := h.lt.new hcb
  have HX := Lib.hid hX
  have h8 := hX.1
  have hXl := Lib.hid (show X.length ≤ 9223372036854775807 by omega)
  have hXr : ∀ r ∈ X, r.length ≤ 9223372036854775807 := fun r hr => by
    obtain ⟨k, hk, rfl⟩ := List.getElem_of_mem hr
    have := (hX.2 k hk).1; omega
  have HXR := Lib.hid hXr
  have hi0 : (0 : Int) ≤ (f : Int) := Int.natCast_nonneg _
  have hi1 : (f : Int) < 8 := by omega
  have hi2 : ¬ ((f : Int) < 0) := by omega
  have hi3 : ¬ ((8 : Int) ≤ (f : Int)) := by omega
  clear hb1 hb2 hcb hX hXr h8
  go_enter Try.func70, Try.ntmps70
  go_wp2_with fail
  refine (iTableValid_any _ A c X _ h0).mono ?_
  rintro e w1 ⟨r, rfl, hr, hc1⟩
  obtain rfl : r = true := hr.2 HX.out
  have H1 := Lib.hid (h0.new hc1)
  have HC1 := Lib.hid (HC0.out.trans hc1)
  have hb1 := HB1.out.chg hc1 (fun x => x)
  have x0 : w1.cell? ⟨w.heap.size, 0, none⟩ = some (.slice A X.length c) := (hb1.cell _).trans rfl
  have HB2' := Lib.hid (HB2.out.chg hc1 (fun x => x))
  clear hr h0 hb1 hc1 HB1 HB2
  go_wp2_with fail
  refine (cloneTable_any _ A c X _ H1.out HX.out).mono ?_
  rintro e w2 ⟨g, T, rfl, hT, hc2, hO⟩
  have h8 := HX.out.1
  have hT8 : T.length = 8 := by rw [← listsOf_length, hT, h8]
  have HT := Lib.hid hT
  have HO := Lib.hid hO
  have HC2 := Lib.hid (HC1.out.trans hc2)
  have HR2 := Lib.hid (HB2'.out.chg hc2 (fun x => x))
  have hca := (Chg.refl NoB w2).alloc (.cells #[.slice (some ⟨g, 0, none⟩) 8 8] 39)
  have HV0 := Lib.hid (Blk.new w2 39 #[.slice (some ⟨g, 0, none⟩) 8 8])
  have HC3 := Lib.hid (HC2.out.trans hca)
  have HR3 := Lib.hid (HR2.out.chg hca (fun x => x))
  have HO3 := Lib.hid (HO.out.new hca)
  have HSZ := Lib.hid (show (w2.alloc (.cells #[.slice (some ⟨g, 0, none⟩) 8 8] 39)).heap.size = w2.heap.size + 1 by rw [World.size_alloc])
  have HS1 := Lib.hid (show w.heap.size + 1 < w1.heap.size from HB2'.out.lt)
  have HS2 := Lib.hid hc2.size
  clear hT hO hc2 hca x0 h8 hT8
  go_wp2
  obtain ⟨V, hV⟩ : ∃ V, w2.heap.size = V := ⟨_, rfl⟩
  have hVz := HSZ.out
  have hVs := HS2.out
  rw [hV] at HV0 hVz hVs HO HO3 ⊢
  replace HSZ := Lib.hid hVz
  replace HS2 := Lib.hid hVs
  clear hV hVz hVs
  go_loopw [8] (fun i wr => ∃ (k : Nat) (T : List RowO), k ≤ 6 ∧ i = .int .i64 k ∧ Chg NoB w wr ∧ Blk wr (w.heap.size + 1) 39 #[.slice none 0 0] ∧ Blk wr V 39 #[.slice (some ⟨g, 0, none⟩) 8 8] ∧ Hid (∃ hf' : f < X.length, listsOf T = X.set f (cutRow k X[f])) ∧ TabO w1.heap.size V wr (some ⟨g, 0, none⟩) 8 T) (fun i _ => 6 - (intOf i).toNat)
  case atStart => exact ⟨0, T, Nat.zero_le _, rfl, HC3.out, HR3.out, HV0.out, Lib.hid ⟨by rw [HX.out.1]; exact hf, by rw [cutRow_zero, List.set_getElem_self]; exact HT.out⟩, HO3.out⟩
  case round =>
    obtain ⟨wo, rfl⟩ : ∃ wo, wo = wr := ⟨_, rfl⟩
    obtain ⟨k, T', hk6, rfl, hch, hbr, hbv, ⟨hf', hT'⟩, hO⟩ := hrel
    have hTl : T'.length = 8 := by rw [← listsOf_length, hT', List.length_set, HX.out.1]
    have HC := Lib.hid hch
    have HR := Lib.hid hbr
    have HVV := Lib.hid hbv
    have HOO := Lib.hid hO
    have HT' := Lib.hid hT'
    have v0 : wo.cell? ⟨V, 0, none⟩ = some (.slice (some ⟨g, 0, none⟩) 8 8) := (hbv.cell _).trans rfl
    have hlV := HSZ.out
    have hlV1 := HS1.out
    have hlV2 := HS2.out
    by_cases hlt : k < 6
    · have hfT : f < T'.length := by omega
      have h6 : X[f].length = 6 := (HX.out.2 f hf').1
      have hxs : T'[f].xs = cutRow k X[f] := by
        have h1 : (listsOf T')[f]'(by rw [listsOf_length]; exact hfT) = T'[f].xs := by simp [listsOf]
        rw [← h1]; simp [hT']
      have hl6 : T'[f].xs.length = 6 := by rw [hxs, cutRow_len (by omega), h6]
      obtain ⟨ad, he, hB1, hE1, hcell⟩ := hO.at_ hfT
      injection he with he
      subst he
      have hgadd : (⟨g, 0, none⟩ : Addr).add f = ⟨g, f, none⟩ := by unfold Addr.add; split <;> simp_all
      rw [hgadd] at hcell hB1 hE1
      rw [hl6] at hcell
      have hok := hO.2.1 T'[f] (List.getElem_mem hfT)
      have hrc := row_cell hok.2.2.1 (k := k) (by omega)
      have hrf := hok.2.2.1.frozen k
      have hstore := row_store hok.2.2.1 (k := k) (by omega) (-1)
      have hcs : Chg (· = T'[f].g) wo (wo.setCell ⟨T'[f].g, k, none⟩ (.int .i64 (-1))) := (Chg.refl (· = T'[f].g) wo).setCell (p := ⟨T'[f].g, k, none⟩) (.inl rfl) _
      have HG := Lib.hid (show w1.heap.size ≤ T'[f].g ∧ T'[f].g < V from ⟨hok.1, hok.2.1⟩)
      have HN := Lib.hid (hO.setRow hfT hcs (by rw [List.length_set]) hstore)
      have HL := Lib.hid (show listsOf (T'.set f ⟨T'[f].g, T'[f].c, T'[f].xs.set k (-1), T'[f].rest⟩) = X.set f (cutRow (k + 1) X[f]) by rw [rows_lists, hT', List.set_set]; simp only; rw [hxs, cutRow_succ (by omega)])
      have HCS := Lib.hid hcs
      obtain ⟨gf, hgf⟩ : ∃ gf, T'[f].g = gf := ⟨_, rfl⟩
      obtain ⟨xk, hxk⟩ : ∃ xk, T'[f].xs[k]'(by omega) = xk := ⟨_, rfl⟩
      obtain ⟨cf, hcf⟩ : ∃ cf, T'[f].c = cf := ⟨_, rfl⟩
      rw [hgf, hcf] at hcell
      rw [hgf, hxk] at hrc
      rw [hgf] at hrf HG
      have HGF := Lib.hid hgf
      have hk0 : (0 : Int) ≤ (k : Int) := Int.natCast_nonneg _
      have hk1 : (k : Int) < 6 := by omega
      have hk5 : (k : Int) ≤ 5 := by omega
      clear hch hbr hbv hO hok hstore hcs hxs hgf hcf hxk hT' h6
      go_wp2_with fail
      (try go_region)
      go_wp2_with fail
      go_roundw
      case rel =>
        have hg := HG.out
        refine ⟨k + 1, T'.set f ⟨T'[f].g, T'[f].c, T'[f].xs.set k (-1), T'[f].rest⟩, by omega, by go_num, ?_, ?_, ?_, Lib.hid ⟨hf', HL.out⟩, ?_⟩
        · have h1 := HC.out.own HCS.out (by rw [HGF.out]; omega); rw [HGF.out] at h1; exact h1
        · have h1 := HR.out.chg HCS.out (by rw [HGF.out]; omega); rw [HGF.out] at h1; exact h1
        · have h1 := HVV.out.chg HCS.out (by rw [HGF.out]; omega); rw [HGF.out] at h1; exact h1
        · have h1 := HN.out; rw [HGF.out] at h1 ⊢; exact h1
      case measure => simp [intOf]; omega
    · obtain rfl : k = 6 := by omega
      have r0 : wo.cell? ⟨w.heap.size + 1, 0, none⟩ = some (.slice none 0 0) := (hbr.cell _).trans rfl
      have rf := hbr.frozen 0
      have h6 : X[f].length = 6 := (HX.out.2 f hf').1
      have HXX := Lib.hid (show listsOf T' = X.set f (List.replicate 6 (-1)) by rw [hT', cutRow_all h6])
      have HVL := Lib.hid hbv.lt
      clear hch hbr hbv hO hT' h6
      go_wp2_with fail
      (try simp only [Exit.inBlock, Exit.then])
      refine bodyPost_ret (v := .agg #[.slice (some ⟨g, 0, none⟩) 8 8]) (by simp [results, Try.results70, go_sem, *]) rfl ?_
      have hcs : Chg (· = w.heap.size + 1) wo (wo.setCell ⟨w.heap.size + 1, 0, none⟩ (.slice (some ⟨g, 0, none⟩) 8 8)) := (Chg.refl (· = w.heap.size + 1) wo).setCell (p := ⟨w.heap.size + 1, 0, none⟩) (.inl rfl) _
      have hss : (wo.setCell ⟨w.heap.size + 1, 0, none⟩ (.slice (some ⟨g, 0, none⟩) 8 8)).heap.size = wo.heap.size := World.size_setCell _ _ _
      have hvl := HVL.out
      refine ⟨(some ⟨g, 0, none⟩), 8, T', rfl, HXX.out, HC.out.own hcs (Nat.le_succ _), ?_⟩
      exact (HOO.out.chg hcs (fun i h1 h2 h3 => by omega)).more (by omega) (by rw [hss]; omega)
set_option maxRecDepth 100000 in
set_option maxHeartbeats 1000000 in
theorem sCutFile_any (F : Nat → Prop) (A : Option Addr) (c : Nat) (X : List (List Int)) (w : World) (h : TabR F w A X) (hX : tabOk X) (f : Nat) (hf : f < 8) :
    Calls Try.prog 73 #[.agg #[.slice A X.length c], .int .i64 f, .int .i64 0] w fun e w' => ∃ A' c' T, e = .returned (.agg #[.slice A' 8 c']) ∧ listsOf T = X.set f (List.replicate 6 (-1)) ∧ Chg NoB w w' ∧ TabO w.heap.size w'.heap.size w' A' c' T := by
  obtain ⟨hb1, hb2, hcb⟩ := lit2 w 39 39 #[.slice A X.length c] #[.slice none 0 0]
  have HB1 := Lib.hid hb1
  have HB2 := Lib.hid hb2
  have HC0 := Lib.hid hcb
  have h0 := h.lt.new hcb
  have HX := Lib.hid hX
  have h8 := hX.1
  have hXl := Lib.hid (show X.length ≤ 9223372036854775807 by omega)
  have hXr : ∀ r ∈ X, r.length ≤ 9223372036854775807 := fun r hr => by
    obtain ⟨k, hk, rfl⟩ := List.getElem_of_mem hr
    have := (hX.2 k hk).1; omega
  have HXR := Lib.hid hXr
  have hi0 : (0 : Int) ≤ (f : Int) := Int.natCast_nonneg _
  have hi1 : (f : Int) < 8 := by omega
  have hi2 : ¬ ((f : Int) < 0) := by omega
  have hi3 : ¬ ((8 : Int) ≤ (f : Int)) := by omega
  clear hb1 hb2 hcb hX hXr h8
  go_enter Try.func73, Try.ntmps73
  go_wp2_with fail
  refine (sTableValid_any _ A c X _ h0 hXl.out HXR.out).mono ?_
  rintro e w1 ⟨r, rfl, hr, hc1⟩
  obtain rfl : r = true := hr.2 HX.out
  have H1 := Lib.hid (h0.new hc1)
  have HC1 := Lib.hid (HC0.out.trans hc1)
  have hb1 := HB1.out.chg hc1 (fun x => x)
  have x0 : w1.cell? ⟨w.heap.size, 0, none⟩ = some (.slice A X.length c) := (hb1.cell _).trans rfl
  have HB2' := Lib.hid (HB2.out.chg hc1 (fun x => x))
  clear hr h0 hb1 hc1 HB1 HB2
  go_wp2_with fail
  refine (l1In_t (f : Int) 0 7 _ ⟨by omega, by omega⟩).mono ?_
  rintro e w' ⟨rfl, rfl⟩
  go_wp2_with fail
  refine (l1In_t (0 : Int) 0 6 _ ⟨by omega, by omega⟩).mono ?_
  rintro e w' ⟨rfl, rfl⟩
  go_wp2_with fail
  refine (l7Copy_any _ A c X _ H1.out HX.out).mono ?_
  rintro e w2 ⟨Aq, cq, T, rfl, hT, hc2, hO⟩
  have h8 := HX.out.1
  have hT8 : T.length = 8 := by rw [← listsOf_length, hT, h8]
  have HT := Lib.hid hT
  have HO := Lib.hid hO
  have HC2 := Lib.hid (HC1.out.trans hc2)
  have HR2 := Lib.hid (HB2'.out.chg hc2 (fun x => x))
  have hca := (Chg.refl NoB w2).alloc (.cells #[.slice Aq 8 cq] 39)
  have HV0 := Lib.hid (Blk.new w2 39 #[.slice Aq 8 cq])
  have HC3 := Lib.hid (HC2.out.trans hca)
  have HR3 := Lib.hid (HR2.out.chg hca (fun x => x))
  have HO3 := Lib.hid (HO.out.new hca)
  have HSZ := Lib.hid (show (w2.alloc (.cells #[.slice Aq 8 cq] 39)).heap.size = w2.heap.size + 1 by rw [World.size_alloc])
  have HS1 := Lib.hid (show w.heap.size + 1 < w1.heap.size from HB2'.out.lt)
  have HS2 := Lib.hid hc2.size
  clear hT hO hc2 hca x0 h8 hT8
  go_wp2
  obtain ⟨V, hV⟩ : ∃ V, w2.heap.size = V := ⟨_, rfl⟩
  have hVz := HSZ.out
  have hVs := HS2.out
  rw [hV] at HV0 hVz hVs HO HO3 ⊢
  replace HSZ := Lib.hid hVz
  replace HS2 := Lib.hid hVs
  clear hV hVz hVs
  go_loopw [8] (fun i wr => ∃ (k : Nat) (T : List RowO), k ≤ 6 ∧ i = .int .i64 k ∧ Chg NoB w wr ∧ Blk wr (w.heap.size + 1) 39 #[.slice none 0 0] ∧ Blk wr V 39 #[.slice Aq 8 cq] ∧ Hid (∃ hf' : f < X.length, listsOf T = X.set f (cutRow k X[f])) ∧ TabO w1.heap.size V wr Aq cq T) (fun i _ => 6 - (intOf i).toNat)
  case atStart => exact ⟨0, T, Nat.zero_le _, rfl, HC3.out, HR3.out, HV0.out, Lib.hid ⟨by rw [HX.out.1]; exact hf, by rw [cutRow_zero, List.set_getElem_self]; exact HT.out⟩, HO3.out⟩
  case round =>
    obtain ⟨wo, rfl⟩ : ∃ wo, wo = wr := ⟨_, rfl⟩
    obtain ⟨k, T', hk6, rfl, hch, hbr, hbv, ⟨hf', hT'⟩, hO⟩ := hrel
    have hTl : T'.length = 8 := by rw [← listsOf_length, hT', List.length_set, HX.out.1]
    have HC := Lib.hid hch
    have HR := Lib.hid hbr
    have HVV := Lib.hid hbv
    have HOO := Lib.hid hO
    have HT' := Lib.hid hT'
    have v0 : wo.cell? ⟨V, 0, none⟩ = some (.slice Aq 8 cq) := (hbv.cell _).trans rfl
    have hlV := HSZ.out
    have hlV1 := HS1.out
    have hlV2 := HS2.out
    by_cases hlt : k < 6
    · have hfT : f < T'.length := by omega
      have h6 : X[f].length = 6 := (HX.out.2 f hf').1
      have hxs : T'[f].xs = cutRow k X[f] := by
        have h1 : (listsOf T')[f]'(by rw [listsOf_length]; exact hfT) = T'[f].xs := by simp [listsOf]
        rw [← h1]; simp [hT']
      have hl6 : T'[f].xs.length = 6 := by rw [hxs, cutRow_len (by omega), h6]
      obtain ⟨ad, he, hB1, hE1, hcell⟩ := hO.at_ hfT
      subst he
      rw [hl6] at hcell
      have hok := hO.2.1 T'[f] (List.getElem_mem hfT)
      have hrc := row_cell hok.2.2.1 (k := k) (by omega)
      have hrf := hok.2.2.1.frozen k
      have hstore := row_store hok.2.2.1 (k := k) (by omega) (-1)
      have hcs : Chg (· = T'[f].g) wo (wo.setCell ⟨T'[f].g, k, none⟩ (.int .i64 (-1))) := (Chg.refl (· = T'[f].g) wo).setCell (p := ⟨T'[f].g, k, none⟩) (.inl rfl) _
      have HG := Lib.hid (show w1.heap.size ≤ T'[f].g ∧ T'[f].g < V from ⟨hok.1, hok.2.1⟩)
      have HN := Lib.hid (hO.setRow hfT hcs (by rw [List.length_set]) hstore)
      have HL := Lib.hid (show listsOf (T'.set f ⟨T'[f].g, T'[f].c, T'[f].xs.set k (-1), T'[f].rest⟩) = X.set f (cutRow (k + 1) X[f]) by rw [rows_lists, hT', List.set_set]; simp only; rw [hxs, cutRow_succ (by omega)])
      have HCS := Lib.hid hcs
      obtain ⟨gf, hgf⟩ : ∃ gf, T'[f].g = gf := ⟨_, rfl⟩
      obtain ⟨xk, hxk⟩ : ∃ xk, T'[f].xs[k]'(by omega) = xk := ⟨_, rfl⟩
      obtain ⟨cf, hcf⟩ : ∃ cf, T'[f].c = cf := ⟨_, rfl⟩
      rw [hgf, hcf] at hcell
      rw [hgf, hxk] at hrc
      rw [hgf] at hrf HG
      have HGF := Lib.hid hgf
      have hk0 : (0 : Int) ≤ (k : Int) := Int.natCast_nonneg _
      have hk1 : (k : Int) < 6 := by omega
      have hk5 : (k : Int) ≤ 5 := by omega
      clear hch hbr hbv hO hok hstore hcs hxs hgf hcf hxk hT' h6
      go_wp2_with fail
      (try go_region)
      go_wp2_with fail
      go_roundw
      case rel =>
        have hg := HG.out
        refine ⟨k + 1, T'.set f ⟨T'[f].g, T'[f].c, T'[f].xs.set k (-1), T'[f].rest⟩, by omega, by go_num, ?_, ?_, ?_, Lib.hid ⟨hf', HL.out⟩, ?_⟩
        · have h1 := HC.out.own HCS.out (by rw [HGF.out]; omega); rw [HGF.out] at h1; exact h1
        · have h1 := HR.out.chg HCS.out (by rw [HGF.out]; omega); rw [HGF.out] at h1; exact h1
        · have h1 := HVV.out.chg HCS.out (by rw [HGF.out]; omega); rw [HGF.out] at h1; exact h1
        · have h1 := HN.out; rw [HGF.out] at h1 ⊢; exact h1
      case measure => simp [intOf]; omega
    · obtain rfl : k = 6 := by omega
      have r0 : wo.cell? ⟨w.heap.size + 1, 0, none⟩ = some (.slice none 0 0) := (hbr.cell _).trans rfl
      have rf := hbr.frozen 0
      have h6 : X[f].length = 6 := (HX.out.2 f hf').1
      have HXX := Lib.hid (show listsOf T' = X.set f (List.replicate 6 (-1)) by rw [hT', cutRow_all h6])
      have HVL := Lib.hid hbv.lt
      clear hch hbr hbv hO hT' h6
      go_wp2_with fail
      (try simp only [Exit.inBlock, Exit.then])
      refine bodyPost_ret (v := .agg #[.slice Aq 8 cq]) (by simp [results, Try.results73, go_sem, *]) rfl ?_
      have hcs : Chg (· = w.heap.size + 1) wo (wo.setCell ⟨w.heap.size + 1, 0, none⟩ (.slice Aq 8 cq)) := (Chg.refl (· = w.heap.size + 1) wo).setCell (p := ⟨w.heap.size + 1, 0, none⟩) (.inl rfl) _
      have hss : (wo.setCell ⟨w.heap.size + 1, 0, none⟩ (.slice Aq 8 cq)).heap.size = wo.heap.size := World.size_setCell _ _ _
      have hvl := HVL.out
      refine ⟨Aq, cq, T', rfl, HXX.out, HC.out.own hcs (Nat.le_succ _), ?_⟩
      exact (HOO.out.chg hcs (fun i h1 h2 h3 => by omega)).more (by omega) (by rw [hss]; omega)
end Go.Proofs.Ytbgepefdfioljaa
