/- The laws FnPutsValid and FnPutValue: the walks. -/
import Derived.Test.YtgfhplejdpjgoaaPb
namespace Go.Proofs.Ytgfhplejdpjgoaa
open Go.RowKit
theorem own_lit (w : World) (e : TypeId) (size n : Nat) (cs : List Value) (hl : cs.length = n * size) (hn : n ≤ maxLen) : (w.alloc (.cells cs.toArray e)).ownsRow w.heap.size e size (.slice (some ⟨w.heap.size, 0, none⟩) n n) n cs :=
  ⟨hl, .inr ⟨w.heap.size, n, cs.toArray, rfl, Nat.le_refl _, heap_alloc_new w _, Nat.le_refl _, hn, by simpa using hl, by simp [← hl]⟩⟩
theorem rd_newsP {F : Nat → Prop} {w w' : World} {ad : Addr} {xs : List Value} (h : Rd F w (some ad) xs) (hc : Chg NoB w w') : ∀ j u, xs[j]? = some u → w'.cell? (ad.add j) = some u := fun j u hj => by
  obtain ⟨ad', e, _, hcell⟩ := (h.lt.chg hc fun _ _ x => x) j u hj
  cases e
  exact hcell
theorem pcells_one (xs : List Pt) : ∀ u ∈ pcells xs, u.oneCell' = true := by
  intro u hu
  unfold pcells at hu
  obtain ⟨x, _, hx⟩ := List.mem_flatMap.1 hu
  simp [Pt.enc] at hx
  rcases hx with rfl | rfl | rfl <;> rfl
theorem rd_drop {F : Nat → Prop} {w : World} {ad : Addr} {xs : List Pt} (h : Rd F w (some ad) (pcells xs)) (k : Nat) (hk : k ≤ xs.length) : Rd F w (some (ad.add (k * 3))) (pcells (xs.drop k)) := by
  intro q u hq
  have hs : pcells xs = pcells (xs.take k) ++ pcells (xs.drop k) := by unfold pcells; rw [← List.flatMap_append, List.take_append_drop]
  have hlen : (pcells (xs.take k)).length = k * 3 := by rw [pcells_len, List.length_take]; congr 1; omega
  obtain ⟨ad', e, hf, hcell⟩ := h (k * 3 + q) u (by rw [hs, List.getElem?_append_right (by omega), hlen, Nat.add_sub_cancel_left]; exact hq)
  cases e
  refine ⟨_, rfl, ?_, ?_⟩
  · rw [block_add]; exact hf
  · rw [← hcell]; congr 1; rw [← add_add']

set_option maxRecDepth 100000 in
set_option maxHeartbeats 2000000 in
theorem FnPutsValid_any (A : Option Addr) (c : Nat) (bs : List Nat) (w : World) (h : Rd (fun i => i < w.heap.size) w A (bs.map fun (b : Nat) => Value.int .u8 (b : Int))) (hx : ∀ b ∈ bs, b < 256) (hc : bs.length ≤ c) (_hm : c ≤ maxLen) :
    Calls Try.prog 5 #[.slice A bs.length c] w fun e w' => e = .returned (.bool true) ∧ Chg NoB w w' := by
  obtain ⟨i0, hi, hz0, hz1, hz2⟩ := info_parts info_put
  by_cases hl : 1048576 < bs.length
  · go_enter Try.func5, Try.ntmps5
    go_wp2
    go_ret
    exact ⟨rfl, Chg.refl _ _⟩
  have hl' : bs.length ≤ 1048576 := by omega
  go_enter Try.func5, Try.ntmps5
  go_wp2_with fail
  refine (DrawPutsValid_any A c bs w h hx hc).mono ?_
  rintro e w1 ⟨ad, c', xs, rfl, hrd, hle, h8, hc1⟩
  go_wp2_with fail
  refine (iPutsValid_any _ (some ad) c' xs _ hrd).mono ?_
  rintro e w2 ⟨b, rfl, hb, hc2⟩
  have hrd2 := hrd.lt.chg hc2 (fun _ _ x => x)
  go_wp2_with fail
  refine (sPutsValid_any _ (some ad) c' xs _ hrd2 (by omega)).mono ?_
  rintro e w3 ⟨b', rfl, hb', hc3⟩
  obtain rfl : b' = b := by rw [Bool.eq_iff_iff, hb, hb']
  have hrd3 := hrd2.chg hc3 (fun _ _ x => x)
  have HC3 := Lib.hid ((hc1.trans hc2).trans hc3)
  have HB := Lib.hid hb
  have hbb : (b' != b') = false := by simp
  clear hb hb' hc1 hc2 hc3
  have hown := own_lit w3 39 3 1 [.int .i64 (-1), .int .i64 0, .int .i64 0] rfl (by simp only [maxLen]; omega)
  have hca := (Chg.refl NoB w3).alloc (.cells [.int .i64 (-1), .int .i64 0, .int .i64 0].toArray 39)
  have Hn := Lib.hid (rd_newsP hrd3 hca)
  have Hl := Lib.hid (pcells_len xs)
  have hone := pcells_one xs
  have HO := Lib.hid hown
  have HCA := Lib.hid hca
  have hrd4 := hrd3.lt.chg hca (fun _ _ x => x)
  clear hown hca hrd hrd2 hrd3
  go_wp2_with (at_builtin; refine wpList_append_own _ rfl (.tmp 17) (.tmp 18) _ rfl w3.heap.size 39 i0 (.agg #[.int .i64 0, .int .i64 0, .int .i64 0]) 3 24 Try.underlying32 hi hz0 hz1 hz2 rfl (by decide) _ 1 _ rfl HO.out ad xs.length c' (pcells xs) rfl Hl.out Hn.out hone (by simp only [maxLen]; omega) (by omega) (by simp) ?_; intro v' w4 hown' hgrow _; have hc4 := chg_grown HO.out hgrow HCA.out (Nat.le_refl _); have hc4' := (Chg.refl (fun i => w3.heap.size ≤ i) _).grown hgrow (fun k hk => .inl (HO.out.lt k hk).1); obtain ⟨A4, c4, hv4, hle4, hrd5⟩ := own_rd hown'; subst hv4; have hrd6 := hrd4.chg hc4' (fun i hi hh => by omega); have HC4 := Lib.hid (HC3.out.trans hc4); clear hown' hgrow hc4 hc4' hrd4)
  have hnot : ¬ putsOk ((⟨-1, 0, 0⟩ : Pt) :: xs) := fun hh => by have := (hh.2 _ (List.mem_cons_self)).1; simp at this
  have hcv := iPutsValid_any _ A4 c4 ((⟨-1, 0, 0⟩ : Pt) :: xs) w4 hrd5
  rw [List.length_cons, Nat.add_comm] at hcv
  refine hcv.mono ?_
  rintro e w5 ⟨b5, rfl, hb5, hc5⟩
  obtain rfl : b5 = false := by
    cases b5
    · rfl
    · exact absurd (hb5.1 rfl) hnot
  have hrd7 := hrd6.chg hc5 (fun _ _ x => x)
  have HC5 := Lib.hid (HC4.out.trans hc5)
  clear hb5 hcv hnot hrd5 hrd6 hc5
  cases b'
  · go_wp2_with fail
    refine (alive_any _).mono ?_
    rintro e w' ⟨rfl, rfl⟩
    go_wp2
    go_ret
    exact ⟨rfl, HC5.out⟩
  · have hok : putsOk xs := HB.out.1 rfl
    have hdr : putsOk (xs.drop (xs.length / 2)) := ⟨by rw [List.length_drop]; have := hok.1; omega, fun x hx => hok.2 x (List.mem_of_mem_drop hx)⟩
    have hdl : (xs.drop (xs.length / 2)).length = xs.length - xs.length / 2 := by simp
    have hrd8 := rd_drop hrd7 (xs.length / 2) (by omega)
    have HDR := Lib.hid hdr
    clear hok hdr
    by_cases h0 : xs.length = 0
    · obtain rfl : xs = [] := List.eq_nil_of_length_eq_zero h0
      go_wp2_with fail
      refine (iPutsValid_any (fun _ => False) _ _ [] _ (Rd.nil _ _ _)).mono ?_
      rintro e w6 ⟨b6, rfl, hb6, hc6⟩
      obtain rfl : b6 = true := hb6.2 HDR.out
      go_wp2_with fail
      refine (alive_any _).mono ?_
      rintro e w' ⟨rfl, rfl⟩
      go_wp2
      go_ret
      exact ⟨rfl, HC5.out.trans hc6⟩
    · have hcne : ¬ c' = xs.length / 2 := by omega
      have hq1 : (xs.length / 2 : Nat) ≤ xs.length := by omega
      have hcv := iPutsValid_any _ (some (ad.add (xs.length / 2 * 3))) (c' - xs.length / 2) (xs.drop (xs.length / 2)) _ hrd8
      rw [hdl] at hcv
      have HCV := Lib.hid hcv
      clear hcv hrd8 hdl
      go_wp2_with fail
      refine HCV.out.mono ?_
      rintro e w6 ⟨b6, rfl, hb6, hc6⟩
      obtain rfl : b6 = true := hb6.2 HDR.out
      go_wp2_with fail
      refine (alive_any _).mono ?_
      rintro e w' ⟨rfl, rfl⟩
      go_wp2
      go_ret
      exact ⟨rfl, HC5.out.trans hc6⟩
end Go.Proofs.Ytgfhplejdpjgoaa
