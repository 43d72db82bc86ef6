/- Parts of the proof, merged: Zi, Um. -/
import Derived.Test.YtpiojofmflfkkaaMc
import Derived.Test.YtpiojofmflfkkaaMb
/- Marks on devices, and whether they are still held. -/
namespace Go.Proofs.Ytpiojofmflfkkaa
open Go.RowKit
def mkPg (z : Int) : Pg := ⟨z % 3 == 0, z + 1, z + 1 + 1, z + 1 + 1 + 1, z + 1 + 1 + 1 + 1⟩
def mkPgs (n : Nat) (k : Int) : List Pg := (List.range n).map fun (i : Nat) => mkPg (k + 5 * (i : Int))
theorem mkPgs_len (n : Nat) (k : Int) : (mkPgs n k).length = n := by simp [mkPgs]
theorem mkPgs_succ (n : Nat) (k : Int) : mkPgs (n + 1) k = mkPgs n k ++ [mkPg (k + 5 * (n : Int))] := by
  unfold mkPgs; rw [List.range_succ, List.map_append]; rfl
theorem mkPgs_get (n : Nat) (k : Int) (i : Nat) (h : i < (mkPgs n k).length) : (mkPgs n k)[i] = mkPg (k + 5 * (i : Int)) := by simp [mkPgs]
theorem pgs_drop {ps : List Pg} {k : Nat} (h : k < ps.length) : pgs (ps.drop k) = .bool ps[k].full :: .int .i64 ps[k].file :: .int .i64 ps[k].place :: .int .i64 ps[k].value :: .int .i64 ps[k].stamp :: pgs (ps.drop (k + 1)) := by
  rw [List.drop_eq_getElem_cons h]; rfl
theorem pgs_snoc (ps : List Pg) (p : Pg) : pgs (ps ++ [p]) = pgs ps ++ [.bool p.full, .int .i64 p.file, .int .i64 p.place, .int .i64 p.value, .int .i64 p.stamp] := by
  rw [pgs_append]; rfl
theorem chg5' {F : Nat → Prop} {w W : World} {g : Nat} {a b c d e : Value} (h : Chg F w W) (hg : F g ∨ w.heap.size ≤ g) (k : Nat) :
    Chg F w (((((W.setCell ⟨g, k, none⟩ a).setCell ⟨g, k + 1, none⟩ b).setCell ⟨g, k + 2, none⟩ c).setCell ⟨g, k + 3, none⟩ d).setCell ⟨g, k + 4, none⟩ e) :=
  ((((h.setCell (p := ⟨g, k, none⟩) hg _).setCell (p := ⟨g, k + 1, none⟩) hg _).setCell (p := ⟨g, k + 2, none⟩) hg _).setCell (p := ⟨g, k + 3, none⟩) hg _).setCell (p := ⟨g, k + 4, none⟩) hg _
set_option maxRecDepth 100000 in
set_option maxHeartbeats 4000000 in
theorem markPageS_any (g c : Nat) (ps : List Pg) (rest : List Value) (k0 : Int) (w : World) (hb : Blk w g 80 (pgs ps ++ rest).toArray) (hl : ps.length ≤ 1048576) (hk0 : 0 ≤ k0) (hk1 : k0 ≤ 1000000000000) :
    Calls Try.prog 94 #[.slice (some ⟨g, 0, none⟩) ps.length c, .int .i64 k0] w fun e w' => e = .returned (.int .i64 (k0 + 5 * (ps.length : Int))) ∧ Chg (· = g) w w' ∧ Blk w' g 80 (pgs (mkPgs ps.length k0) ++ rest).toArray := by
  have HB0 := Lib.hid hb
  clear hb
  go_enter Try.func94, Try.ntmps94
  go_wp2_with fail
  go_loopw [1, 5] (fun v i wr => ∃ (k : Nat) (z : Int), k ≤ ps.length ∧ i = .int .i64 k ∧ v = .int .i64 z ∧ Hid (z = k0 + 5 * (k : Int)) ∧ 0 ≤ z ∧ z ≤ 2000000000000 ∧ Chg (· = g) w wr ∧ Blk wr g 80 (pgs (mkPgs k k0) ++ (pgs (ps.drop k) ++ rest)).toArray) (fun _ i _ => ps.length - (intOf i).toNat)
  case atStart => exact ⟨0, k0, Nat.zero_le _, rfl, rfl, Lib.hid (by simp), hk0, by omega, Chg.refl _ _, HB0.out⟩
  case round =>
    obtain ⟨k, z, hk, rfl, rfl, HZ, hz0, hz1, hch, hb⟩ := hrel
    have HC := Lib.hid hch
    by_cases hlt : k < ps.length
    · rw [pgs_drop hlt] at hb
      have hlen : (pgs (mkPgs k k0)).length = k * 5 := by rw [pgs_length, mkPgs_len]
      obtain ⟨r0, r1, r2, r3, r4⟩ := hb.room5 hlen
      have f0 := hb.frozen (k * 5)
      have f1 := hb.frozen (k * 5 + 1)
      have f2 := hb.frozen (k * 5 + 2)
      have f3 := hb.frozen (k * 5 + 3)
      have f4 := hb.frozen (k * 5 + 4)
      have HF := Lib.hid (hb.fill5 hlen (.bool (z % 3 == 0)) (.int .i64 (z + 1)) (.int .i64 (z + 1 + 1)) (.int .i64 (z + 1 + 1 + 1)) (.int .i64 (z + 1 + 1 + 1 + 1)))
      have HS := Lib.hid (mkPgs_succ k k0)
      have hk8 : (k : Int) < (ps.length : Int) := by omega
      have hk9 : (0 : Int) ≤ (k : Int) := by omega
      have HZN := Lib.hid (show z + 5 = k0 + 5 * ((k + 1 : Nat) : Int) by have := HZ.out; omega)
      have HZB := Lib.hid (show z + 5 ≤ 2000000000000 by have := HZ.out; omega)
      have hzz : z ≤ 1999999999000 := by have := HZ.out; omega
      clear hb hch hlen
      go_wp2
      go_roundw
      case rel =>
        refine ⟨k + 1, z + 5, by omega, by go_num, congrArg (Value.int .i64) (by omega), HZN, by omega, HZB.out, ?_, ?_⟩
        · exact chg5' HC.out (.inl rfl) (k * 5)
        · rw [HS.out, ← HZ.out, pgs_snoc, List.append_assoc]
          exact HF.out
      case measure => simp [intOf]; omega
    · have hlt' : ¬ ((k : Int) < (ps.length : Int)) := by omega
      have hk' : k = ps.length := by omega
      subst hk'
      have HB := Lib.hid hb
      clear hb hch
      go_wp2
      go_ret
      refine ⟨ret_int HZ.out, HC.out, ?_⟩
      have := HB.out
      rwa [List.drop_length, pgs_nil, List.nil_append] at this
def markB (r : BkO) (k : Int) : BkO := ⟨r.g, r.c, k, mkPgs r.ps.length (k + 1), r.rest⟩
def markT : List BkO → Int → List BkO
  | [], _ => []
  | r :: T, k => markB r k :: markT T (k + 1 + 5 * (r.ps.length : Int))
def endT : List BkO → Int → Int
  | [], k => k
  | r :: T, k => endT T (k + 1 + 5 * (r.ps.length : Int))
theorem markT_len (T : List BkO) : ∀ k, (markT T k).length = T.length := by
  induction T with
  | nil => intro k; rfl
  | cons r T ih => intro k; simp [markT, ih]
theorem markT_snoc (T : List BkO) (r : BkO) : ∀ k, markT (T ++ [r]) k = markT T k ++ [markB r (endT T k)] := by
  induction T with
  | nil => intro k; rfl
  | cons q T ih => intro k; simp [markT, endT, ih]
theorem endT_snoc (T : List BkO) (r : BkO) : ∀ k, endT (T ++ [r]) k = endT T k + 1 + 5 * (r.ps.length : Int) := by
  induction T with
  | nil => intro k; rfl
  | cons q T ih => intro k; simp [endT, ih]
theorem endT_le (T : List BkO) : ∀ k, k ≤ endT T k := by
  induction T with
  | nil => intro k; exact Int.le_refl _
  | cons q T ih => intro k; have := ih (k + 1 + 5 * (q.ps.length : Int)); unfold endT; omega
theorem endT_take (T : List BkO) (n : Nat) : ∀ k, endT (T.take n) k ≤ endT T k := by
  induction T generalizing n with
  | nil => intro k; simp [endT]
  | cons q T ih =>
    intro k
    cases n with
    | zero => rw [List.take_zero]; exact endT_le _ _
    | succ n => rw [List.take_succ_cons]; exact ih n _
/-- Row k of a device, its wear and its pages laid anew in their own places. -/
theorem DevO.mark {B E : Nat} {w w1 w2 : World} {g k : Nat} {T : List BkO} {rest : List Value} {z : Int} {ps : List Pg} (hT : BksO B E w T) (hb : Blk w g 67 (bcells T ++ rest).toArray) (hk : k < T.length) (hps : ps.length = T[k].ps.length)
    (h1 : w1 = w.setCell ⟨g, k * 2, none⟩ (.int .i64 z)) (hc : Chg (· = T[k].g) w1 w2) (hp : Blk w2 T[k].g 80 (pgs ps ++ T[k].rest).toArray) :
    BksO B E w2 (T.set k ⟨T[k].g, T[k].c, z, ps, T[k].rest⟩) ∧ Blk w2 g 67 (bcells (T.set k ⟨T[k].g, T[k].c, z, ps, T[k].rest⟩) ++ rest).toArray := by
  have hok := hT.1 T[k] (List.getElem_mem hk)
  have hgne : g ≠ T[k].g := fun e => by
    have h2 := hok.2.2.1
    rw [← e] at h2
    unfold Blk at h2 hb
    rw [h2] at hb
    injection hb with hb
    injection hb with _ hb
    exact ty_page_block hb
  have hcw : Chg (· = g) w w1 := by rw [h1]; exact (Chg.refl (· = g) w).setCell (p := ⟨g, k * 2, none⟩) (.inl rfl) _
  constructor
  · refine ⟨fun q hq => ?_, ?_⟩
    · obtain ⟨j, hj, rfl⟩ := List.getElem_of_mem hq
      rw [List.length_set] at hj
      rw [List.getElem_set]
      split
      · exact ⟨hok.1, hok.2.1, hp, by rw [hps]; exact hok.2.2.2⟩
      · rename_i hne
        have hokj := hT.1 T[j] (List.getElem_mem hj)
        have hgj : T[j].g ≠ g := fun e => by
          have h2 := hokj.2.2.1
          rw [e] at h2
          unfold Blk at h2 hb
          rw [h2] at hb
          injection hb with hb
          injection hb with _ hb
          exact ty_page_block hb
        have hjk : T[j].g ≠ T[k].g := fun e => by
          have hp2 := hT.2
          rw [List.nodup_iff_pairwise_ne, List.pairwise_iff_getElem] at hp2
          rcases Nat.lt_or_ge j k with h3 | h3
          · exact hp2 j k (by simpa using hj) (by simpa using hk) h3 (by simpa using e)
          · exact hp2 k j (by simpa using hk) (by simpa using hj) (by omega) (by simpa using e.symm)
        exact (hokj.chg hcw hgj).chg hc hjk
    · rw [List.map_set]
      have e : (T.map (·.g)).set k T[k].g = T.map (·.g) := by
        apply List.ext_getElem
        · rw [List.length_set]
        · intro j h1 h2
          rw [List.getElem_set]
          split
          · rename_i h3; subst h3; rw [List.getElem_map]
          · rfl
      show ((T.map (·.g)).set k T[k].g).Nodup
      rw [e]
      exact hT.2
  · refine Blk.chg ?_ hc hgne
    rw [h1]
    have e : bcells (T.set k ⟨T[k].g, T[k].c, z, ps, T[k].rest⟩) = bcells (T.take k) ++ .int .i64 z :: .slice (some ⟨T[k].g, 0, none⟩) T[k].ps.length T[k].c :: bcells (T.drop (k + 1)) := by
      rw [List.set_eq_take_append_cons_drop, if_pos hk, bcells_append]
      show _ ++ ([.int .i64 z, .slice (some ⟨T[k].g, 0, none⟩) ps.length T[k].c] ++ bcells (T.drop (k + 1))) = _
      rw [hps]; rfl
    have e0 : bcells T = bcells (T.take k) ++ .int .i64 T[k].wear :: .slice (some ⟨T[k].g, 0, none⟩) T[k].ps.length T[k].c :: bcells (T.drop (k + 1)) := by
      conv => lhs; rw [← List.take_append_drop k T, List.drop_eq_getElem_cons hk]
      rw [bcells_append]
      rfl
    rw [e]
    rw [e0] at hb
    rw [List.append_assoc] at hb ⊢
    exact hb.fill1 (by rw [bcells_length, List.length_take]; omega) _
set_option maxRecDepth 100000 in
set_option maxHeartbeats 4000000 in
theorem markBlockS_any (B E : Nat) (A : Option Addr) (c : Nat) (T : List BkO) (k0 : Int) (w : World) (h : DevO B E w A c T) (hl : ∀ r ∈ T, r.ps.length ≤ 1048576) (hL : T.length ≤ 1048576) (hk0 : 0 ≤ k0) (hk1 : endT T k0 ≤ 500000000000) :
    Calls Try.prog 29 #[.slice A T.length c, .int .i64 k0] w fun e w' => e = .returned (.int .i64 (endT T k0)) ∧ Chg (fun i => B ≤ i ∧ i < E) w w' ∧ DevO B E w' A c (markT T k0) := by
  obtain ⟨⟨hn, h⟩, hT⟩ := h
  rcases h with ⟨h0, h1⟩ | ⟨g, rest, rfl, hg, hgE, hb⟩
  · have hx : T = [] := List.eq_nil_of_length_eq_zero h0
    subst hx
    go_enter Try.func29, Try.ntmps29
    go_wp2_with fail
    refine wp_loop_rounds 1 ?_
    rw [rounds_succ]
    go_wp2
    go_ret
    exact ⟨rfl, Chg.refl _ _, DevO.nil _ _ _ _ _⟩
  have HB := Lib.hid hb
  have HT := Lib.hid hT
  have HLL := Lib.hid hl
  have HK1 := Lib.hid hk1
  have HN := Lib.hid hn
  clear hb hT hl hk1 hn
  go_enter Try.func29, Try.ntmps29
  go_wp2_with fail
  go_loopw [1, 5] (fun v i wr => ∃ (k : Nat) (z : Int), k ≤ T.length ∧ i = .int .i64 k ∧ v = .int .i64 z ∧ Hid (z = endT (T.take k) k0) ∧ 0 ≤ z ∧ z ≤ 500000000000 ∧ Chg (fun i => B ≤ i ∧ i < E) w wr ∧ BksO B E wr (markT (T.take k) k0 ++ T.drop k) ∧ Blk wr g 67 (bcells (markT (T.take k) k0 ++ T.drop k) ++ rest).toArray) (fun _ i _ => T.length - (intOf i).toNat)
  case atStart => exact ⟨0, k0, Nat.zero_le _, rfl, rfl, Lib.hid rfl, hk0, by have := HK1.out; have := endT_le T k0; omega, Chg.refl _ _, HT.out, HB.out⟩
  case round =>
    obtain ⟨k, z, hk, rfl, rfl, HZ, hz0, hz1, hch, hT, hb⟩ := hrel
    have HC := Lib.hid hch
    have HT := Lib.hid hT
    have HBB := Lib.hid hb
    clear hch hT
    by_cases hlt : k < T.length
    · obtain ⟨U, hU⟩ : ∃ U, markT (T.take k) k0 ++ T.drop k = U := ⟨_, rfl⟩
      have hlen : (markT (T.take k) k0).length = k := by rw [markT_len, List.length_take]; omega
      have hUk : k < U.length := by rw [← hU, List.length_append, hlen, List.length_drop]; omega
      have hUg : U[k] = T[k] := by
        have e : U[k]? = some T[k] := by
          rw [← hU, List.getElem?_append_right (by omega), hlen, Nat.sub_self, List.getElem?_drop, Nat.add_zero, List.getElem?_eq_getElem hlt]
        exact (List.getElem?_eq_some_iff.1 e).2
      have HST := Lib.hid (show U.set k (markB T[k] z) = markT (T.take (k + 1)) k0 ++ T.drop (k + 1) by
        rw [List.take_succ_eq_append_getElem hlt, markT_snoc, ← HZ.out, ← hU, List.set_append_right _ _ (by omega), hlen, Nat.sub_self, show (T.drop k).set 0 (markB T[k] z) = markB T[k] z :: T.drop (k + 1) by rw [List.drop_eq_getElem_cons hlt]; rfl]
        simp)
      have HZN := Lib.hid (show z + 1 + 5 * (T[k].ps.length : Int) = endT (T.take (k + 1)) k0 by rw [List.take_succ_eq_append_getElem hlt, endT_snoc, ← HZ.out])
      have HZB := Lib.hid (show z + 1 + 5 * (T[k].ps.length : Int) ≤ 500000000000 by have := HZN.out; have := HK1.out; have := endT_take T (k + 1) k0; omega)
      rw [hU] at hb HT HBB
      obtain ⟨rr, hrr⟩ : ∃ r, U[k] = r := ⟨_, rfl⟩
      have HOK := Lib.hid (HT.out.1 U[k] (List.getElem_mem hUk))
      rw [hUg] at HOK
      have e0 : bcells U = bcells (U.take k) ++ .int .i64 T[k].wear :: .slice (some ⟨T[k].g, 0, none⟩) T[k].ps.length T[k].c :: bcells (U.drop (k + 1)) := by
        conv => lhs; rw [← List.take_append_drop k U, List.drop_eq_getElem_cons hUk, hUg]
        rw [bcells_append]
        rfl
      rw [e0, List.append_assoc] at hb
      have hlu : (bcells (U.take k)).length = k * 2 := by rw [bcells_length, List.length_take]; omega
      obtain ⟨x0, x1⟩ := hb.room2 hlu
      have f0 := hb.frozen (k * 2)
      have hk8 : (k : Int) < (T.length : Int) := by omega
      have hk9 : (0 : Int) ≤ (k : Int) := by omega
      have HUG := Lib.hid hUg
      have HUK := Lib.hid hUk
      have HPL := Lib.hid (HLL.out T[k] (List.getElem_mem hlt))
      clear hb hU hlen hUg e0 hlu hrr
      go_wp2_with fail
      have hcs := (Chg.refl (· = g) wr).setCell (p := ⟨g, k * 2, none⟩) (.inl rfl) (.int .i64 z)
      have hpg : Blk (wr.setCell ⟨g, k * 2, none⟩ (.int .i64 z)) T[k].g 80 (pgs T[k].ps ++ T[k].rest).toArray := HOK.out.2.2.1.chg hcs (fun e => by
        have h2 := HOK.out.2.2.1
        have h3 := HBB.out
        rw [show T[k].g = g from e] at h2
        unfold Blk at h2 h3
        rw [h2] at h3
        injection h3 with h3
        injection h3 with _ h3
        exact ty_page_block h3)
      have HPG := Lib.hid hpg
      have HCS := Lib.hid hcs
      clear hpg hcs
      refine (markPageS_any T[k].g T[k].c T[k].ps T[k].rest (z + 1) _ HPG.out HPL.out (by omega) (by omega)).mono ?_
      rintro e w5 ⟨rfl, hc5, hb5⟩
      have hm := DevO.mark (g := g) (rest := rest) (ps := mkPgs T[k].ps.length (z + 1)) HT.out HBB.out HUK.out (by rw [HUG.out, mkPgs_len]) rfl (by rw [HUG.out]; exact hc5) (by rw [HUG.out]; exact hb5)
      rw [HUG.out] at hm
      have HM := Lib.hid hm
      have HC5 := Lib.hid (show Chg (fun i => B ≤ i ∧ i < E) w w5 from (HC.out.trans (HCS.out.mono (fun i _ h => (by have h' : i = g := h; omega)))).trans (hc5.mono (fun i _ h => (by have h' : i = T[k].g := h; have := HOK.out.1; have := HOK.out.2.1; omega))))
      clear hm hc5 hb5 x0 x1 f0
      go_wp2
      go_roundw
      case rel =>
        refine ⟨k + 1, z + 1 + 5 * (T[k].ps.length : Int), by omega, by go_num, rfl, HZN, by omega, HZB.out, HC5.out, ?_, ?_⟩
        · rw [← HST.out]; exact HM.out.1
        · rw [← HST.out]; exact HM.out.2
      case measure => simp [intOf]; omega
    · have hlt' : ¬ ((k : Int) < (T.length : Int)) := by omega
      have hk' : k = T.length := by omega
      subst hk'
      clear hb
      go_wp2
      go_ret
      have h1 := HT.out
      have h2 := HBB.out
      rw [List.drop_length, List.append_nil, List.take_length] at h1 h2
      have h3 := HZ.out
      rw [List.take_length] at h3
      exact ⟨ret_int h3, HC.out, ⟨by rw [markT_len]; exact HN.out, .inr ⟨g, rest, rfl, hg, hgE, h2⟩⟩, h1⟩
end Go.Proofs.Ytpiojofmflfkkaa
/- Whether marks on devices are still held. -/
namespace Go.Proofs.Ytpiojofmflfkkaa
open Go.RowKit
set_option maxRecDepth 100000 in
set_option maxHeartbeats 1000000 in
theorem heldPageS_any (F : Nat → Prop) (A : Option Addr) (c n : Nat) (k0 : Int) (w : World) (h : Rd F w A (pgs (mkPgs n k0))) (hl : n ≤ 1048576) (hk0 : 0 ≤ k0) (hk1 : k0 ≤ 1000000000000) :
    Calls Try.prog 96 #[.slice A n c, .int .i64 k0] w fun e w' => e = .returned (.int .i64 (k0 + 5 * (n : Int))) ∧ w = w' := by
  go_enter Try.func96, Try.ntmps96
  go_wp2
  go_loop [1, 5] (fun v i => ∃ (k : Nat) (z : Int), k ≤ n ∧ i = .int .i64 k ∧ v = .int .i64 z ∧ Hid (z = k0 + 5 * (k : Int)) ∧ 0 ≤ z ∧ z ≤ 2000000000000) (fun _ i => n - (intOf i).toNat)
  case atStart => exact ⟨0, k0, Nat.zero_le _, rfl, rfl, Lib.hid (by simp), hk0, by omega⟩
  case round =>
    obtain ⟨k, z, hk, rfl, rfl, HZ, hz0, hz1⟩ := hrel
    by_cases hlt : k < n
    · have hkl : k < (mkPgs n k0).length := by rw [mkPgs_len]; exact hlt
      obtain ⟨b, o, rfl, hf, hb, c0, c1, c2, c3, c4⟩ := pgs_at h hkl
      have e : (mkPgs n k0)[k] = mkPg z := by rw [mkPgs_get, HZ.out]
      rw [e] at c0 c1 c2 c3 c4
      simp only [mkPg] at c0 c1 c2 c3 c4
      have hk8 : (k : Int) < (n : Int) := by omega
      have hk9 : (0 : Int) ≤ (k : Int) := by omega
      have HZN := Lib.hid (show z + 5 = k0 + 5 * ((k + 1 : Nat) : Int) by have := HZ.out; omega)
      have HZB := Lib.hid (show z + 5 ≤ 2000000000000 by have := HZ.out; omega)
      have hzz : z ≤ 1999999999000 := by have := HZ.out; omega
      clear e hkl hf
      go_wp2
      go_round
      case rel => exact ⟨k + 1, z + 5, by omega, by go_num, congrArg (Value.int .i64) (by omega), HZN, by omega, HZB.out⟩
      case measure => simp [intOf]; omega
    · have hlt' : ¬ ((k : Int) < (n : Int)) := by omega
      have hk' : k = n := by omega
      subst hk'
      go_wp2
      go_ret
      exact ⟨ret_int HZ.out, rfl⟩
theorem markT_get? (T : List BkO) : ∀ (k : Nat) (k0 : Int), (markT T k0)[k]? = T[k]?.map fun r => markB r (endT (T.take k) k0) := by
  induction T with
  | nil => intro k k0; simp [markT]
  | cons q T ih =>
    intro k k0
    cases k with
    | zero => rfl
    | succ k =>
      show (markT T (k0 + 1 + 5 * (q.ps.length : Int)))[k]? = _
      rw [ih]
      rfl
set_option maxRecDepth 100000 in
set_option maxHeartbeats 1000000 in
theorem heldBlockS_any (F : Nat → Prop) (A : Option Addr) (c : Nat) (T : List BkO) (k0 : Int) (w : World) (h : DevR F w A (bksOf (markT T k0))) (hl : ∀ r ∈ T, r.ps.length ≤ 1048576) (hL : T.length ≤ 1048576) (hk0 : 0 ≤ k0) (hk1 : endT T k0 ≤ 500000000000) :
    Calls Try.prog 31 #[.slice A T.length c, .int .i64 k0] w fun e w' => e = .returned (.int .i64 (endT T k0)) ∧ w = w' := by
  have HK := Lib.hid hk1
  go_enter Try.func31, Try.ntmps31
  go_wp2
  go_loop [1, 5] (fun v i => ∃ (k : Nat) (z : Int), k ≤ T.length ∧ i = .int .i64 k ∧ v = .int .i64 z ∧ Hid (z = endT (T.take k) k0) ∧ 0 ≤ z ∧ z ≤ 500000000000) (fun _ i => T.length - (intOf i).toNat)
  case atStart => exact ⟨0, k0, Nat.zero_le _, rfl, rfl, Lib.hid (by simp [endT]), hk0, by have := endT_le T k0; omega⟩
  case round =>
    obtain ⟨k, z, hk, rfl, rfl, HZ, hz0, hz1⟩ := hrel
    by_cases hlt : k < T.length
    · have hkl : k < (bksOf (markT T k0)).length := by rw [bksOf_length, markT_len]; exact hlt
      obtain ⟨b, o, A', c', rfl, hf, c0, c1, hr, -⟩ := h k hkl
      have e : (bksOf (markT T k0))[k] = ⟨z, mkPgs T[k].ps.length (z + 1)⟩ := by
        have h1 : (bksOf (markT T k0))[k]? = some ⟨z, mkPgs T[k].ps.length (z + 1)⟩ := by
          unfold bksOf
          rw [List.getElem?_map, markT_get?, List.getElem?_eq_getElem hlt, HZ.out]
          rfl
        exact (List.getElem?_eq_some_iff.1 h1).2
      rw [e] at c0 c1 hr
      simp only [mkPgs_len] at c0 c1 hr
      have hrl := hl _ (List.getElem_mem hlt)
      have HN := Lib.hid (show endT (T.take (k + 1)) k0 = z + 1 + 5 * (T[k].ps.length : Int) by rw [List.take_succ_eq_append_getElem hlt, endT_snoc, HZ.out])
      have HNB := Lib.hid (show z + 1 + 5 * (T[k].ps.length : Int) ≤ 500000000000 by rw [← HN.out]; have := endT_take T (k + 1) k0; have := HK.out; omega)
      obtain ⟨m, hm⟩ : ∃ m, T[k].ps.length = m := ⟨_, rfl⟩
      rw [hm] at c1 hr HN HNB hrl
      have HR := Lib.hid hr
      have hi0 : (0 : Int) ≤ (k : Int) := Int.natCast_nonneg _
      have hi1 : (k : Int) < (T.length : Int) := by omega
      clear e hkl hf hr hm
      go_wp2_with fail
      refine (heldPageS_any _ A' c' m (z + 1) _ HR.out hrl (by omega) (by omega)).mono ?_
      rintro e w' ⟨rfl, rfl⟩
      have hnn : ¬ (z + 1 + 5 * (m : Int) < 0) := by omega
      go_wp2
      go_round
      case rel => exact ⟨k + 1, z + 1 + 5 * (m : Int), by omega, by go_num, rfl, Lib.hid HN.out.symm, by omega, HNB.out⟩
      case measure => simp [intOf]; omega
    · have hlt' : ¬ ((k : Int) < (T.length : Int)) := by omega
      have hk' : k = T.length := by omega
      subst hk'
      go_wp2
      go_ret
      exact ⟨ret_int (by rw [HZ.out, List.take_length]), rfl⟩
end Go.Proofs.Ytpiojofmflfkkaa
