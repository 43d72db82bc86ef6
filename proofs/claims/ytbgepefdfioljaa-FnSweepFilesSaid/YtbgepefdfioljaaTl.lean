/- LoadTable of the program and of the reference. -/
import Derived.Test.YtbgepefdfioljaaTb
import Derived.Test.YtbgepefdfioljaaTc
import Derived.Test.YtbgepefdfioljaaTt
import Derived.Test.YtbgepefdfioljaaRb
import Derived.BigRegion
namespace Go.Proofs.Ytbgepefdfioljaa
open Go.RowKit
def chunk (xs : List Int) (f : Nat) : List Int := (xs.drop (6 * f)).take 6
def chunks (xs : List Int) : List (List Int) := (List.range 8).map (chunk xs)
def loadArgs (n : Int) (xs : List Int) (s : Int) : Prop := xs.length = 48 ∧ 0 ≤ n ∧ n ≤ 1000000 ∧ tabOk (chunks xs) ∧ saveSum n xs = s
def LoadIs (n : Int) (xs : List Int) (s : Int) (X : List (List Int)) (b : Bool) : Prop :=
  (loadArgs n xs s → X = chunks xs ∧ b = true) ∧ (¬ loadArgs n xs s → X = [] ∧ b = false)
theorem LoadIs.det {n s : Int} {xs : List Int} {X X' : List (List Int)} {b b' : Bool} (h : LoadIs n xs s X b) (h' : LoadIs n xs s X' b') : X = X' ∧ b = b' := by
  by_cases ha : loadArgs n xs s
  · exact ⟨by rw [(h.1 ha).1, (h'.1 ha).1], by rw [(h.1 ha).2, (h'.1 ha).2]⟩
  · exact ⟨by rw [(h.2 ha).1, (h'.2 ha).1], by rw [(h.2 ha).2, (h'.2 ha).2]⟩
def LoadP (w : World) (n : Int) (xs : List Int) (s : Int) (e : Ending) (w' : World) : Prop :=
  ∃ A c T b, e = .returned (.tuple #[.agg #[.slice A (T : List RowO).length c], .bool b]) ∧ TabO w.heap.size w'.heap.size w' A c T ∧ Hid (LoadIs n xs s (listsOf T) b) ∧ Chg NoB w w'
theorem chunk_len {xs : List Int} (h : xs.length = 48) {f : Nat} (hf : f < 8) : (chunk xs f).length = 6 := by unfold chunk; rw [List.length_take, List.length_drop]; omega
theorem chunks_len (xs : List Int) : (chunks xs).length = 8 := by simp [chunks]
theorem chunks_get (xs : List Int) (f : Nat) (hf : f < (chunks xs).length) : (chunks xs)[f] = chunk xs f := by simp [chunks]
theorem chunks_flat {xs : List Int} (h : xs.length = 48) : (chunks xs).flatten = xs := by
  have : ∀ k, k ≤ 8 → ((List.range k).map (chunk xs)).flatten = xs.take (6 * k) := by
    intro k hk
    induction k with
    | zero => simp
    | succ k ih =>
      rw [List.range_succ, List.map_append, List.flatten_append, ih (by omega)]
      simp only [List.map_cons, List.map_nil, List.flatten_cons, List.flatten_nil, List.append_nil, chunk]
      rw [show 6 * (k + 1) = 6 * k + 6 by omega, List.take_add]
  have h8 := this 8 (Nat.le_refl _)
  unfold chunks
  rw [h8, List.take_of_length_le (by omega)]
theorem rd_drop {F : Nat → Prop} {w : World} {ad : Addr} {cs : List Value} (h : Rd F w (some ad) cs) (k : Nat) : Rd F w (some (ad.add k)) (cs.drop k) := fun j v hj => by
  rw [List.getElem?_drop] at hj
  obtain ⟨ad', e, hf, hc⟩ := h (k + j) v hj
  cases e
  exact ⟨_, rfl, by rw [block_add]; exact hf, by rw [add_add']; exact hc⟩
theorem rd_front {F : Nat → Prop} {w : World} {A : Option Addr} {cs : List Value} (h : Rd F w A cs) (k : Nat) : Rd F w A (cs.take k) := fun j v hj => h j v (by
  rw [List.getElem?_take] at hj
  split at hj
  · exact hj
  · cases hj)
theorem load_step (xs : List Int) (f : Nat) (hf : f < 8) : ((chunks xs).take f ++ (emptyRows 8).drop f).set f (chunk xs f) = (chunks xs).take (f + 1) ++ (emptyRows 8).drop (f + 1) := by
  have hl : ((chunks xs).take f).length = f := by rw [List.length_take, chunks_len]; omega
  have he : (emptyRows 8).length = 8 := by simp [emptyRows]
  rw [List.set_append_right _ _ (by omega), hl, Nat.sub_self, List.drop_eq_getElem_cons (by omega), List.set_cons_zero, List.take_succ_eq_append_getElem (by rw [chunks_len]; exact hf), chunks_get, List.append_assoc]
  rfl
theorem load_get (xs : List Int) (f : Nat) (hf : f < 8) (h : f < ((chunks xs).take f ++ (emptyRows 8).drop f).length) : ((chunks xs).take f ++ (emptyRows 8).drop f)[f] = List.replicate 6 (-1) := by
  have hl : ((chunks xs).take f).length = f := by rw [List.length_take, chunks_len]; omega
  rw [List.getElem_append_right (by omega), List.getElem_drop]
  simp only [emptyRows, List.getElem_replicate]

def ilPost (g B0 : Nat) (n s q : Int) (A : Option Addr) (c : Nat) (valid : Bool) (i : Nat) : Value → World → Prop :=
  match valid with
  | true => (match i with
    | 0 => fun v _ => v = .agg #[.slice (some ⟨g, 0, none⟩) 8 8]
    | 1 => fun v _ => v = .bool true
    | 2 | 3 => fun v _ => v = .bool false
    | 4 => fun v _ => v = .pointer (some ⟨B0, 0, none⟩)
    | 5 => fun v _ => v = .int .i64 n
    | 6 => fun v _ => v = .pointer (some ⟨B0, 1, none⟩)
    | 7 => fun v _ => v = .slice A 48 c
    | 8 => fun v _ => v = .int .i64 q
    | 9 => fun v _ => v = .pointer (some ⟨B0, 2, none⟩)
    | 10 => fun v _ => v = .int .i64 s
    | _ => fun v _ => v = .bool (q != s))
  | false => (match i with
    | 0 => fun v _ => v = .agg #[.slice (some ⟨g, 0, none⟩) 8 8]
    | 1 => fun v _ => v = .bool false
    | 2 | 3 | 12 => fun v _ => v = .bool true
    | _ => fun _ _ => True)
theorem ilPost_stab {g B0 : Nat} {n s q : Int} {A : Option Addr} {c : Nat} {valid : Bool} {i : Nat} {v : Value} {w1 w2 : World} (h : ilPost g B0 n s q A c valid i v w1) : ilPost g B0 n s q A c valid i v w2 := by
  cases valid
  · unfold ilPost at *
    simp only at *
    split at h <;> exact h
  · unfold ilPost at *
    simp only at *
    split at h <;> exact h
set_option maxRecDepth 100000 in
set_option maxHeartbeats 4000000 in
theorem iLoadTable_any (F : Nat → Prop) (n s : Int) (A : Option Addr) (c : Nat) (xs : List Int) (w : World) (h : Rd F w A (icells xs)) (hc : xs.length ≤ c) (hm : c ≤ 9223372036854775807) :
    Calls Try.prog 31 #[.agg #[.int .i64 n, .slice A xs.length c, .int .i64 s]] w (LoadP w n xs s) := by
  obtain ⟨j0, hj, hy0, hy1, hy2⟩ := info_parts info_int
  have hsz1 : (Try.prog.info? 3).map (·.size) = some 1 := by rw [hj]; simp [hy1]
  obtain ⟨hb1, hb2, hcb⟩ := lit2 w 37 39 #[.int .i64 n, .slice A xs.length c, .int .i64 s] #[.slice none 0 0]
  have HB1 := Lib.hid hb1
  have HB2 := Lib.hid hb2
  have HC0 := Lib.hid hcb
  have HNO : ¬ loadArgs n xs s → ∀ wq, Chg NoB w wq → Hid (LoadP w n xs s (.returned (.tuple #[.agg #[.slice none 0 0], .bool false])) wq) := fun ha wq hq => Lib.hid ⟨none, 0, [], false, rfl, TabO.nil _ _ _ _ _, Lib.hid ⟨fun hh => absurd hh ha, fun _ => ⟨rfl, rfl⟩⟩, hq⟩
  have hcs0 : ∀ wq, Chg NoB w wq → Chg NoB w (wq.setCell ⟨w.heap.size + 1, 0, none⟩ (.slice none 0 0)) := fun wq hq => hq.own ((Chg.refl (· = w.heap.size + 1) wq).setCell (p := ⟨w.heap.size + 1, 0, none⟩) (.inl rfl) _) (Nat.le_succ _)
  have HCS0 := Lib.hid hcs0
  clear hb1 hb2 hcb hcs0
  by_cases hn0 : n < 0
  · go_enter Try.func31, Try.ntmps31
    go_wp2_with fail
    (try simp only [Exit.inBlock, Exit.then])
    refine bodyPost_ret (v := .tuple #[.agg #[.slice none 0 0], .bool false]) (by simp [results, Try.results31, go_sem, *]) rfl ?_
    exact (HNO (fun hh => by have := hh.2.1; omega) _ HC0.out).out
  by_cases hn1 : 1000000 < n
  · go_enter Try.func31, Try.ntmps31
    go_wp2_with fail
    (try simp only [Exit.inBlock, Exit.then])
    refine bodyPost_ret (v := .tuple #[.agg #[.slice none 0 0], .bool false]) (by simp [results, Try.results31, go_sem, *]) rfl ?_
    exact (HNO (fun hh => by have := hh.2.2.1; omega) _ HC0.out).out
  by_cases h48 : xs.length = 48
  case neg =>
    have h48' : ((xs.length : Int) != 48) = true := by rw [bne_iff_ne]; omega
    have H48 := Lib.hid h48
    clear h48
    go_enter Try.func31, Try.ntmps31
    go_wp2_with fail
    (try simp only [Exit.inBlock, Exit.then])
    refine bodyPost_ret (v := .tuple #[.agg #[.slice none 0 0], .bool false]) (by simp [results, Try.results31, go_sem, *]) rfl ?_
    exact (HNO (fun hh => H48.out hh.1) _ HC0.out).out
  have H48 := Lib.hid h48
  rw [h48] at HB1 HB2 HC0 ⊢
  obtain ⟨ad, hA0⟩ : ∃ ad, A = some ad := by
    obtain ⟨ad, e, _⟩ := h.at_ (k := 0) (by rw [icells_length, h48]; omega)
    exact ⟨ad, e⟩
  subst hA0
  have hc48 : 48 ≤ c := by omega
  have HH := Lib.hid h
  clear h48 h
  go_enter Try.func31, Try.ntmps31
  go_wp2_with fail
  refine (emptyTable_any _).mono ?_
  rintro e w1 ⟨g, T, rfl, hT, hc1, hO⟩
  have hO' := hO.new ((Chg.refl NoB w1).alloc (.cells #[.slice (some ⟨g, 0, none⟩) 8 8] 39))
  have hb1 := (HB1.out.chg hc1 (fun x => x)).chg ((Chg.refl NoB w1).alloc (.cells #[.slice (some ⟨g, 0, none⟩) 8 8] 39)) (fun x => x)
  have hb2 := (HB2.out.chg hc1 (fun x => x)).chg ((Chg.refl NoB w1).alloc (.cells #[.slice (some ⟨g, 0, none⟩) 8 8] 39)) (fun x => x)
  have HC1 := Lib.hid ((HC0.out.trans hc1).alloc (.cells #[.slice (some ⟨g, 0, none⟩) 8 8] 39))
  have HV := Lib.hid (Blk.new w1 39 #[.slice (some ⟨g, 0, none⟩) 8 8])
  have HB1' := Lib.hid hb1
  have HB2' := Lib.hid hb2
  have HO := Lib.hid hO'
  have HT0 := Lib.hid hT
  have hBE : w.heap.size + 1 < ((w.alloc (.cells #[.int .i64 n, .slice (some ad) 48 c, .int .i64 s] 37)).alloc (.cells #[.slice none 0 0] 39)).heap.size := HB2.out.lt
  have hBEw := hc1.size
  obtain ⟨BB, hBB⟩ : ∃ BB, ((w.alloc (.cells #[.int .i64 n, .slice (some ad) 48 c, .int .i64 s] 37)).alloc (.cells #[.slice none 0 0] 39)).heap.size = BB := ⟨_, rfl⟩
  rw [hBB] at hBE hBEw HO
  clear hBB hO hO' hb1 hb2 hc1 hT HB1 HB2 HC0
  go_wp2
  go_loopw [25] (fun i wr => ∃ (f : Nat) (T' : List RowO), f ≤ 8 ∧ i = .int .i64 f ∧ Chg NoB w wr ∧ Blk wr w.heap.size 37 #[.int .i64 n, .slice (some ad) 48 c, .int .i64 s] ∧ Blk wr (w.heap.size + 1) 39 #[.slice none 0 0] ∧ Blk wr w1.heap.size 39 #[.slice (some ⟨g, 0, none⟩) 8 8] ∧ Hid (listsOf T' = (chunks xs).take f ++ (emptyRows 8).drop f) ∧ TabO BB w1.heap.size wr (some ⟨g, 0, none⟩) 8 T') (fun i _ => 8 - (intOf i).toNat)
  case atStart => exact ⟨0, T, Nat.zero_le _, rfl, HC1.out, HB1'.out, HB2'.out, HV.out, Lib.hid (by rw [HT0.out]; simp), HO.out⟩
  case round =>
    obtain ⟨wo, rfl⟩ : ∃ wo, wo = wr := ⟨_, rfl⟩
    obtain ⟨f, T', hf8, rfl, hch, hbs, hbr, hbv, hT, hO⟩ := hrel
    have hTl : T'.length = 8 := by have := congrArg List.length hT.out; rw [listsOf_length, List.length_append, List.length_take, List.length_drop, chunks_len] at this; simp [emptyRows] at this; omega
    have HC := Lib.hid hch
    have HS := Lib.hid hbs
    have HR := Lib.hid hbr
    have HVV := Lib.hid hbv
    have HOO := Lib.hid hO
    have v0 : wo.cell? ⟨w1.heap.size, 0, none⟩ = some (.slice (some ⟨g, 0, none⟩) 8 8) := (hbv.cell _).trans rfl
    have s0 : wo.cell? ⟨w.heap.size, 0, none⟩ = some (.int .i64 n) := (hbs.cell _).trans rfl
    have s1 : wo.cell? ⟨w.heap.size, 1, none⟩ = some (.slice (some ad) 48 c) := (hbs.cell _).trans rfl
    have s2 : wo.cell? ⟨w.heap.size, 2, none⟩ = some (.int .i64 s) := (hbs.cell _).trans rfl
    by_cases hlt : f < 8
    · have hTk : f < T'.length := by omega
      have hi0 : (0 : Int) ≤ (f : Int) := Int.natCast_nonneg _
      have hi1 : (f : Int) < 8 := by omega
      obtain ⟨ad1, e1, hf1, hbl1, hc0⟩ := hO.1.rd.at_ (k := f) (by simpa using hTk)
      injection e1 with e1
      subst e1
      rw [List.getElem_map] at hc0
      have hxs : T'[f].xs = List.replicate 6 (-1) := by
        have h1 : (listsOf T')[f]'(by rw [listsOf_length]; exact hTk) = T'[f].xs := by simp [listsOf]
        rw [← h1]
        have h2 := load_get xs f hlt (by rw [← hT.out, listsOf_length]; exact hTk)
        simp only [hT.out]
        exact h2
      have hok := hO.2.1 T'[f] (List.getElem_mem hTk)
      unfold RowO.cell at hc0
      rw [hxs, List.length_replicate] at hc0
      have hgadd : (⟨g, 0, none⟩ : Addr).add f = ⟨g, f, none⟩ := by unfold Addr.add; split <;> simp_all
      rw [hgadd] at hc0
      have hchl : (icells (chunk xs f)).length = 6 := by rw [icells_length, chunk_len H48.out hlt]
      have hsrc : Rd F wo (some (ad.add (f * 6))) (icells (chunk xs f)) := by
        rw [Nat.mul_comm f 6]
        have h1 := rd_front (rd_drop (HH.out.new hch) (6 * f)) 6
        unfold chunk icells
        unfold icells at h1
        rw [List.map_take, List.map_drop]
        exact h1
      have hrow := hok.2.2.1
      rw [hxs] at hrow
      obtain ⟨w6, hr6, hc6, hb6⟩ := run_copy_blk (P := Try.prog) 22 22 3 3 T'[f].g 6 T'[f].c (some (ad.add (f * 6))) (48 - f * 6) (c - f * 6) (icells (List.replicate 6 (-1)) ++ T'[f].rest) 3 (icells (chunk xs f)) Try.underlying22 hsz1 (hrow.chg (Chg.refl NoB wo).drew (fun x => x)) (by rw [hchl]; show 6 = min (48 - f * 6) 6; omega) (by rw [hchl]; decide) (hsrc.new (Chg.refl NoB wo).drew) (by rw [hchl, List.length_append, icells_length, List.length_replicate]; omega) (fun u hu => by obtain ⟨x, _, rfl⟩ := List.mem_map.1 hu; rfl)
      rw [List.drop_append_of_le_length (by rw [hchl, icells_length, List.length_replicate]; exact Nat.le_refl _), List.drop_of_length_le (by rw [hchl, icells_length, List.length_replicate]; exact Nat.le_refl _), List.nil_append] at hb6
      have hc6' : Chg (· = T'[f].g) wo w6 := ((Chg.refl _ wo).drew).trans hc6
      have hgB : BB ≤ T'[f].g := hok.1
      have hgE : T'[f].g < w1.heap.size := hok.2.1
      have hq0 : (0 : Int) ≤ (f : Int) * 6 := by omega
      have hq1 : (f : Int) * 6 ≤ 48 := by omega
      have hq2 : (48 : Int) ≤ (c : Int) := by omega
      have hlen2 : (chunk xs f).length = T'[f].xs.length := by rw [chunk_len H48.out hlt, hxs, List.length_replicate]
      have hrows := rows_mark (ys := chunk xs f) HOO.out.2 hTk (hc6'.mono (G := fun i => T'[f].g ≤ i ∧ i < T'[f].g + 1) (fun i _ hi => by omega)) hlen2 hb6
      have hhd : OwnS BB w1.heap.size w6 22 (some ⟨g, 0, none⟩) 8 8 (T'.map RowO.cell) := by
        have h0 := HOO.out.1
        rw [hTl] at h0
        refine ⟨h0.1, ?_⟩
        rcases h0.2 with h0 | ⟨g', rest, hA, hg, hE, hb⟩
        · exact .inl h0
        · exact .inr ⟨g', rest, hA, hg, hE, hb.chg hc6' (fun he => ty_ne (Blk.ty hrow (by rw [← he]; exact hb)))⟩
      have hcell2 := rows_cell (rest' := T'[f].rest) hTk hlen2
      have HN := Lib.hid (show TabO BB w1.heap.size w6 (some ⟨g, 0, none⟩) 8 (T'.set f ⟨T'[f].g, T'[f].c, chunk xs f, T'[f].rest⟩) from ⟨by rw [List.length_set, hTl, hcell2]; exact hhd, hrows⟩)
      have HL := Lib.hid (show listsOf (T'.set f ⟨T'[f].g, T'[f].c, chunk xs f, T'[f].rest⟩) = (chunks xs).take (f + 1) ++ (emptyRows 8).drop (f + 1) by rw [rows_lists, hT.out]; exact load_step xs f hlt)
      have HC6 := Lib.hid hc6'
      clear hbs hbr hbv hch hO hok hsrc hrow hb6 hc6 hc6' hrows hhd hcell2 hlen2 hxs
      go_wp2
      go_region
      go_wp2
      go_roundw
      case rel => exact ⟨f + 1, T'.set f ⟨T'[f].g, T'[f].c, chunk xs f, T'[f].rest⟩, by omega, by go_num, HC.out.own HC6.out (by omega), HS.out.chg HC6.out (by omega), HR.out.chg HC6.out (by omega), HVV.out.chg HC6.out (by omega), HL, HN.out⟩
      case measure => simp [intOf]; omega
    · obtain rfl : f = 8 := by omega
      have hlX : listsOf T' = chunks xs := by have := hT.out; rwa [List.take_of_length_le (by rw [chunks_len]; exact Nat.le_refl _), List.drop_of_length_le (by simp [emptyRows]), List.append_nil] at this
      have hrd := hO.reads
      rw [hlX] at hrd
      have HTR := Lib.hid hrd
      have HLX := Lib.hid hlX
      have HRD := Lib.hid (HH.out.new hch)
      have HTL := Lib.hid hTl
      obtain ⟨q, hq⟩ : ∃ q, saveSum n xs = q := ⟨_, rfl⟩
      have HQ := Lib.hid hq
      clear hrd hlX hO hbs hbr hbv hch hq hTl
      by_cases hv : tabOk (chunks xs)
      · have HV := Lib.hid hv
        clear hv
        go_wp2_with fail
        refine wp_region_rgg [(3, false)] (WInv := fun _ _ w4 => Chg NoB wo w4) (R := Chg NoB) (Post := ilPost g w.heap.size n s q (some ad) c true) (by kernel_rfl) (by kernel_rfl) (fun p hp v w h => by simp at hp; subst hp; exact h) (fun _ _ _ _ h _ _ => h) (fun i v w1 w2 h _ => ilPost_stab h) ((Chg.refl _ _).drew) ⟨?_, ?_, ?_, ?_, ?_, ?_, ?_, ?_, ?_, ?_, ?_, ?_, ?_, trivial⟩ ?_
        · rintro c1 m a w4 hc1 hch4 hm hn
          have e1 : a.tmps[4]?.getD undef = .pointer (some ⟨w1.heap.size, 0, none⟩) := hn.1
          have hz := hch4.cell v0 (fun x => x)
          exact rg_val (v := .agg #[.slice (some ⟨g, 0, none⟩) 8 8]) (by simp [execOp, go_sem, e1, hz]) rfl hch4 (Chg.refl _ _) rfl
        · rintro c1 m a w4 hc1 hch4 hm hn
          obtain ⟨⟨_, e1, _, rfl⟩, -⟩ := hn
          refine rg_call (f := 41) (args := #[.agg #[.slice (some ⟨g, 0, none⟩) 8 8]]) (by simp [go_sem, e1]) rfl ?_
          have hcv := iTableValid_any _ (some ⟨g, 0, none⟩) 8 (chunks xs) w4 (HTR.out.new hch4)
          rw [chunks_len] at hcv
          refine hcv.mono ?_
          rintro e w5 ⟨r, rfl, hr, hc5⟩
          have hrt : r = true := hr.2 HV.out
          exact ⟨_, rfl, hch4.trans hc5, hc5, by rw [hrt]; rfl⟩
        · rintro c1 m a w4 hc1 hch4 hm hn
          obtain ⟨⟨_, e1, _, rfl⟩, -⟩ := hn
          exact rg_val (v := .bool false) (by simp [execOp, go_sem, e1]) rfl hch4 (Chg.refl _ _) rfl
        · rintro c1 m a w4 hc1 hch4 hm hn
          obtain ⟨⟨_, e1, _, rfl⟩, -⟩ := hn
          exact rg_val (v := .bool false) (by simp [execOp, go_sem, e1]) rfl hch4 (Chg.refl _ _) rfl
        · rintro c1 m a w4 hc1 hch4 hm hn
          have e1 : a.tmps[1]?.getD undef = .pointer (some ⟨w.heap.size, 0, none⟩) := hn.1
          exact rg_val (v := .pointer (some ⟨w.heap.size, 0, none⟩)) (by simp [execOp, go_sem, e1]) rfl hch4 (Chg.refl _ _) rfl
        · rintro c1 m a w4 hc1 hch4 hm hn
          obtain ⟨⟨_, e1, _, rfl⟩, -⟩ := hn
          have hz := hch4.cell s0 (fun x => x)
          exact rg_val (v := .int .i64 n) (by simp [execOp, go_sem, e1, hz]) rfl hch4 (Chg.refl _ _) rfl
        · rintro c1 m a w4 hc1 hch4 hm hn
          have e1 : a.tmps[1]?.getD undef = .pointer (some ⟨w.heap.size, 0, none⟩) := hn.1
          exact rg_val (v := .pointer (some ⟨w.heap.size, 1, none⟩)) (by simp [execOp, go_sem, e1]) rfl hch4 (Chg.refl _ _) rfl
        · rintro c1 m a w4 hc1 hch4 hm hn
          obtain ⟨⟨_, e1, _, rfl⟩, -⟩ := hn
          have hz := hch4.cell s1 (fun x => x)
          exact rg_val (v := .slice (some ad) 48 c) (by simp [execOp, go_sem, e1, hz]) rfl hch4 (Chg.refl _ _) rfl
        · rintro c1 m a w4 hc1 hch4 hm hn
          obtain ⟨⟨_, e1, _, rfl⟩, ⟨_, e2, _, rfl⟩, -⟩ := hn
          refine rg_call (f := 15) (args := #[.int .i64 n, .slice (some ad) 48 c]) (by simp [go_sem, e1, e2]) rfl ?_
          have hcv := iSaveSum_any _ (some ad) c n xs w4 (HRD.out.new hch4)
          rw [H48.out] at hcv
          refine hcv.mono ?_
          rintro e w5 ⟨q', rfl, hq', rfl⟩
          exact ⟨_, rfl, hch4, Chg.refl _ _, by rw [hq'.out, HQ.out]; rfl⟩
        · rintro c1 m a w4 hc1 hch4 hm hn
          have e1 : a.tmps[1]?.getD undef = .pointer (some ⟨w.heap.size, 0, none⟩) := hn.1
          exact rg_val (v := .pointer (some ⟨w.heap.size, 2, none⟩)) (by simp [execOp, go_sem, e1]) rfl hch4 (Chg.refl _ _) rfl
        · rintro c1 m a w4 hc1 hch4 hm hn
          obtain ⟨⟨_, e1, _, rfl⟩, -⟩ := hn
          have hz := hch4.cell s2 (fun x => x)
          exact rg_val (v := .int .i64 s) (by simp [execOp, go_sem, e1, hz]) rfl hch4 (Chg.refl _ _) rfl
        · rintro c1 m a w4 hc1 hch4 hm hn
          obtain ⟨⟨_, e1, _, rfl⟩, ⟨_, e2, _, rfl⟩, -⟩ := hn
          exact rg_val (v := .bool (q != s)) (by simp [go_sem, e1, e2]) rfl hch4 (Chg.refl _ _) rfl
        · rintro c1 m a w4 hc1 hch4 hm hn
          obtain ⟨⟨_, e1, _, rfl⟩, ⟨_, e2, _, rfl⟩, -⟩ := hn
          exact rg_val (v := .bool (q != s)) (by simp [execOp, go_sem, e1, e2]) rfl hch4 (Chg.refl _ _) rfl
        rintro m w4 hch4
        simp only [AllVals]
        rintro rv0 - p0 rv1 - p1 rv2 - p2 rv3 - p3 rv4 - p4 rv5 - p5 rv6 - p6 rv7 - p7 rv8 - p8 rv9 - p9 rv10 - p10 rv11 - p11 rv12 - p12
        obtain rfl := p12
        clear p0 p1 p2 p3 p4 p5 p6 p7 p8 p9 p10 p11
        simp only [Act.put, List.setIfInBounds_toArray, List.set_cons_succ, List.set_cons_zero]
        have v0' := hch4.cell v0 (fun x => x)
        have hr4 := HR.out.chg hch4 (fun x => x)
        have r0 : w4.cell? ⟨w.heap.size + 1, 0, none⟩ = some (.slice none 0 0) := (hr4.cell _).trans rfl
        have rf := hr4.frozen 0
        have hBE' : w.heap.size + 1 < BB := hBE
        clear hr4 v0 s0 s1 s2
        by_cases hqs : q = s
        · have hqs' : (q != s) = false := by rw [bne_eq_false_iff_eq]; exact hqs
          have HQS := Lib.hid hqs
          clear hqs
          go_wp2_with fail
          (try simp only [Exit.inBlock, Exit.then])
          refine bodyPost_ret (v := .tuple #[.agg #[.slice (some ⟨g, 0, none⟩) 8 8], .bool true]) (by simp [results, Try.results31, go_sem, *]) rfl ?_
          have hcs : Chg (· = w.heap.size + 1) w4 (w4.setCell ⟨w.heap.size + 1, 0, none⟩ (.slice (some ⟨g, 0, none⟩) 8 8)) := (Chg.refl (· = w.heap.size + 1) w4).setCell (p := ⟨w.heap.size + 1, 0, none⟩) (.inl rfl) _
          have hss : (w4.setCell ⟨w.heap.size + 1, 0, none⟩ (.slice (some ⟨g, 0, none⟩) 8 8)).heap.size = w4.heap.size := by simp [World.setCell]
          refine ⟨some ⟨g, 0, none⟩, 8, T', true, by rw [HTL.out], ?_, Lib.hid ⟨fun _ => ⟨HLX.out, rfl⟩, fun hh => absurd ⟨H48.out, by omega, by omega, HV.out, by rw [HQ.out, HQS.out]⟩ hh⟩, (HC.out.trans hch4).own hcs (Nat.le_succ _)⟩
          have hlt5 := HVV.out.lt
          have hsz4 := hch4.size
          exact ((HOO.out.new hch4).chg hcs (fun i h1 h2 h3 => by omega)).more (by omega) (by rw [hss]; omega)
        · have hqs' : (q != s) = true := by rw [bne_iff_ne]; exact hqs
          have HQS := Lib.hid hqs
          clear hqs
          go_wp2_with fail
          (try simp only [Exit.inBlock, Exit.then])
          refine bodyPost_ret (v := .tuple #[.agg #[.slice none 0 0], .bool false]) (by simp [results, Try.results31, go_sem, *]) rfl ?_
          exact (HNO (fun hh => HQS.out (by rw [← HQ.out]; exact hh.2.2.2.2)) _ ((HC.out.trans hch4).own ((Chg.refl (· = w.heap.size + 1) w4).setCell (p := ⟨w.heap.size + 1, 0, none⟩) (.inl rfl) _) (Nat.le_succ _))).out
      · have HV := Lib.hid hv
        clear hv
        go_wp2_with fail
        refine wp_region_rgg [(3, true)] (WInv := fun _ _ w4 => Chg NoB wo w4) (R := Chg NoB) (Post := ilPost g w.heap.size n s q (some ad) c false) (by kernel_rfl) (by kernel_rfl) (fun p hp v w h => by simp at hp; subst hp; exact h) (fun _ _ _ _ h _ _ => h) (fun i v w1 w2 h _ => ilPost_stab h) ((Chg.refl _ _).drew) ⟨?_, ?_, ?_, ?_, ?_, ?_, ?_, ?_, ?_, ?_, ?_, ?_, ?_, trivial⟩ ?_
        · rintro c1 m a w4 hc1 hch4 hm hn
          have e1 : a.tmps[4]?.getD undef = .pointer (some ⟨w1.heap.size, 0, none⟩) := hn.1
          have hz := hch4.cell v0 (fun x => x)
          exact rg_val (v := .agg #[.slice (some ⟨g, 0, none⟩) 8 8]) (by simp [execOp, go_sem, e1, hz]) rfl hch4 (Chg.refl _ _) rfl
        · rintro c1 m a w4 hc1 hch4 hm hn
          obtain ⟨⟨_, e1, _, rfl⟩, -⟩ := hn
          refine rg_call (f := 41) (args := #[.agg #[.slice (some ⟨g, 0, none⟩) 8 8]]) (by simp [go_sem, e1]) rfl ?_
          have hcv := iTableValid_any _ (some ⟨g, 0, none⟩) 8 (chunks xs) w4 (HTR.out.new hch4)
          rw [chunks_len] at hcv
          refine hcv.mono ?_
          rintro e w5 ⟨r, rfl, hr, hc5⟩
          have hrt : r = false := by cases r; rfl; exact absurd (hr.1 rfl) HV.out
          exact ⟨_, rfl, hch4.trans hc5, hc5, by rw [hrt]; rfl⟩
        · rintro c1 m a w4 hc1 hch4 hm hn
          obtain ⟨⟨_, e1, _, rfl⟩, -⟩ := hn
          exact rg_val (v := .bool true) (by simp [execOp, go_sem, e1]) rfl hch4 (Chg.refl _ _) rfl
        · rintro c1 m a w4 hc1 hch4 hm hn
          obtain ⟨⟨_, e1, _, rfl⟩, -⟩ := hn
          exact rg_val (v := .bool true) (by simp [execOp, go_sem, e1]) rfl hch4 (Chg.refl _ _) rfl
        · exact fun _ _ _ _ h _ => ⟨h, Chg.refl _ _, trivial⟩
        · exact fun _ _ _ _ h _ => ⟨h, Chg.refl _ _, trivial⟩
        · exact fun _ _ _ _ h _ => ⟨h, Chg.refl _ _, trivial⟩
        · exact fun _ _ _ _ h _ => ⟨h, Chg.refl _ _, trivial⟩
        · exact fun _ _ _ _ h _ => ⟨h, Chg.refl _ _, trivial⟩
        · exact fun _ _ _ _ h _ => ⟨h, Chg.refl _ _, trivial⟩
        · exact fun _ _ _ _ h _ => ⟨h, Chg.refl _ _, trivial⟩
        · exact fun _ _ _ _ h _ => ⟨h, Chg.refl _ _, trivial⟩
        · rintro c1 m a w4 hc1 hch4 hm hn
          obtain ⟨⟨_, e1, _, rfl⟩, _, -⟩ := hn
          exact rg_val (v := .bool true) (by simp [execOp, go_sem, e1]) rfl hch4 (Chg.refl _ _) rfl
        rintro m w4 hch4
        simp only [AllVals]
        rintro rv0 - p0 rv1 - p1 rv2 - p2 rv3 - p3 rv4 - p4 rv5 - p5 rv6 - p6 rv7 - p7 rv8 - p8 rv9 - p9 rv10 - p10 rv11 - p11 rv12 - p12
        obtain rfl := p12
        clear p0 p1 p2 p3 p4 p5 p6 p7 p8 p9 p10 p11
        simp only [Act.put, List.setIfInBounds_toArray, List.set_cons_succ, List.set_cons_zero]
        have hr4 := HR.out.chg hch4 (fun x => x)
        have r0 : w4.cell? ⟨w.heap.size + 1, 0, none⟩ = some (.slice none 0 0) := (hr4.cell _).trans rfl
        have rf := hr4.frozen 0
        clear hr4 v0 s0 s1 s2
        go_wp2_with fail
        (try simp only [Exit.inBlock, Exit.then])
        refine bodyPost_ret (v := .tuple #[.agg #[.slice none 0 0], .bool false]) (by simp [results, Try.results31, go_sem, *]) rfl ?_
        exact (HNO (fun hh => HV.out hh.2.2.2.1) _ ((HC.out.trans hch4).own ((Chg.refl (· = w.heap.size + 1) w4).setCell (p := ⟨w.heap.size + 1, 0, none⟩) (.inl rfl) _) (Nat.le_succ _))).out
end Go.Proofs.Ytbgepefdfioljaa
