/- LinkFile of the program and of the reference. -/
import Derived.Test.YtgfhplejdpjgoaaKb
import Derived.Maps.AppendAt
namespace Go.Proofs.Ytgfhplejdpjgoaa
open Go.RowKit

def LArgs (xs : List Lk) (f n o : Int) : Prop := linksOk xs ∧ 0 ≤ f ∧ f < 8 ∧ -1 ≤ n ∧ n ≤ 1 ∧ -1 ≤ o ∧ o ≤ 1
def Lk.add (l : Lk) (n o : Int) : Lk := ⟨l.names + n, l.opens + o⟩
def linked (xs : List Lk) (f : Nat) (n o : Int) : List Lk := xs.take f ++ (match xs[f]? with | some l => [l.add n o] | none => []) ++ xs.drop (f + 1)
def LFile (xs : List Lk) (f n o : Int) (ys : List Lk) (b : Bool) : Prop :=
  (¬ LArgs xs f n o → ys = [] ∧ b = false) ∧ (LArgs xs f n o → (linksOk (linked xs f.toNat n o) → ys = linked xs f.toNat n o ∧ b = true) ∧ (¬ linksOk (linked xs f.toNat n o) → ys = xs ∧ b = false))
theorem linked_eq {xs : List Lk} {f : Nat} (h : f < xs.length) (n o : Int) : linked xs f n o = xs.take f ++ (xs[f].add n o :: xs.drop (f + 1)) := by
  unfold linked; rw [List.getElem?_eq_getElem h]; simp
theorem linked_len {xs : List Lk} {f : Nat} (h : f < xs.length) (n o : Int) : (linked xs f n o).length = xs.length := by
  rw [linked_eq h]; simp; omega
theorem lcells_split {xs : List Lk} {f : Nat} (h : f < xs.length) : lcells xs = lcells (xs.take f) ++ .int .i64 xs[f].names :: .int .i64 xs[f].opens :: lcells (xs.drop (f + 1)) := by
  rw [← lcells_drop xs f h]
  unfold lcells
  rw [← List.flatMap_append, List.take_append_drop]
theorem lcells_linked {xs : List Lk} {f : Nat} (h : f < xs.length) (n o : Int) : lcells (linked xs f n o) = lcells (xs.take f) ++ .int .i64 (xs[f].names + n) :: .int .i64 (xs[f].opens + o) :: lcells (xs.drop (f + 1)) := by
  rw [linked_eq h]; unfold lcells; rw [List.flatMap_append, List.flatMap_cons]; rfl

/-- What LinkFile leaves. -/
def LFPost (w : World) (xs : List Lk) (f n o : Int) (e : Ending) (w' : World) : Prop :=
  ∃ A' c' ys b, e = .returned (.tuple #[.slice A' ys.length c', .bool b]) ∧ OwnS w.heap.size w'.heap.size w' 50 A' ys.length c' (lcells ys) ∧ LFile xs f n o ys b ∧ Chg NoB w w'
theorem LFPost.bad {w w' : World} {xs : List Lk} {f n o : Int} {A : Option Addr} {c : Nat} (hc : Chg NoB w w') (hn : ¬ LArgs xs f n o) : LFPost w xs f n o (.returned (.tuple #[.slice A 0 c, .bool false])) w' :=
  ⟨A, c, [], false, rfl, OwnS.empty _ _ _ _ _ _, ⟨fun _ => ⟨rfl, rfl⟩, fun hh => absurd hh hn⟩, hc⟩
theorem LFPost.old {w w' : World} {xs : List Lk} {f n o : Int} {A : Option Addr} {c : Nat} (hc : Chg NoB w w') (ha : LArgs xs f n o) (hn : ¬ linksOk (linked xs f.toNat n o)) (ho : OwnS w.heap.size w'.heap.size w' 50 A xs.length c (lcells xs)) :
    LFPost w xs f n o (.returned (.tuple #[.slice A xs.length c, .bool false])) w' :=
  ⟨A, c, xs, false, rfl, ho, ⟨fun hh => absurd ha hh, fun _ => ⟨fun hh => absurd hh hn, fun _ => ⟨rfl, rfl⟩⟩⟩, hc⟩
theorem LFPost.new {w w' : World} {xs : List Lk} {f n o : Int} {A : Option Addr} {c m : Nat} (hm : m = (linked xs f.toNat n o).length) (hc : Chg NoB w w') (ha : LArgs xs f n o) (hn : linksOk (linked xs f.toNat n o)) (ho : OwnS w.heap.size w'.heap.size w' 50 A m c (lcells (linked xs f.toNat n o))) :
    LFPost w xs f n o (.returned (.tuple #[.slice A m c, .bool true])) w' := by
  subst hm
  exact ⟨A, c, _, true, rfl, ho, ⟨fun hh => absurd ha hh, fun _ => ⟨fun _ => ⟨rfl, rfl⟩, fun hh => absurd hn hh⟩⟩, hc⟩

set_option maxRecDepth 100000 in
set_option maxHeartbeats 4000000 in
theorem iLinkFile_any (F : Nat → Prop) (A : Option Addr) (c : Nat) (xs : List Lk) (f n o : Int) (w : World) (h : Rd F w A (lcells xs)) :
    Calls Try.prog 43 #[.slice A xs.length c, .int .i64 f, .int .i64 n, .int .i64 o] w (LFPost w xs f n o) := by
  go_enter Try.func43, Try.ntmps43
  go_wp2_with fail
  refine (iLinksValid_any F A c xs w h).mono ?_
  rintro e w1 ⟨b, rfl, hb, hc1⟩
  have HC1 := Lib.hid hc1
  cases b
  · have hno : ¬ linksOk xs := fun hh => by have := hb.2 hh; cases this
    clear hb hc1
    go_wp2
    go_ret2
    exact LFPost.bad HC1.out (fun hh => hno hh.1)
  have HOK := Lib.hid (hb.1 rfl)
  have h8 : xs.length ≤ 8 := by have := HOK.out.1; omega
  have h81 : 8 ≤ xs.length := by have := HOK.out.1; omega
  have hrd := h.lt.chg hc1 (fun _ _ x => x)
  clear hb hc1
  by_cases ha : 0 ≤ f ∧ f < 8 ∧ -1 ≤ n ∧ n ≤ 1 ∧ -1 ≤ o ∧ o ≤ 1
  case neg =>
    go_wp2_with fail
    all_goals first
      | (go_ret2; exact LFPost.bad HC1.out (fun hh => ha hh.2))
      | (exfalso; omega)
  obtain ⟨a1, a2, a3, a4, a5, a6⟩ := ha
  obtain ⟨k, rfl⟩ := Int.eq_ofNat_of_zero_le a1
  have HA := Lib.hid (show LArgs xs (k : Int) n o from ⟨HOK.out, a1, a2, a3, a4, a5, a6⟩)
  have hk : k < xs.length := by omega
  go_wp2_with fail
  refine (Clone_any _ A c xs w1 hrd (by omega) (by omega)).mono ?_
  rintro e w2 ⟨A', c', rfl, hown, hc2⟩
  obtain ⟨hn, hown⟩ := hown
  rcases hown with ⟨h0, _⟩ | ⟨g, rest, rfl, hg, hgE, hb⟩
  · omega
  have HG := Lib.hid (Nat.le_trans HC1.out.size hg)
  have HC2 := Lib.hid (HC1.out.trans hc2)
  have hrd2 := hrd.chg hc2 (fun _ _ x => x)
  rw [lcells_split hk, List.append_assoc] at hb
  have hlen : (lcells (xs.take k)).length = k * 2 := by rw [lcells_len, List.length_take]; congr 1; omega
  have hb1 := hb.fill1 hlen (.int .i64 (xs[k].names + n))
  have hroom := hb.room hlen
  have hroom2 := Blk.roomAt (B := [.int .i64 (xs[k].names + n)]) (j := 1) hb1 hlen rfl
  have hfr := hb.frozen (k * 2)
  have hfr2 := hb1.frozen (k * 2 + 1)
  have HF := Lib.hid (Blk.fillAt (B := [.int .i64 (xs[k].names + n)]) (j := 1) hb1 hlen rfl (.int .i64 (xs[k].opens + o)))
  have hx := HOK.out.2 _ (List.getElem_mem hk)
  obtain ⟨x1, x2, x3, x4⟩ := hx
  have HL := Lib.hid (lcells_linked hk n o)
  have HLL := Lib.hid (linked_len hk n o)
  clear hb hb1 hlen hc2 hrd
  go_wp2_with fail
  have hlc : lcells (xs.take k) ++ .int .i64 (xs[k].names + n) :: .int .i64 (xs[k].opens + o) :: (lcells (xs.drop (k + 1)) ++ rest) = lcells (linked xs k n o) ++ rest := by rw [HL.out, List.append_assoc]; rfl
  have hB' : Blk _ g 50 (lcells (xs.take k) ++ .int .i64 (xs[k].names + n) :: .int .i64 (xs[k].opens + o) :: (lcells (xs.drop (k + 1)) ++ rest)).toArray := HF.out
  rw [hlc] at hB'
  have hO : OwnS w.heap.size _ _ 50 (some ⟨g, 0, none⟩) xs.length c' (lcells (linked xs k n o)) := ⟨hn, .inr ⟨g, rest, rfl, HG.out, hB'.lt, hB'⟩⟩
  have hcv := iLinksValid_any _ (some ⟨g, 0, none⟩) c' (linked xs k n o) _ hO.rd
  rw [HLL.out] at hcv
  have HO := Lib.hid hO
  have HC3 := Lib.hid ((HC2.out.setCell (p := ⟨g, k * 2, none⟩) (.inr HG.out) (.int .i64 (xs[k].names + n))).setCell (p := ⟨g, k * 2 + 1, none⟩) (.inr HG.out) (.int .i64 (xs[k].opens + o)))
  have hrd3 := (hrd2.lt.mono (G := fun i => i < w2.heap.size) fun _ _ hx => hx.2)
  clear hlc hB' hO
  refine hcv.mono ?_
  rintro e w5 ⟨b, rfl, hb, hc5⟩
  clear hcv
  cases b
  · have hno : ¬ linksOk (linked xs k n o) := fun hh => by have := hb.2 hh; cases this
    clear hb
    have hrd5 : Rd (fun i => i < w.heap.size) w5 A (lcells xs) := h.lt.mono (fun _ _ hx => hx.2) |>.chg (HC3.out.trans hc5) (fun _ _ x => x)
    go_wp2_with fail
    refine (Clone_any _ A c xs w5 hrd5 (by omega) (by omega)).mono ?_
    rintro e w6 ⟨A6, c6, rfl, ho6, hc6⟩
    have hch := (HC3.out.trans hc5)
    have ho := ho6.more hch.size (Nat.le_refl _)
    have HCH := Lib.hid (hch.trans hc6)
    clear hc5 hc6 hch
    go_wp2
    go_ret2
    exact LFPost.old HCH.out HA.out hno ho
  · have hyes := hb.1 rfl
    clear hb
    go_wp2
    go_ret2
    refine LFPost.new (by rw [Int.toNat_natCast, HLL.out]) (HC3.out.trans hc5) HA.out hyes ?_
    exact (HO.out.new hc5).more (Nat.le_refl _) hc5.size

theorem lcells_one (xs : List Lk) : ∀ u ∈ lcells xs, u.oneCell' = true := fun u hu => by
  obtain ⟨l, _, hl⟩ := List.mem_flatMap.1 hu
  simp [Lk.enc] at hl
  rcases hl with rfl | rfl <;> rfl
theorem rd_news {F : Nat → Prop} {w : World} {ad : Addr} {cs : List Value} (h : Rd F w (some ad) cs) (o : Obj) : ∀ j u, cs[j]? = some u → (w.alloc o).cell? (ad.add j) = some u := fun j u hj => by
  obtain ⟨ad', e, _, hcell⟩ := h.chg ((Chg.refl NoB w).alloc o) (fun _ _ x => x) j u hj
  cases e
  exact hcell

set_option maxRecDepth 100000 in
set_option maxHeartbeats 4000000 in
theorem sLinkFile_any (F : Nat → Prop) (A : Option Addr) (c : Nat) (xs : List Lk) (f n o : Int) (w : World) (h : Rd F w A (lcells xs)) (hm : xs.length ≤ 9223372036854775807) :
    Calls Try.prog 42 #[.slice A xs.length c, .int .i64 f, .int .i64 n, .int .i64 o] w (LFPost w xs f n o) := by
  obtain ⟨i0, hi, hz0, hz1, hz2⟩ := info_parts info_links
  go_enter Try.func42, Try.ntmps42
  go_wp2_with fail
  refine (sLinksValid_any F A c xs w h hm).mono ?_
  rintro e w1 ⟨b, rfl, hb, hc1⟩
  have HC1 := Lib.hid hc1
  cases b
  · have hno : ¬ linksOk xs := fun hh => by have := hb.2 hh; cases this
    clear hb hc1
    go_wp2
    go_ret2
    exact LFPost.bad (HC1.out.alloc _) (fun hh => hno hh.1)
  have HOK := Lib.hid (hb.1 rfl)
  have h8 : xs.length ≤ 8 := by have := HOK.out.1; omega
  have h81 : 8 ≤ xs.length := by have := HOK.out.1; omega
  have hrd := h.lt.chg hc1 (fun _ _ x => x)
  clear hb hc1
  go_wp2_with fail
  by_cases hf : 0 ≤ f ∧ f ≤ 7
  case neg =>
    refine (l1In_f _ 0 7 _ hf).mono ?_
    rintro e w' ⟨rfl, rfl⟩
    go_wp2
    go_ret2
    exact LFPost.bad (HC1.out.alloc _) (fun hh => hf ⟨hh.2.1, by have := hh.2.2.1; omega⟩)
  refine (l1In_t _ 0 7 _ hf).mono ?_
  rintro e w' ⟨rfl, rfl⟩
  go_wp2_with fail
  by_cases hn : -1 ≤ n ∧ n ≤ 1
  case neg =>
    refine (l1In_f _ (-1) 1 _ hn).mono ?_
    rintro e w' ⟨rfl, rfl⟩
    go_wp2
    go_ret2
    exact LFPost.bad (HC1.out.alloc _) (fun hh => hn ⟨hh.2.2.2.1, hh.2.2.2.2.1⟩)
  refine (l1In_t _ (-1) 1 _ hn).mono ?_
  rintro e w' ⟨rfl, rfl⟩
  go_wp2_with fail
  by_cases ho : -1 ≤ o ∧ o ≤ 1
  case neg =>
    refine (l1In_f _ (-1) 1 _ ho).mono ?_
    rintro e w' ⟨rfl, rfl⟩
    go_wp2
    go_ret2
    exact LFPost.bad (HC1.out.alloc _) (fun hh => ho ⟨hh.2.2.2.2.2.1, hh.2.2.2.2.2.2⟩)
  refine (l1In_t _ (-1) 1 _ ho).mono ?_
  rintro e w' ⟨rfl, rfl⟩
  obtain ⟨a1, a2⟩ := hf
  obtain ⟨a3, a4⟩ := hn
  obtain ⟨a5, a6⟩ := ho
  obtain ⟨k, rfl⟩ := Int.eq_ofNat_of_zero_le a1
  have HA := Lib.hid (show LArgs xs (k : Int) n o from ⟨HOK.out, a1, by omega, a3, a4, a5, a6⟩)
  have hk : k < xs.length := by omega
  obtain ⟨ad, rfl, hf, hbl, hc0⟩ := hrd.at_ (k := 0) (by rw [lcells_len]; omega)
  have Hn := Lib.hid (rd_news hrd (.cells #[] 50))
  have Hl := Lib.hid (lcells_len xs)
  have hone := lcells_one xs
  have HRD := Lib.hid hrd
  have HH := Lib.hid h
  clear hc0 hrd h
  go_wp2_with (at_builtin; refine wpList_append_own _ rfl (.tmp 30) (.tmp 31) _ rfl w1.heap.size 50 i0 (.agg #[.int .i64 0, .int .i64 0]) 2 16 Try.underlying25 hi hz0 hz1 hz2 rfl (by decide) _ 0 [] rfl (own_empty w1 _ 2 _ (Nat.le_refl _)) ad xs.length c (lcells xs) rfl Hl.out Hn.out hone (by simp only [maxLen]; omega) (by omega) (by simp) ?_; intro v' w2 hown' hgrow _; have hch2 := chg_grown (own_empty w1 50 2 _ (Nat.le_refl _)) hgrow ((Chg.refl NoB w1).alloc _) (Nat.le_refl _); obtain ⟨g, c', rest, rfl, hn, hg, hgE, hb⟩ := row_blk hown' (by omega); have HG := Lib.hid (Nat.le_trans HC1.out.size hg); have HC2 := Lib.hid (HC1.out.trans hch2); clear hgrow hown' hch2; rw [lcells_split hk, List.append_assoc] at hb; have hlen : (lcells (xs.take k)).length = k * 2 := (by rw [lcells_len, List.length_take]; congr 1; omega); have hb1 := hb.fill1 hlen (.int .i64 (xs[k].names + n)); have hroom := hb.room hlen; have hroom2 := Blk.roomAt (B := [.int .i64 (xs[k].names + n)]) (j := 1) hb1 hlen rfl; have hfr := hb.frozen (k * 2); have hfr2 := hb1.frozen (k * 2 + 1); have HF := Lib.hid (Blk.fillAt (B := [.int .i64 (xs[k].names + n)]) (j := 1) hb1 hlen rfl (.int .i64 (xs[k].opens + o))); have hx := HOK.out.2 _ (List.getElem_mem hk); obtain ⟨x1, x2, x3, x4⟩ := hx; clear hb hb1 hlen)
  have HL := Lib.hid (lcells_linked hk n o)
  have HLL := Lib.hid (linked_len hk n o)
  have hlc : lcells (xs.take k) ++ .int .i64 (xs[k].names + n) :: .int .i64 (xs[k].opens + o) :: (lcells (xs.drop (k + 1)) ++ rest) = lcells (linked xs k n o) ++ rest := by rw [HL.out, List.append_assoc]; rfl
  have hB' : Blk _ g 50 (lcells (xs.take k) ++ .int .i64 (xs[k].names + n) :: .int .i64 (xs[k].opens + o) :: (lcells (xs.drop (k + 1)) ++ rest)).toArray := HF.out
  rw [hlc] at hB'
  have hO : OwnS w.heap.size _ _ 50 (some ⟨g, 0, none⟩) xs.length c' (lcells (linked xs k n o)) := ⟨hn, .inr ⟨g, rest, rfl, HG.out, hB'.lt, hB'⟩⟩
  have hcv := sLinksValid_any _ (some ⟨g, 0, none⟩) c' (linked xs k n o) _ hO.rd (by rw [HLL.out]; exact hm)
  rw [HLL.out] at hcv
  have HO := Lib.hid hO
  have HC3 := Lib.hid ((HC2.out.setCell (p := ⟨g, k * 2, none⟩) (.inr HG.out) (.int .i64 (xs[k].names + n))).setCell (p := ⟨g, k * 2 + 1, none⟩) (.inr HG.out) (.int .i64 (xs[k].opens + o)))
  clear hlc hB' hO
  refine hcv.mono ?_
  rintro e w5 ⟨b, rfl, hb, hc5⟩
  clear hcv
  cases b
  · have hno : ¬ linksOk (linked xs k n o) := fun hh => by have := hb.2 hh; cases this
    clear hb
    have hch := HC3.out.trans hc5
    have hrd5 : Rd (fun i => i < w.heap.size) w5 (some ad) (lcells xs) := HH.out.lt.mono (fun _ _ hx => hx.2) |>.chg hch (fun _ _ x => x)
    have Hn5 := Lib.hid (rd_news hrd5 (.cells #[] 50))
    have hsz := hch.size
    have HCH := Lib.hid hch
    clear hrd5 hch hc5
    go_wp2_with (at_builtin; refine wpList_append_own _ rfl (.tmp 58) (.tmp 59) _ rfl w5.heap.size 50 i0 (.agg #[.int .i64 0, .int .i64 0]) 2 16 Try.underlying25 hi hz0 hz1 hz2 rfl (by decide) _ 0 [] rfl (own_empty w5 _ 2 _ (Nat.le_refl _)) ad xs.length c (lcells xs) rfl Hl.out Hn5.out hone (by simp only [maxLen]; omega) (by omega) (by simp) ?_; intro v' w6 hown' hgrow _; have hch6 := HCH.out.trans (chg_grown (own_empty w5 50 2 _ (Nat.le_refl _)) hgrow ((Chg.refl NoB w5).alloc _) (Nat.le_refl _)); obtain ⟨g6, c6, rest6, rfl, hn6, hg6, hgE6, hb6⟩ := row_blk hown' (by omega); clear hgrow hown')
    go_ret2
    refine LFPost.old hch6 HA.out hno ⟨hn6, .inr ⟨g6, rest6, rfl, by omega, hgE6, hb6⟩⟩
  · have hyes := hb.1 rfl
    clear hb
    go_wp2
    go_ret2
    refine LFPost.new (by rw [Int.toNat_natCast, HLL.out]) (HC3.out.trans hc5) HA.out hyes ?_
    exact (HO.out.new hc5).more (Nat.le_refl _) hc5.size
end Go.Proofs.Ytgfhplejdpjgoaa
