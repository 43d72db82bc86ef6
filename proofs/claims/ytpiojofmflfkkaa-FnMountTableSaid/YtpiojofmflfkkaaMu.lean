/- Parts of the proof, merged: Ua, Ub. -/
import Derived.Test.YtpiojofmflfkkaaMo
import Derived.Test.YtpiojofmflfkkaaMt
import Derived.Test.YtpiojofmflfkkaaMh
import Derived.Test.YtpiojofmflfkkaaMd
import Derived.Deep.RegionHeld3
/- Tables made of pages of a device are valid. -/
namespace Go.Proofs.Ytpiojofmflfkkaa
open Go.RowKit
def GoodF (φ : Nat → Nat → Int) : Prop := (∀ f p, f < 8 → p < 6 → -1 ≤ φ f p ∧ φ f p ≤ 47) ∧ ∀ f p f' p', f < 8 → p < 6 → f' < 8 → p' < 6 → 0 ≤ φ f p → φ f p = φ f' p' → f = f' ∧ p = p'
theorem tabOk_of {φ : Nat → Nat → Int} (h : GoodF φ) : tabOk (tabF φ) := by
  refine ⟨tabF_len φ, fun f hf => ?_⟩
  have hf8 : f < 8 := by rw [tabF_len] at hf; exact hf
  rw [tabF_get]
  refine ⟨by simp, fun k hk => ?_⟩
  have hk6 : k < 6 := by simpa using hk
  simp only [List.getElem_map, List.getElem_range]
  refine ⟨(h.1 f k hf8 hk6).1, (h.1 f k hf8 hk6).2, fun h0 hm => ?_⟩
  rw [List.mem_append] at hm
  rcases hm with hm | hm
  · rw [List.mem_flatten] at hm
    obtain ⟨l, hl, hx⟩ := hm
    obtain ⟨i, hi, rfl⟩ := List.getElem_of_mem hl
    have hi2 : i < f := by rw [List.length_take] at hi; omega
    rw [List.getElem_take, tabF_get, List.mem_map] at hx
    obtain ⟨j, hj, he⟩ := hx
    have := h.2 f k i j hf8 hk6 (by omega) (List.mem_range.1 hj) h0 he.symm
    omega
  · obtain ⟨j, hj, he⟩ := List.getElem_of_mem hm
    have hj2 : j < k := by rw [List.length_take] at hj; omega
    rw [List.getElem_take] at he
    simp only [List.getElem_map, List.getElem_range] at he
    have := h.2 f k f j hf8 hk6 hf8 (by omega) h0 he.symm
    omega
theorem tget_get {X : List (List Int)} (h : tabOk X) {f p : Nat} (hf : f < 8) (hp : p < 6) : ∃ (h1 : f < X.length) (h2 : p < X[f].length), X[f][p] = tget X f p := by
  have h1 : f < X.length := by rw [h.1]; exact hf
  have h2 : p < X[f].length := by rw [(h.2 f h1).1]; exact hp
  refine ⟨h1, h2, ?_⟩
  have e : X.getD f [] = X[f] := by rw [List.getD_eq_getElem?_getD, List.getElem?_eq_getElem h1]; rfl
  unfold tget
  rw [e, List.getD_eq_getElem?_getD, List.getElem?_eq_getElem h2, Option.getD_some]
theorem good_of {X : List (List Int)} (h : tabOk X) : GoodF (tget X) := by
  have key : ∀ f p f' p', f < 8 → p < 6 → f' < 8 → p' < 6 → 0 ≤ tget X f p → tget X f p = tget X f' p' → (f' < f ∨ (f' = f ∧ p' < p)) → False := by
    intro f p f' p' hf hp hf' hp' h0 he hlt
    obtain ⟨h1, h2, e1⟩ := tget_get h hf hp
    obtain ⟨h3, h4, e2⟩ := tget_get h hf' hp'
    have hn := ((h.2 f h1).2 p h2).2.2 (by rw [e1]; exact h0)
    apply hn
    rw [List.mem_append, e1, he, ← e2]
    rcases hlt with hl | ⟨rfl, hl⟩
    · refine .inl (List.mem_flatten.2 ⟨X[f'], ?_, List.getElem_mem h4⟩)
      have : f' < (X.take f).length := by rw [List.length_take]; omega
      rw [← List.getElem_take (i := f') (h := this)]
      exact List.getElem_mem this
    · refine .inr ?_
      have : p' < (X[f'].take p).length := by rw [List.length_take]; omega
      rw [← List.getElem_take (i := p') (h := this)]
      exact List.getElem_mem this
  refine ⟨fun f p hf hp => ?_, fun f p f' p' hf hp hf' hp' h0 he => ?_⟩
  · obtain ⟨h1, h2, e1⟩ := tget_get h hf hp
    rw [← e1]
    have := (h.2 f h1).2 p h2
    exact ⟨this.1, this.2.1⟩
  · by_cases h1 : f' < f ∨ (f' = f ∧ p' < p)
    · exact (key f p f' p' hf hp hf' hp' h0 he h1).elim
    · by_cases h2 : f < f' ∨ (f = f' ∧ p < p')
      · exact (key f' p' f p hf' hp' hf hp (by omega) he.symm h2).elim
      · omega
theorem rollF_good {D : List Bk} {φ : Nat → Nat → Int} {x : Nat} (h : GoodF φ) (hx : x ≤ 47) : GoodF (rollF D φ x) := by
  have hv : ∀ f p, rollF D φ x f p = if f = (pgAt D x).file.toNat ∧ p = (pgAt D x).place.toNat then (x : Int) else if φ f p = (x : Int) then -1 else φ f p := fun f p => rfl
  refine ⟨fun f p hf hp => ?_, fun f p f' p' hf hp hf' hp' h0 he => ?_⟩
  · have := h.1 f p hf hp
    rw [hv]
    split
    · omega
    · split <;> omega
  · rw [hv] at h0 he
    rw [hv] at he
    have hk := h.2 f p f' p' hf hp hf' hp'
    split at h0
    · rename_i ha
      rw [if_pos ha] at he
      split at he
      · rename_i hb; omega
      · split at he <;> omega
    · rename_i ha
      rw [if_neg ha] at he
      split at h0
      · omega
      · rename_i hc
        rw [if_neg hc] at he
        split at he
        · omega
        · split at he
          · omega
          · exact hk h0 he
theorem rollN_good {D : List Bk} (L : List Nat) : ∀ {φ : Nat → Nat → Int}, GoodF φ → (∀ x ∈ L, x ≤ 47) → GoodF (rollN D φ L) := by
  induction L with
  | nil => intro φ h _; exact h
  | cons x L ih =>
    intro φ h hx
    show GoodF (rollN D (rollF D φ x) L)
    exact ih (rollF_good h (hx x (List.mem_cons_self ..))) (fun y hy => hx y (List.mem_cons_of_mem _ hy))
theorem tofN_good (D : List Bk) : ∀ n, n ≤ 48 → GoodF (tofN D n) := by
  intro n
  induction n with
  | zero =>
    intro _
    refine ⟨fun f p _ _ => ?_, fun f p f' p' _ _ _ _ h0 _ => ?_⟩
    · simp [tofN]
    · simp [tofN] at h0
  | succ n ih =>
    intro hn
    have h := ih (by omega)
    rw [tofN_succ]
    split
    · have hv : ∀ f p, upd2 (tofN D n) (fiOf D n) (plOf D n) (n : Int) f p = if f = fiOf D n ∧ p = plOf D n then (n : Int) else tofN D n f p := fun f p => rfl
      refine ⟨fun f p hf hp => ?_, fun f p f' p' hf hp hf' hp' h0 he => ?_⟩
      · have := h.1 f p hf hp
        rw [hv]
        split <;> omega
      · rw [hv] at h0 he
        rw [hv] at he
        have hk := h.2 f p f' p' hf hp hf' hp'
        have r1 := tofN_range D n f p
        have r2 := tofN_range D n f' p'
        split at h0
        · rename_i ha
          rw [if_pos ha] at he
          split at he
          · rename_i hb; omega
          · omega
        · rename_i ha
          rw [if_neg ha] at he
          split at he
          · omega
          · exact hk h0 he
    · exact h
theorem tableOf_ok {D : List Bk} (hd : DvOk D) : tabOk (tableOf D) := by
  unfold tableOf
  rw [if_pos hd]
  exact tabOk_of (tofN_good D _ (by have := hd.1.2; omega))
theorem rollForward_ok {D : List Bk} {X : List (List Int)} {s : Int} (hd : DvOk D) (hx : tabOk X) : tabOk (rollForward D X s) := by
  unfold rollForward
  rw [if_pos ⟨hd, hx⟩]
  exact tabOk_of (rollN_good _ (good_of hx) (fun x h => by have := (ps_good h).2.1; have := hd.1.2; omega))
theorem newer_ok {p q : LdA} {X : List (List Int)} {N : Int} (h : NewerIs p q X N true) : tabOk X := by
  obtain ⟨X1, b1, X2, b2, h1, h2, ha, hb, hc⟩ := h
  have ok : ∀ {n s : Int} {xs : List Int} {X : List (List Int)}, LoadIs n xs s X true → tabOk X := fun {n s xs X} h => by
    by_cases hl : loadArgs n xs s
    · rw [(h.1 hl).1]; exact hl.2.2.2.1
    · have := (h.2 hl).2; cases this
  cases b1 <;> cases b2
  · have := (hc rfl rfl).2.2; cases this
  · obtain ⟨e1, e2, e3⟩ := hb (fun hh => by cases hh.1) rfl
    rw [e1]; exact ok h2
  · obtain ⟨e1, e2, e3⟩ := ha rfl (.inl rfl)
    rw [e1]; exact ok h1
  · by_cases hq : q.n ≤ p.n
    · obtain ⟨e1, e2, e3⟩ := ha rfl (.inr hq)
      rw [e1]; exact ok h1
    · obtain ⟨e1, e2, e3⟩ := hb (fun hh => by rcases hh.2 with h' | h' <;> first | cases h' | exact hq h') rfl
      rw [e1]; exact ok h2
theorem mountY_ok {D : List Bk} {p q : LdA} {X : List (List Int)} {N : Int} {bb : Bool} {s : Int} (hd : DvOk D) (h : NewerIs p q X N bb) : tabOk (mountY D X bb s) := by
  cases bb
  · exact tableOf_ok hd
  · exact rollForward_ok hd (newer_ok h)
theorem newer_none : NewerIs ⟨0, [], 0⟩ ⟨0, [], 0⟩ [] (-1) false := by
  have hl : ¬ loadArgs 0 [] 0 := fun h => by have := h.1; simp at this
  have h1 : LoadIs 0 [] 0 [] false := ⟨fun h => absurd h hl, fun _ => ⟨rfl, rfl⟩⟩
  exact ⟨[], false, [], false, h1, h1, fun h _ => absurd h (by simp), fun _ h => absurd h (by simp), fun _ _ => ⟨rfl, rfl, rfl⟩⟩
theorem tabF_small (φ : Nat → Nat → Int) : total (tabF φ) ≤ 1048576 ∧ (tabF φ).length ≤ 9223372036854775807 ∧ ∀ r ∈ tabF φ, r.length ≤ 9223372036854775807 := by
  refine ⟨by rw [show total (tabF φ) = 56 from rfl]; omega, by rw [tabF_len]; omega, fun r hr => ?_⟩
  unfold tabF at hr
  rw [List.mem_map] at hr
  obtain ⟨f, _, rfl⟩ := hr
  simp
theorem nil_small : total [] ≤ 1048576 ∧ ([] : List (List Int)).length ≤ 9223372036854775807 ∧ ∀ r ∈ ([] : List (List Int)), r.length ≤ 9223372036854775807 := by simp [total]
theorem tableOf_small (D : List Bk) : total (tableOf D) ≤ 1048576 ∧ (tableOf D).length ≤ 9223372036854775807 ∧ ∀ r ∈ tableOf D, r.length ≤ 9223372036854775807 := by
  unfold tableOf
  split
  · exact tabF_small _
  · exact nil_small
theorem rollForward_small (D : List Bk) (X : List (List Int)) (s : Int) : total (rollForward D X s) ≤ 1048576 ∧ (rollForward D X s).length ≤ 9223372036854775807 ∧ ∀ r ∈ rollForward D X s, r.length ≤ 9223372036854775807 := by
  unfold rollForward
  split
  · exact tabF_small _
  · exact nil_small
theorem mount_smallB (D : List Bk) (X : List (List Int)) (b : Bool) (s : Int) : total (mountY D X b s) ≤ 1048576 ∧ (mountY D X b s).length ≤ 9223372036854775807 ∧ ∀ r ∈ mountY D X b s, r.length ≤ 9223372036854775807 := by
  cases b
  · exact tableOf_small D
  · exact rollForward_small D X s
end Go.Proofs.Ytpiojofmflfkkaa
/- DrawMountTable; the law FnMountTable: the walk. -/
namespace Go.Proofs.Ytpiojofmflfkkaa
open Go.RowKit
def MtDrawn (w : World) (e : Ending) (w' : World) : Prop :=
  ∃ A c D n A1 c1 ys s n' A2 c2 ys' s' x, e = .returned (.tuple #[.slice A (D : List Bk).length c, .agg #[.int .i64 n, .slice A1 (ys : List Int).length c1, .int .i64 s], .agg #[.int .i64 n', .slice A2 (ys' : List Int).length c2, .int .i64 s'], .int .i64 x]) ∧
    (DevR (fun i => w.heap.size ≤ i) w' A D ∧ D.length ≤ c ∧ D.length ≤ 13 ∧ ∀ b ∈ D, b.pages.length ≤ 4) ∧
    (Rd (fun i => w.heap.size ≤ i) w' A1 (icells ys) ∧ ys.length ≤ c1 ∧ c1 ≤ maxLen) ∧ (Rd (fun i => w.heap.size ≤ i) w' A2 (icells ys') ∧ ys'.length ≤ c2 ∧ c2 ≤ maxLen) ∧ Chg NoB w w'
set_option maxRecDepth 100000 in
set_option maxHeartbeats 4000000 in
theorem DrawMountTable_any (A0 : Option Addr) (c0 : Nat) (bs : List Nat) (w : World) (h : Rd (fun i => i < w.heap.size) w A0 (bs.map fun (b : Nat) => Value.int .u8 (b : Int))) (hx : ∀ b ∈ bs, b < 256) (hc : bs.length ≤ c0) :
    Calls Try.prog 11 #[.slice A0 bs.length c0] w (MtDrawn w) := by
  obtain ⟨hb1, hb2, hca⟩ := lit2 w 26 26 #[.int .i64 0, .slice none 0 0, .int .i64 0] #[.int .i64 0, .slice none 0 0, .int .i64 0]
  have HH1 := Lib.hid hb1
  have HH2 := Lib.hid hb2
  have HC0 := Lib.hid hca
  have hsz0 := hb2.lt
  have HX0 := Lib.hid ((h.chg hca (fun _ _ x => x)).mono (fun i _ hi => by omega) : Rd (fun i => i < ((w.alloc (.cells #[.int .i64 0, .slice none 0 0, .int .i64 0] 26)).alloc (.cells #[.int .i64 0, .slice none 0 0, .int .i64 0] 26)).heap.size) _ A0 _)
  have HZ0 := Lib.hid hsz0
  clear hca hb1 hb2 hsz0 h
  go_enter Try.func11, Try.ntmps11
  go_wp2_with fail
  refine (l20Open_any A0 c0 bs _ HX0.out hx hc).mono ?_
  rintro e w1 ⟨g, rfl, hg, hc1, hr1⟩
  have hgH : w.heap.size + 1 < g := by rw [hg]; exact HZ0.out
  have HC1 := Lib.hid (HC0.out.trans hc1)
  have HB1 := Lib.hid (HH1.out.chg hc1 (fun x => x))
  have HB2 := Lib.hid (HH2.out.chg hc1 (fun x => x))
  clear hg hc1 hx hc HX0
  go_wp2_with fail
  refine (l20Device_any g 0 9 _ hr1 (by omega) (by omega) (by omega)).mono ?_
  rintro e w2 ⟨A, c, D, hh, rfl, hrd, hlc, h13, h4, hc2, hr2⟩
  have hca := (Chg.refl NoB w2).alloc (.cells #[.int .i64 hh.hot, .int .i64 hh.warm, .int .i64 hh.cold] 46)
  have HC2 := Lib.hid ((HC1.out.own hc2 (by omega)).trans hca)
  have HRD := Lib.hid (show DevR (fun i => w1.heap.size ≤ i) _ A D from hrd.new hca)
  have HB3 := Lib.hid ((HB1.out.chg hc2 (by omega)).chg hca (fun x => x))
  have HB4 := Lib.hid ((HB2.out.chg hc2 (by omega)).chg hca (fun x => x))
  have HR2 := Lib.hid (hr2.alloc (.cells #[.int .i64 hh.hot, .int .i64 hh.warm, .int .i64 hh.cold] 46))
  have HDB := Lib.hid h4
  have HS1 := Lib.hid HC1.out.size
  have HG1 := Lib.hid (show g < w1.heap.size from hr1.lt)
  have HG2 := Lib.hid (show w1.heap.size ≤ w2.heap.size from hc2.size)
  clear hca hc2 hrd hr1 hr2 h4
  go_wp2_with fail
  refine (l20Save_any g _ 3 _ HR2.out (by omega) (by omega) (by omega)).mono ?_
  rintro e w3 ⟨n, A1, c1, ys, s, rfl, hrd, hyc, hcm, hyl, -, -, hc3, hr3⟩
  have hca := (Chg.refl NoB w3).alloc (.cells #[.int .i64 n, .slice A1 ys.length c1, .int .i64 s] 26)
  have hv4 := Blk.new w3 26 #[.int .i64 n, .slice A1 ys.length c1, .int .i64 s]
  have hc4 : Chg NoB w _ := (show Chg NoB w w3 from HC2.out.own hc3 (by omega)).trans hca
  have hb1 := (HB3.out.chg hc3 (by omega)).chg hca (fun x => x)
  have hb2 := (HB4.out.chg hc3 (by omega)).chg hca (fun x => x)
  have hrd4 := hrd.new hca
  have hR4 := (HRD.out.chg hc3 (fun i h1 h2 => by have := HG1.out; omega)).new hca
  have hr4 := hr3.alloc (.cells #[.int .i64 n, .slice A1 ys.length c1, .int .i64 s] 26)
  have hlt1 := HB4.out.lt
  have hsz3 : w2.heap.size < w3.heap.size := by have := hc3.size; rw [World.size_alloc] at this; omega
  have hg3 := hr3.lt
  go_wp2_with fail
  obtain ⟨V, hV⟩ : ∃ V, w3.heap.size = V := ⟨_, rfl⟩
  obtain ⟨w4, hw4⟩ : ∃ w4, w3.alloc (.cells #[.int .i64 n, .slice A1 ys.length c1, .int .i64 s] 26) = w4 := ⟨_, rfl⟩
  rw [hw4] at hv4 hc4 hb1 hb2 hrd4 hr4 hR4 ⊢
  rw [hV] at hv4 hsz3 hg3 ⊢
  have HV4 := Lib.hid hv4
  have HC4 := Lib.hid hc4
  have HB5 := Lib.hid hb1
  have HB6 := Lib.hid hb2
  have HRS := Lib.hid (show Rd (fun i => w1.heap.size ≤ i) w4 A1 (icells ys) from hrd4.mono (fun i _ hi => by rw [World.size_alloc] at hi; have := HG2.out; omega))
  have HRV := Lib.hid (show DevR (fun i => w1.heap.size ≤ i) w4 A D from hR4)
  have HR4 := Lib.hid hr4
  have HCM := Lib.hid hcm
  have v0 : w4.cell? ⟨V, 0, none⟩ = some (.int .i64 n) := (hv4.cell _).trans rfl
  have v1 : w4.cell? ⟨V, 1, none⟩ = some (.slice A1 ys.length c1) := (hv4.cell _).trans rfl
  have v2 : w4.cell? ⟨V, 2, none⟩ = some (.int .i64 s) := (hv4.cell _).trans rfl
  have hVl := hv4.lt
  have HVL := Lib.hid hVl
  have hs1 := HS1.out
  have hg1 := HG1.out
  have hg2 := HG2.out
  have hn1 : V ≠ w.heap.size := by omega
  have hn2 : w.heap.size ≠ V := by omega
  have hn3 : V ≠ w.heap.size + 1 := by omega
  have hn4 : w.heap.size + 1 ≠ V := by omega
  have hVg : V ≠ g := by omega
  clear hV hw4 hv4 hc4 hb1 hb2 hrd4 hr4 hcm hca hc3 hr3 hrd HH1 HH2 HB1 HB2 HC0 HC1 HZ0 hR4 HC2 HB3 HB4 HR2 HRD hlt1
  go_region_held3 (fun w' => w'.cell? ⟨V, 0, none⟩ = some (.int .i64 n) ∧ w'.cell? ⟨V, 1, none⟩ = some (.slice A1 ys.length c1) ∧ w'.cell? ⟨V, 2, none⟩ = some (.int .i64 s))
    (first | go_keep | (refine ⟨?_, ?_, ?_⟩ <;> exact ((HV4.out.chg (F := (· = g)) (HK.out.trans hcc) hVg).cell _).trans rfl) | (refine ⟨?_, ?_, ?_⟩ <;> exact ((HV4.out.chg (F := (· = g)) ((Chg.refl _ w4).drew.trans hcc) hVg).cell _).trans rfl))
    (first
      | (go_at_call 62; refine (l20Save_any g _ 3 _ HR4.out.drew (by omega) (by omega) (by omega)).mono ?_; rintro e' w5 ⟨n', A2, c2, ys', s', rfl, hrd', hyc', hcm', hyl', -, -, hcc, hr5⟩; have HK := Lib.hid ((Chg.refl (· = g) w4).drew.trans hcc); have HRD5 := Lib.hid hrd'; have HCM' := Lib.hid hcm'; have HR5 := Lib.hid hr5)
      | (go_at_call 63; refine (pick_any g _ 22 _ HR5.out (by omega) (by omega) (by omega)).mono ?_; rintro e' w6 ⟨k, rfl, hk22, hcc, hr6⟩; have hk := HK.out.trans hcc; have hb5 := HB5.out.chg hk (by omega); have hb6 := HB6.out.chg hk (by omega); have HKK := Lib.hid hk; have HRD6 := Lib.hid (HRD5.out.chg hcc (fun i h1 h2 => by rw [World.size_drew] at h1; omega)); have p0 : w6.cell? ⟨w.heap.size, 0, none⟩ = some (.int .i64 0) := (hb5.cell _).trans rfl; have p1 : w6.cell? ⟨w.heap.size, 1, none⟩ = some (.slice none 0 0) := (hb5.cell _).trans rfl; have p2 : w6.cell? ⟨w.heap.size, 2, none⟩ = some (.int .i64 0) := (hb5.cell _).trans rfl; have pf0 := hb5.frozen 0; have pf1 := hb5.frozen 1; have pf2 := hb5.frozen 2; have q0 : w6.cell? ⟨w.heap.size + 1, 0, none⟩ = some (.int .i64 0) := (hb6.cell _).trans rfl; have q1 : w6.cell? ⟨w.heap.size + 1, 1, none⟩ = some (.slice none 0 0) := (hb6.cell _).trans rfl; have q2 : w6.cell? ⟨w.heap.size + 1, 2, none⟩ = some (.int .i64 0) := (hb6.cell _).trans rfl; have qf0 := hb6.frozen 0; have qf1 := hb6.frozen 1; have qf2 := hb6.frozen 2; clear hk hb5 hb6))
  have hcs := chg3 (F := fun i => i = w.heap.size ∨ i = w.heap.size + 1) (a := .int .i64 n') (b := .slice A2 ys'.length c2) (c := .int .i64 s') (chg3 (F := fun i => i = w.heap.size ∨ i = w.heap.size + 1) (a := .int .i64 n) (b := .slice A1 ys.length c1) (c := .int .i64 s) (Chg.refl _ w6) (.inl (.inl rfl))) (.inl (.inr rfl))
  have HCS := Lib.hid hcs
  have HLT := Lib.hid (show w4.heap.size ≤ w6.heap.size from HKK.out.size)
  clear hcs
  have hwr : IntKind.i64.wrap ((k : Int) - 1) = (k : Int) - 1 := IntWalk.i64_in _ ⟨by omega, by omega⟩
  go_wp2_with fail
  (try simp only [Exit.inBlock, Exit.then])
  refine bodyPost_ret (v := .tuple #[.slice A D.length c, .agg #[.int .i64 n, .slice A1 ys.length c1, .int .i64 s], .agg #[.int .i64 n', .slice A2 ys'.length c2, .int .i64 s'], .int .i64 ((k : Int) - 1)]) (by simp [results, Try.results11, go_sem, *]) rfl ?_
  have hVl2 := HVL.out
  refine ⟨A, c, D, n, A1, c1, ys, s, n', A2, c2, ys', s', (k : Int) - 1, rfl, ⟨?_, hlc, h13, HDB.out⟩, ⟨?_, hyc, HCM.out⟩, ⟨?_, hyc', HCM'.out⟩, ?_⟩
  · exact ((HRV.out.chg HKK.out (fun i h1 h2 => by omega)).chg HCS.out (fun i h1 h2 => by omega)).mono (fun i _ h => by omega)
  · exact ((HRS.out.chg HKK.out (fun i h1 h2 => by omega)).chg HCS.out (fun i h1 h2 => by omega)).mono (fun i _ h => by omega)
  · exact (HRD6.out.chg HCS.out (fun i h1 h2 => by rw [World.size_drew] at h1; omega)).mono (fun i _ h => by rw [World.size_drew] at h; omega)
  · exact (HC4.out.own HKK.out (by omega)).trans' HCS.out (fun i hi => .inr (by omega))
set_option maxRecDepth 100000 in
set_option maxHeartbeats 8000000 in
theorem FnMountTable_any (A : Option Addr) (c : Nat) (bs : List Nat) (w : World) (h : Rd (fun i => i < w.heap.size) w A (bs.map fun (b : Nat) => Value.int .u8 (b : Int))) (hx : ∀ b ∈ bs, b < 256) (hc : bs.length ≤ c) (_hm : c ≤ maxLen) :
    Calls Try.prog 3 #[.slice A bs.length c] w fun e w' => e = .returned (.bool true) ∧ Chg NoB w w' := by
  by_cases hl : 1048576 < bs.length
  · go_enter Try.func3, Try.ntmps3
    go_wp2
    go_ret
    exact ⟨rfl, Chg.refl _ _⟩
  have hl' : bs.length ≤ 1048576 := by omega
  go_enter Try.func3, Try.ntmps3
  go_wp2_with fail
  refine (DrawMountTable_any A c bs w h hx hc).mono ?_
  rintro e w1 ⟨Ad, cd, D, n, A1, c1, ys, s, n', A2, c2, ys', s', x, rfl, ⟨hD, hDc, h13, h4⟩, ⟨hrd, hyc, hcm⟩, ⟨hrd', hyc', hcm'⟩, hc1⟩
  have HM1 := Lib.hid (show c1 ≤ 9223372036854775807 by unfold maxLen at hcm; exact hcm)
  have HM2 := Lib.hid (show c2 ≤ 9223372036854775807 by unfold maxLen at hcm'; exact hcm')
  have HSM := Lib.hid (small13 h13 h4)
  have HYC := Lib.hid (And.intro hyc hyc')
  clear h hx hc hcm hcm' hyc hyc' h4 h13 hl
  have HCH := Lib.hid hc1
  have HD := Lib.hid hD
  have HR1 := Lib.hid hrd
  have HR2 := Lib.hid hrd'
  clear hD hrd hrd' hc1
  go_wp2_with fail
  obtain ⟨w11, hw11⟩ : ∃ w11, w1.alloc (.cells #[.int .i64 n, .slice A1 ys.length c1, .int .i64 s] 26) = w11 := ⟨_, rfl⟩
  try rw [hw11]
  have q12 : Chg NoB w1 w11 := by rw [← hw11]; exact (Chg.refl _ _).alloc _
  have bq12 : Blk w11 w1.heap.size 26 #[.int .i64 n, .slice A1 ys.length c1, .int .i64 s] := by rw [← hw11]; exact Blk.new _ _ _
  have sq12 : w11.heap.size = w1.heap.size + 1 := by rw [← hw11]; exact World.size_alloc ..
  clear hw11
  replace HCH := Lib.hid (HCH.out.trans q12)
  replace HD := Lib.hid (HD.out.new q12)
  replace HR1 := Lib.hid (HR1.out.new q12)
  replace HR2 := Lib.hid (HR2.out.new q12)
  have S13 := Lib.hid q12.size
  have S14 := Lib.hid sq12
  have HB_p := Lib.hid bq12
  have z_p_0 : w11.cell? ⟨w1.heap.size, 0, none⟩ = some (.int .i64 n) := (HB_p.out.cell _).trans rfl
  have z_p_1 : w11.cell? ⟨w1.heap.size, 1, none⟩ = some (.slice A1 ys.length c1) := (HB_p.out.cell _).trans rfl
  have z_p_2 : w11.cell? ⟨w1.heap.size, 2, none⟩ = some (.int .i64 s) := (HB_p.out.cell _).trans rfl
  clear q12 sq12 bq12
  obtain ⟨w15, hw15⟩ : ∃ w15, w11.alloc (.cells #[.int .i64 n', .slice A2 ys'.length c2, .int .i64 s'] 26) = w15 := ⟨_, rfl⟩
  try rw [hw15]
  have q16 : Chg NoB w11 w15 := by rw [← hw15]; exact (Chg.refl _ _).alloc _
  have bq16 : Blk w15 (w1.heap.size + 1) 26 #[.int .i64 n', .slice A2 ys'.length c2, .int .i64 s'] := by have hz : w11.heap.size = w1.heap.size + 1 := (by have := S13.out; have := S14.out; omega); rw [← hz, ← hw15]; exact Blk.new _ _ _
  have sq16 : w15.heap.size = w11.heap.size + 1 := by rw [← hw15]; exact World.size_alloc ..
  clear hw15
  replace HCH := Lib.hid (HCH.out.trans q16)
  replace HB_p := Lib.hid (HB_p.out.chg q16 (fun x => x))
  replace z_p_0 := Chg.cell q16 z_p_0 (fun x => x)
  replace z_p_1 := Chg.cell q16 z_p_1 (fun x => x)
  replace z_p_2 := Chg.cell q16 z_p_2 (fun x => x)
  replace HD := Lib.hid (HD.out.new q16)
  replace HR1 := Lib.hid (HR1.out.new q16)
  replace HR2 := Lib.hid (HR2.out.new q16)
  have S17 := Lib.hid q16.size
  have S18 := Lib.hid sq16
  have HB_q := Lib.hid bq16
  have z_q_0 : w15.cell? ⟨w1.heap.size + 1, 0, none⟩ = some (.int .i64 n') := (HB_q.out.cell _).trans rfl
  have z_q_1 : w15.cell? ⟨w1.heap.size + 1, 1, none⟩ = some (.slice A2 ys'.length c2) := (HB_q.out.cell _).trans rfl
  have z_q_2 : w15.cell? ⟨w1.heap.size + 1, 2, none⟩ = some (.int .i64 s') := (HB_q.out.cell _).trans rfl
  clear q16 sq16 bq16
  obtain ⟨X, N0, bb, hI0⟩ := NewerIs.ex ⟨n, ys, s⟩ ⟨n', ys', s'⟩
  have HI0 := Lib.hid hI0
  obtain ⟨Y, hY⟩ : ∃ Y, mountY D X bb x = Y := ⟨_, rfl⟩
  obtain ⟨b0, hb0⟩ : ∃ b0, decide (DvOk D) = b0 := ⟨_, rfl⟩
  have HYE := Lib.hid hY
  have HBE := Lib.hid hb0
  have HYS := Lib.hid (show total Y ≤ 1048576 ∧ Y.length ≤ 9223372036854775807 ∧ ∀ r ∈ Y, r.length ≤ 9223372036854775807 by rw [← hY]; exact mount_smallB D X bb x)
  have hbn : (b0 != b0) = false := by cases b0 <;> rfl
  clear hI0 hY hb0
  refine (iMountTable_any _ _ _ _ _ D ⟨n, ys, s⟩ ⟨n', ys', s'⟩ _ _ c1 c2 x X N0 bb _ HD.out HR1.out HYC.out.1 HM1.out HR2.out HYC.out.2 HM2.out HI0.out).mono ?_
  rintro e w19 ⟨Ag, cg, Tg, rfl, hXg, hc20, hOg⟩
  replace HCH := Lib.hid (HCH.out.trans hc20)
  replace HB_p := Lib.hid (HB_p.out.chg hc20 (fun x => x))
  replace z_p_0 := Chg.cell hc20 z_p_0 (fun x => x)
  replace z_p_1 := Chg.cell hc20 z_p_1 (fun x => x)
  replace z_p_2 := Chg.cell hc20 z_p_2 (fun x => x)
  replace HB_q := Lib.hid (HB_q.out.chg hc20 (fun x => x))
  replace z_q_0 := Chg.cell hc20 z_q_0 (fun x => x)
  replace z_q_1 := Chg.cell hc20 z_q_1 (fun x => x)
  replace z_q_2 := Chg.cell hc20 z_q_2 (fun x => x)
  replace HD := Lib.hid (HD.out.new hc20)
  replace HR1 := Lib.hid (HR1.out.new hc20)
  replace HR2 := Lib.hid (HR2.out.new hc20)
  have S21 := Lib.hid hc20.size
  rw [HYE.out] at hXg ⊢
  rw [HBE.out]
  have hRg := hOg.reads
  rw [hXg] at hRg
  have Rg := Lib.hid hRg
  clear hRg hOg hc20 hXg
  have zz_p_0 := Chg.cell ((Chg.refl NoB w19).alloc (.cells #[.slice Ag Y.length cg] 31)) z_p_0 (fun x => x)
  have zz_p_1 := Chg.cell ((Chg.refl NoB w19).alloc (.cells #[.slice Ag Y.length cg] 31)) z_p_1 (fun x => x)
  have zz_p_2 := Chg.cell ((Chg.refl NoB w19).alloc (.cells #[.slice Ag Y.length cg] 31)) z_p_2 (fun x => x)
  have zz_q_0 := Chg.cell ((Chg.refl NoB w19).alloc (.cells #[.slice Ag Y.length cg] 31)) z_q_0 (fun x => x)
  have zz_q_1 := Chg.cell ((Chg.refl NoB w19).alloc (.cells #[.slice Ag Y.length cg] 31)) z_q_1 (fun x => x)
  have zz_q_2 := Chg.cell ((Chg.refl NoB w19).alloc (.cells #[.slice Ag Y.length cg] 31)) z_q_2 (fun x => x)
  go_wp2_with fail
  clear zz_p_0 zz_p_1 zz_p_2 zz_q_0 zz_q_1 zz_q_2
  obtain ⟨w22, hw22⟩ : ∃ w22, w19.alloc (.cells #[.slice Ag Y.length cg] 31) = w22 := ⟨_, rfl⟩
  try rw [hw22]
  have q23 : Chg NoB w19 w22 := by rw [← hw22]; exact (Chg.refl _ _).alloc _
  have bq23 : Blk w22 w19.heap.size 31 #[.slice Ag Y.length cg] := by rw [← hw22]; exact Blk.new _ _ _
  have sq23 : w22.heap.size = w19.heap.size + 1 := by rw [← hw22]; exact World.size_alloc ..
  clear hw22
  replace HCH := Lib.hid (HCH.out.trans q23)
  replace HB_p := Lib.hid (HB_p.out.chg q23 (fun x => x))
  replace z_p_0 := Chg.cell q23 z_p_0 (fun x => x)
  replace z_p_1 := Chg.cell q23 z_p_1 (fun x => x)
  replace z_p_2 := Chg.cell q23 z_p_2 (fun x => x)
  replace HB_q := Lib.hid (HB_q.out.chg q23 (fun x => x))
  replace z_q_0 := Chg.cell q23 z_q_0 (fun x => x)
  replace z_q_1 := Chg.cell q23 z_q_1 (fun x => x)
  replace z_q_2 := Chg.cell q23 z_q_2 (fun x => x)
  replace HD := Lib.hid (HD.out.new q23)
  replace HR1 := Lib.hid (HR1.out.new q23)
  replace HR2 := Lib.hid (HR2.out.new q23)
  replace Rg := Lib.hid (Rg.out.new q23)
  have S24 := Lib.hid q23.size
  have S25 := Lib.hid sq23
  have HB_g := Lib.hid bq23
  have z_g_0 : w22.cell? ⟨w19.heap.size, 0, none⟩ = some (.slice Ag Y.length cg) := (HB_g.out.cell _).trans rfl
  clear q23 sq23 bq23
  refine (sMountTable_any _ _ _ _ _ D ⟨n, ys, s⟩ ⟨n', ys', s'⟩ _ _ c1 c2 x X N0 bb _ HD.out HSM.out HR1.out HYC.out.1 HM1.out HR2.out HYC.out.2 HM2.out HI0.out).mono ?_
  rintro e w26 ⟨Ak, ck, Tk, rfl, hXk, hc27, hOk⟩
  replace HCH := Lib.hid (HCH.out.trans hc27)
  replace HB_p := Lib.hid (HB_p.out.chg hc27 (fun x => x))
  replace z_p_0 := Chg.cell hc27 z_p_0 (fun x => x)
  replace z_p_1 := Chg.cell hc27 z_p_1 (fun x => x)
  replace z_p_2 := Chg.cell hc27 z_p_2 (fun x => x)
  replace HB_q := Lib.hid (HB_q.out.chg hc27 (fun x => x))
  replace z_q_0 := Chg.cell hc27 z_q_0 (fun x => x)
  replace z_q_1 := Chg.cell hc27 z_q_1 (fun x => x)
  replace z_q_2 := Chg.cell hc27 z_q_2 (fun x => x)
  replace HB_g := Lib.hid (HB_g.out.chg hc27 (fun x => x))
  replace z_g_0 := Chg.cell hc27 z_g_0 (fun x => x)
  replace HD := Lib.hid (HD.out.new hc27)
  replace HR1 := Lib.hid (HR1.out.new hc27)
  replace HR2 := Lib.hid (HR2.out.new hc27)
  replace Rg := Lib.hid (Rg.out.new hc27)
  have S28 := Lib.hid hc27.size
  rw [HYE.out] at hXk ⊢
  rw [HBE.out]
  have hRk := hOk.reads
  rw [hXk] at hRk
  have Rk := Lib.hid hRk
  clear hRk hOk hc27 hXk
  have zz_p_0 := Chg.cell ((Chg.refl NoB w26).alloc (.cells #[.slice Ak Y.length ck] 31)) z_p_0 (fun x => x)
  have zz_p_1 := Chg.cell ((Chg.refl NoB w26).alloc (.cells #[.slice Ak Y.length ck] 31)) z_p_1 (fun x => x)
  have zz_p_2 := Chg.cell ((Chg.refl NoB w26).alloc (.cells #[.slice Ak Y.length ck] 31)) z_p_2 (fun x => x)
  have zz_q_0 := Chg.cell ((Chg.refl NoB w26).alloc (.cells #[.slice Ak Y.length ck] 31)) z_q_0 (fun x => x)
  have zz_q_1 := Chg.cell ((Chg.refl NoB w26).alloc (.cells #[.slice Ak Y.length ck] 31)) z_q_1 (fun x => x)
  have zz_q_2 := Chg.cell ((Chg.refl NoB w26).alloc (.cells #[.slice Ak Y.length ck] 31)) z_q_2 (fun x => x)
  have zz_g_0 := Chg.cell ((Chg.refl NoB w26).alloc (.cells #[.slice Ak Y.length ck] 31)) z_g_0 (fun x => x)
  go_wp2_with fail
  clear zz_p_0 zz_p_1 zz_p_2 zz_q_0 zz_q_1 zz_q_2 zz_g_0
  obtain ⟨w29, hw29⟩ : ∃ w29, w26.alloc (.cells #[.slice Ak Y.length ck] 31) = w29 := ⟨_, rfl⟩
  try rw [hw29]
  have q30 : Chg NoB w26 w29 := by rw [← hw29]; exact (Chg.refl _ _).alloc _
  have bq30 : Blk w29 w26.heap.size 31 #[.slice Ak Y.length ck] := by rw [← hw29]; exact Blk.new _ _ _
  have sq30 : w29.heap.size = w26.heap.size + 1 := by rw [← hw29]; exact World.size_alloc ..
  clear hw29
  replace HCH := Lib.hid (HCH.out.trans q30)
  replace HB_p := Lib.hid (HB_p.out.chg q30 (fun x => x))
  replace z_p_0 := Chg.cell q30 z_p_0 (fun x => x)
  replace z_p_1 := Chg.cell q30 z_p_1 (fun x => x)
  replace z_p_2 := Chg.cell q30 z_p_2 (fun x => x)
  replace HB_q := Lib.hid (HB_q.out.chg q30 (fun x => x))
  replace z_q_0 := Chg.cell q30 z_q_0 (fun x => x)
  replace z_q_1 := Chg.cell q30 z_q_1 (fun x => x)
  replace z_q_2 := Chg.cell q30 z_q_2 (fun x => x)
  replace HB_g := Lib.hid (HB_g.out.chg q30 (fun x => x))
  replace z_g_0 := Chg.cell q30 z_g_0 (fun x => x)
  replace HD := Lib.hid (HD.out.new q30)
  replace HR1 := Lib.hid (HR1.out.new q30)
  replace HR2 := Lib.hid (HR2.out.new q30)
  replace Rg := Lib.hid (Rg.out.new q30)
  replace Rk := Lib.hid (Rk.out.new q30)
  have S31 := Lib.hid q30.size
  have S32 := Lib.hid sq30
  have HB_k := Lib.hid bq30
  have z_k_0 : w29.cell? ⟨w26.heap.size, 0, none⟩ = some (.slice Ak Y.length ck) := (HB_k.out.cell _).trans rfl
  clear q30 sq30 bq30
  refine (sameTable_t _ _ _ _ _ _ Y _ Rg.out Rk.out HYS.out.2.1 HYS.out.2.2).mono ?_
  rintro e w33 ⟨rfl, hc34⟩
  replace HCH := Lib.hid (HCH.out.trans hc34)
  replace HB_p := Lib.hid (HB_p.out.chg hc34 (fun x => x))
  replace z_p_0 := Chg.cell hc34 z_p_0 (fun x => x)
  replace z_p_1 := Chg.cell hc34 z_p_1 (fun x => x)
  replace z_p_2 := Chg.cell hc34 z_p_2 (fun x => x)
  replace HB_q := Lib.hid (HB_q.out.chg hc34 (fun x => x))
  replace z_q_0 := Chg.cell hc34 z_q_0 (fun x => x)
  replace z_q_1 := Chg.cell hc34 z_q_1 (fun x => x)
  replace z_q_2 := Chg.cell hc34 z_q_2 (fun x => x)
  replace HB_g := Lib.hid (HB_g.out.chg hc34 (fun x => x))
  replace z_g_0 := Chg.cell hc34 z_g_0 (fun x => x)
  replace HB_k := Lib.hid (HB_k.out.chg hc34 (fun x => x))
  replace z_k_0 := Chg.cell hc34 z_k_0 (fun x => x)
  replace HD := Lib.hid (HD.out.new hc34)
  replace HR1 := Lib.hid (HR1.out.new hc34)
  replace HR2 := Lib.hid (HR2.out.new hc34)
  replace Rg := Lib.hid (Rg.out.new hc34)
  replace Rk := Lib.hid (Rk.out.new hc34)
  have S35 := Lib.hid hc34.size
  clear hc34
  clear Rk
  clear HB_k z_k_0
  by_cases hd : DvOk D
  case neg =>
    obtain rfl : b0 = false := by rw [← HBE.out]; exact decide_eq_false hd
    have HDV := Lib.hid hd
    obtain rfl : Y = [] := by rw [← HYE.out]; exact mountY_bad hd
    clear hd
    go_wp2_with fail
    refine (sameTable_t _ _ _ _ _ _ [] _ Rg.out (show TabR NoB _ none [] from fun k hk => absurd hk (Nat.not_lt_zero k)) (by simp) (by simp)).mono ?_
    rintro e w36 ⟨rfl, hc37⟩
    replace HCH := Lib.hid (HCH.out.trans hc37)
    replace HB_p := Lib.hid (HB_p.out.chg hc37 (fun x => x))
    replace z_p_0 := Chg.cell hc37 z_p_0 (fun x => x)
    replace z_p_1 := Chg.cell hc37 z_p_1 (fun x => x)
    replace z_p_2 := Chg.cell hc37 z_p_2 (fun x => x)
    replace HB_q := Lib.hid (HB_q.out.chg hc37 (fun x => x))
    replace z_q_0 := Chg.cell hc37 z_q_0 (fun x => x)
    replace z_q_1 := Chg.cell hc37 z_q_1 (fun x => x)
    replace z_q_2 := Chg.cell hc37 z_q_2 (fun x => x)
    replace HB_g := Lib.hid (HB_g.out.chg hc37 (fun x => x))
    replace z_g_0 := Chg.cell hc37 z_g_0 (fun x => x)
    replace HD := Lib.hid (HD.out.new hc37)
    replace HR1 := Lib.hid (HR1.out.new hc37)
    replace HR2 := Lib.hid (HR2.out.new hc37)
    replace Rg := Lib.hid (Rg.out.new hc37)
    have S38 := Lib.hid hc37.size
    clear hc37
    go_wp2_with fail
    refine (iDeviceValid_f _ Ad cd D _ HD.out HDV.out).mono ?_
    rintro e w39 ⟨rfl, hc40⟩
    replace HCH := Lib.hid (HCH.out.trans hc40)
    replace HB_p := Lib.hid (HB_p.out.chg hc40 (fun x => x))
    replace z_p_0 := Chg.cell hc40 z_p_0 (fun x => x)
    replace z_p_1 := Chg.cell hc40 z_p_1 (fun x => x)
    replace z_p_2 := Chg.cell hc40 z_p_2 (fun x => x)
    replace HB_q := Lib.hid (HB_q.out.chg hc40 (fun x => x))
    replace z_q_0 := Chg.cell hc40 z_q_0 (fun x => x)
    replace z_q_1 := Chg.cell hc40 z_q_1 (fun x => x)
    replace z_q_2 := Chg.cell hc40 z_q_2 (fun x => x)
    replace HB_g := Lib.hid (HB_g.out.chg hc40 (fun x => x))
    replace z_g_0 := Chg.cell hc40 z_g_0 (fun x => x)
    replace HD := Lib.hid (HD.out.new hc40)
    replace HR1 := Lib.hid (HR1.out.new hc40)
    replace HR2 := Lib.hid (HR2.out.new hc40)
    replace Rg := Lib.hid (Rg.out.new hc40)
    have S41 := Lib.hid hc40.size
    clear hc40
    go_wp2_with fail
    refine (alive_any _).mono ?_
    rintro e w' ⟨rfl, rfl⟩
    go_wp2
    go_ret
    exact ⟨rfl, HCH.out⟩
  obtain rfl : b0 = true := by rw [← HBE.out]; exact decide_eq_true hd
  have HDV := Lib.hid hd
  have HOK := Lib.hid (show tabOk Y by rw [← HYE.out]; exact mountY_ok hd HI0.out)
  clear hd
  go_wp2_with fail
  refine (iMountTable_any _ _ _ _ _ D ⟨0, [], 0⟩ ⟨0, [], 0⟩ none none 0 0 x [] (-1) false _ HD.out (Rd.nil NoB _ _) (Nat.le_refl _) (by omega) (Rd.nil NoB _ _) (Nat.le_refl _) (by omega) newer_none).mono ?_
  rintro e w36 ⟨Az, cz, Tz, rfl, hXz, hc37, hOz⟩
  replace HCH := Lib.hid (HCH.out.trans hc37)
  replace HB_p := Lib.hid (HB_p.out.chg hc37 (fun x => x))
  replace z_p_0 := Chg.cell hc37 z_p_0 (fun x => x)
  replace z_p_1 := Chg.cell hc37 z_p_1 (fun x => x)
  replace z_p_2 := Chg.cell hc37 z_p_2 (fun x => x)
  replace HB_q := Lib.hid (HB_q.out.chg hc37 (fun x => x))
  replace z_q_0 := Chg.cell hc37 z_q_0 (fun x => x)
  replace z_q_1 := Chg.cell hc37 z_q_1 (fun x => x)
  replace z_q_2 := Chg.cell hc37 z_q_2 (fun x => x)
  replace HB_g := Lib.hid (HB_g.out.chg hc37 (fun x => x))
  replace z_g_0 := Chg.cell hc37 z_g_0 (fun x => x)
  replace HD := Lib.hid (HD.out.new hc37)
  replace HR1 := Lib.hid (HR1.out.new hc37)
  replace HR2 := Lib.hid (HR2.out.new hc37)
  replace Rg := Lib.hid (Rg.out.new hc37)
  have S38 := Lib.hid hc37.size
  obtain ⟨Z, hZ⟩ : ∃ Z, tableOf D = Z := ⟨_, rfl⟩
  have HZE := Lib.hid hZ
  have HZS := Lib.hid (show total Z ≤ 1048576 ∧ Z.length ≤ 9223372036854775807 ∧ ∀ r ∈ Z, r.length ≤ 9223372036854775807 by rw [← hZ]; exact mount_smallB D [] false x)
  rw [show mountY D [] false x = Z from hZ] at hXz ⊢
  rw [HBE.out]
  clear hZ
  have hRz := hOz.reads
  rw [hXz] at hRz
  have Rz := Lib.hid hRz
  clear hRz hOz hc37 hXz
  have zz_p_0 := Chg.cell ((Chg.refl NoB w36).alloc (.cells #[.slice Az Z.length cz] 31)) z_p_0 (fun x => x)
  have zz_p_1 := Chg.cell ((Chg.refl NoB w36).alloc (.cells #[.slice Az Z.length cz] 31)) z_p_1 (fun x => x)
  have zz_p_2 := Chg.cell ((Chg.refl NoB w36).alloc (.cells #[.slice Az Z.length cz] 31)) z_p_2 (fun x => x)
  have zz_q_0 := Chg.cell ((Chg.refl NoB w36).alloc (.cells #[.slice Az Z.length cz] 31)) z_q_0 (fun x => x)
  have zz_q_1 := Chg.cell ((Chg.refl NoB w36).alloc (.cells #[.slice Az Z.length cz] 31)) z_q_1 (fun x => x)
  have zz_q_2 := Chg.cell ((Chg.refl NoB w36).alloc (.cells #[.slice Az Z.length cz] 31)) z_q_2 (fun x => x)
  have zz_g_0 := Chg.cell ((Chg.refl NoB w36).alloc (.cells #[.slice Az Z.length cz] 31)) z_g_0 (fun x => x)
  go_wp2_with fail
  clear zz_p_0 zz_p_1 zz_p_2 zz_q_0 zz_q_1 zz_q_2 zz_g_0
  obtain ⟨w39, hw39⟩ : ∃ w39, w36.alloc (.cells #[.slice Az Z.length cz] 31) = w39 := ⟨_, rfl⟩
  try rw [hw39]
  have q40 : Chg NoB w36 w39 := by rw [← hw39]; exact (Chg.refl _ _).alloc _
  have bq40 : Blk w39 w36.heap.size 31 #[.slice Az Z.length cz] := by rw [← hw39]; exact Blk.new _ _ _
  have sq40 : w39.heap.size = w36.heap.size + 1 := by rw [← hw39]; exact World.size_alloc ..
  clear hw39
  replace HCH := Lib.hid (HCH.out.trans q40)
  replace HB_p := Lib.hid (HB_p.out.chg q40 (fun x => x))
  replace z_p_0 := Chg.cell q40 z_p_0 (fun x => x)
  replace z_p_1 := Chg.cell q40 z_p_1 (fun x => x)
  replace z_p_2 := Chg.cell q40 z_p_2 (fun x => x)
  replace HB_q := Lib.hid (HB_q.out.chg q40 (fun x => x))
  replace z_q_0 := Chg.cell q40 z_q_0 (fun x => x)
  replace z_q_1 := Chg.cell q40 z_q_1 (fun x => x)
  replace z_q_2 := Chg.cell q40 z_q_2 (fun x => x)
  replace HB_g := Lib.hid (HB_g.out.chg q40 (fun x => x))
  replace z_g_0 := Chg.cell q40 z_g_0 (fun x => x)
  replace HD := Lib.hid (HD.out.new q40)
  replace HR1 := Lib.hid (HR1.out.new q40)
  replace HR2 := Lib.hid (HR2.out.new q40)
  replace Rg := Lib.hid (Rg.out.new q40)
  replace Rz := Lib.hid (Rz.out.new q40)
  have S41 := Lib.hid q40.size
  have S42 := Lib.hid sq40
  have HB_z := Lib.hid bq40
  have z_z_0 : w39.cell? ⟨w36.heap.size, 0, none⟩ = some (.slice Az Z.length cz) := (HB_z.out.cell _).trans rfl
  clear q40 sq40 bq40
  refine wp_region_rgg [(2, true), (5, true)] (WInv := fun _ _ w5 => Chg NoB w39 w5) (R := Chg NoB) (Post := PL [fun v _ => v = .agg #[.slice Ag Y.length cg], fun v _ => v = .bool true, fun v _ => v = .bool true, fun v _ => v = .bool true, fun v _ => v = .bool true, fun v _ => v = .bool true, fun v _ => v = .agg #[.slice Az Z.length cz], fun v _ => v = .slice Ad D.length cd, fun v w => ∃ Au cu, v = .agg #[.slice Au Z.length cu] ∧ TabR (fun i => i < w.heap.size) w Au Z, fun v _ => v = .bool true, fun v _ => v = .bool true, fun v _ => v = .bool true]) (by kernel_rfl) (by kernel_rfl) (fun p hp v w h => by simp at hp; rcases hp with rfl | rfl <;> exact h) (fun _ _ _ _ h _ _ => h) (pl_stab ⟨(fun _ _ _ h _ => h), (fun _ _ _ h _ => h), (fun _ _ _ h _ => h), (fun _ _ _ h _ => h), (fun _ _ _ h _ => h), (fun _ _ _ h _ => h), (fun _ _ _ h _ => h), (fun _ _ _ h _ => h), (fun _ _ _ h hR => by obtain ⟨Au, cu, e, ht⟩ := h; exact ⟨Au, cu, e, (ht.new hR).mono (fun i _ hi => Nat.lt_of_lt_of_le hi hR.size)⟩), (fun _ _ _ h _ => h), (fun _ _ _ h _ => h), (fun _ _ _ h _ => h), trivial⟩) ((Chg.refl _ _).drew) ⟨?_, ?_, ?_, ?_, ?_, ?_, ?_, ?_, ?_, ?_, ?_, ?_, trivial⟩ ?_
  · rintro kc m a w5 hkc hch hm hn
    have e1 : a.tmps[7]?.getD undef = .pointer (some ⟨w19.heap.size, 0, none⟩) := hn.1
    have y0 := Chg.cell hch z_g_0 (fun x => x)
    exact rg_val (v := .agg #[.slice Ag Y.length cg]) (by simp [execOp, go_sem, e1, y0]) rfl hch (Chg.refl _ _) rfl
  · rintro kc m a w5 hkc hch hm hn
    obtain ⟨⟨_, e1, _, rfl⟩, -⟩ := hn
    refine rg_call (f := 17) (args := #[.agg #[.slice Ag Y.length cg]]) (by simp [go_sem, e1]) rfl ?_
    refine (iTableValid_any _ _ _ Y _ (Rg.out.new hch)).mono ?_
    rintro e w6 ⟨rb, rfl, hrb, hc6⟩
    obtain rfl : rb = true := hrb.2 HOK.out
    exact ⟨_, rfl, hch.trans hc6, hc6, rfl⟩
  · rintro kc m a w5 hkc hch hm hn
    obtain ⟨⟨_, e1, _, rfl⟩, -⟩ := hn
    exact rg_val (v := .bool true) (by simp [execOp, go_sem, e1]) rfl hch (Chg.refl _ _) rfl
  · rintro kc m a w5 hkc hch hm hn
    have e1 : a.tmps[12]?.getD undef = .bool true := hn.1
    exact rg_val (v := .bool true) (by simp [execOp, go_sem, e1]) rfl hch (Chg.refl _ _) rfl
  · rintro kc m a w5 hkc hch hm hn
    obtain ⟨⟨_, e1, _, rfl⟩, ⟨_, e2, _, rfl⟩, -⟩ := hn
    exact rg_val (v := .bool true) (by simp [execOp, go_sem, e1, e2]) rfl hch (Chg.refl _ _) rfl
  · rintro kc m a w5 hkc hch hm hn
    obtain ⟨⟨_, e1, _, rfl⟩, -⟩ := hn
    exact rg_val (v := .bool true) (by simp [execOp, go_sem, e1]) rfl hch (Chg.refl _ _) rfl
  · rintro kc m a w5 hkc hch hm hn
    have e1 : a.tmps[11]?.getD undef = .pointer (some ⟨w36.heap.size, 0, none⟩) := hn.1
    have y0 := Chg.cell hch z_z_0 (fun x => x)
    exact rg_val (v := .agg #[.slice Az Z.length cz]) (by simp [execOp, go_sem, e1, y0]) rfl hch (Chg.refl _ _) rfl
  · rintro kc m a w5 hkc hch hm hn
    have e1 : a.tmps[3]?.getD undef = .slice Ad D.length cd := hn.1
    exact rg_val (v := .slice Ad D.length cd) (by simp [execOp, go_sem, e1]) rfl hch (Chg.refl _ _) rfl
  · rintro kc m a w5 hkc hch hm hn
    obtain ⟨⟨_, e1, _, rfl⟩, -⟩ := hn
    refine rg_call (f := 18) (args := #[.slice Ad D.length cd]) (by simp [go_sem, e1]) rfl ?_
    refine (iTableOf_any _ Ad cd D _ (HD.out.new hch)).mono ?_
    rintro e w6 ⟨Au, cu, Tu, rfl, hTu, hc6, hOu⟩
    rw [HZE.out] at hTu ⊢
    exact ⟨_, rfl, hch.trans hc6, hc6, Au, cu, rfl, hTu ▸ hOu.reads.mono (fun i _ hi => hi.2)⟩
  · rintro kc m a w5 hkc hch hm hn
    obtain ⟨⟨_, e1, _, rfl⟩, ⟨_, e2, _, Au, cu, rfl, htu⟩, -⟩ := hn
    refine rg_call (f := 14) (args := #[.agg #[.slice Az Z.length cz], .agg #[.slice Au Z.length cu]]) (by simp [go_sem, e1, e2]) rfl ?_
    refine (sameTable_t _ _ _ _ _ _ Z _ (Rz.out.new hch) htu HZS.out.2.1 HZS.out.2.2).mono ?_
    rintro e w6 ⟨rfl, hc6⟩
    exact ⟨_, rfl, hch.trans hc6, hc6, rfl⟩
  · rintro kc m a w5 hkc hch hm hn
    obtain ⟨⟨_, e1, _, rfl⟩, ⟨_, e2, _, rfl⟩, -⟩ := hn
    exact rg_val (v := .bool true) (by simp [execOp, go_sem, e1, e2]) rfl hch (Chg.refl _ _) rfl
  · rintro kc m a w5 hkc hch hm hn
    obtain ⟨⟨_, e1, _, rfl⟩, -⟩ := hn
    exact rg_val (v := .bool true) (by simp [execOp, go_sem, e1]) rfl hch (Chg.refl _ _) rfl
  rintro m we hrg
  simp only [AllVals]
  rintro rv0 m0 p0 rv1 m1 p1 rv2 m2 p2 rv3 m3 p3 rv4 m4 p4 rv5 m5 p5 rv6 m6 p6 rv7 m7 p7 rv8 m8 p8 rv9 m9 p9 rv10 m10 p10 rv11 m11 p11
  obtain rfl := p11
  clear p0 p1 p2 p3 p4 p5 p6 p7 p8 p9 p10
  simp only [Act.put, List.setIfInBounds_toArray, List.set_cons_succ, List.set_cons_zero]
  replace HCH := Lib.hid (HCH.out.trans hrg)
  replace HB_p := Lib.hid (HB_p.out.chg hrg (fun x => x))
  replace z_p_0 := Chg.cell hrg z_p_0 (fun x => x)
  replace z_p_1 := Chg.cell hrg z_p_1 (fun x => x)
  replace z_p_2 := Chg.cell hrg z_p_2 (fun x => x)
  replace HB_q := Lib.hid (HB_q.out.chg hrg (fun x => x))
  replace z_q_0 := Chg.cell hrg z_q_0 (fun x => x)
  replace z_q_1 := Chg.cell hrg z_q_1 (fun x => x)
  replace z_q_2 := Chg.cell hrg z_q_2 (fun x => x)
  replace HB_g := Lib.hid (HB_g.out.chg hrg (fun x => x))
  replace z_g_0 := Chg.cell hrg z_g_0 (fun x => x)
  replace HB_z := Lib.hid (HB_z.out.chg hrg (fun x => x))
  replace z_z_0 := Chg.cell hrg z_z_0 (fun x => x)
  replace HD := Lib.hid (HD.out.new hrg)
  replace HR1 := Lib.hid (HR1.out.new hrg)
  replace HR2 := Lib.hid (HR2.out.new hrg)
  replace Rg := Lib.hid (Rg.out.new hrg)
  replace Rz := Lib.hid (Rz.out.new hrg)
  have S43 := Lib.hid hrg.size
  go_wp2
  go_ret
  exact ⟨rfl, HCH.out⟩
end Go.Proofs.Ytpiojofmflfkkaa
