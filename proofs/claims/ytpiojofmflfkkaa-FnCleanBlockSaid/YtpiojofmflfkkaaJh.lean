/- Parts of the proof, merged: Ca, Cb, Cc, Cf, Cd, Ce, Ck, Cs, Cl, Cm, Cq. -/
import Derived.Test.YtpiojofmflfkkaaJc
import Derived.Test.YtpiojofmflfkkaaJe
import Derived.Test.YtpiojofmflfkkaaJb
import Derived.Test.YtpiojofmflfkkaaJa
import Derived.Shelf.Sort.Plain
import Derived.Shelf.Slices.In.SortNone
import Derived.Sort.OwnSortedInts
/- CleanBlock by steps, the plain law: what holds behind each step. No program is named here. -/
namespace Go.Proofs.Ytpiojofmflfkkaa
open Go.RowKit
/-- The page that a table has for a place is a written one of that file and place. -/
def refOk (D : List Bk) (X : List (List Int)) (f p : Nat) : Prop := 0 ≤ tget X f p → tget X f p < 4 * (D.length : Int) ∧ (pgAt D (tget X f p).toNat).full = true ∧ (pgAt D (tget X f p).toNat).file = (f : Int) ∧ (pgAt D (tget X f p).toNat).place = (p : Int)
instance (D : List Bk) (X : List (List Int)) (f p : Nat) : Decidable (refOk D X f p) := by unfold refOk; infer_instance
def fileOk (D : List Bk) (X : List (List Int)) (f : Nat) : Prop := ∀ p, p < 6 → refOk D X f p
instance (D : List Bk) (X : List (List Int)) (f : Nat) : Decidable (fileOk D X f) := by unfold fileOk; infer_instance
def fits (D : List Bk) (X : List (List Int)) : Prop := ∀ f, f < 8 → fileOk D X f
instance (D : List Bk) (X : List (List Int)) : Decidable (fits D X) := by unfold fits; infer_instance
/-- One more than the greatest place below k with a page. -/
def fsz (X : List (List Int)) (f : Nat) : Nat → Nat
  | 0 => 0
  | k + 1 => if 0 ≤ tget X f k then k + 1 else fsz X f k
theorem fsz_le (X : List (List Int)) (f : Nat) : ∀ k, fsz X f k ≤ k
  | 0 => Nat.le_refl 0
  | k + 1 => by
    have := fsz_le X f k
    unfold fsz
    split <;> omega
theorem fsz_hit {X : List (List Int)} {f k : Nat} (h : 0 ≤ tget X f k) : fsz X f (k + 1) = k + 1 := if_pos h
theorem fsz_miss {X : List (List Int)} {f k : Nat} (h : ¬ 0 ≤ tget X f k) : fsz X f (k + 1) = fsz X f k := if_neg h
theorem fsz_above {X : List (List Int)} {f : Nat} : ∀ n p, p < n → fsz X f n ≤ p → tget X f p < 0
  | 0, p, h, _ => absurd h (Nat.not_lt_zero p)
  | n + 1, p, h, h2 => by
    by_cases h0 : 0 ≤ tget X f n
    · rw [fsz_hit h0] at h2; omega
    · rw [fsz_miss h0] at h2
      by_cases he : p = n
      · subst he; omega
      · exact fsz_above n p (by omega) h2
theorem fileOk_size {D : List Bk} {X : List (List Int)} {f : Nat} (h : ∀ p, p < fsz X f 6 → refOk D X f p) : fileOk D X f := fun p hp => by
  by_cases h1 : p < fsz X f 6
  · exact h p h1
  · intro h0
    have := fsz_above (X := X) (f := f) 6 p hp (Nat.le_of_not_lt h1)
    omega
def fval (D : List Bk) (X : List (List Int)) (f p : Nat) : Int := if tget X f p < 0 then 0 else (pgAt D (tget X f p).toNat).value
def fileVals (D : List Bk) (X : List (List Int)) (f : Nat) : List Int := (List.range (fsz X f 6)).map (fval D X f)
/-- The table with another page at one place. -/
def tput (X : List (List Int)) (f p : Nat) (v : Int) : List (List Int) := tabF (upd2 (tget X) f p v)
theorem tget_tput (X : List (List Int)) {f p f' p' : Nat} (v : Int) (hf : f' < 8) (hp : p' < 6) : tget (tput X f p v) f' p' = if f' = f ∧ p' = p then v else tget X f' p' := by
  unfold tput
  rw [tget_tabF _ hf hp]
  rfl
theorem tput_ok {X : List (List Int)} (h : tabOk X) {f p : Nat} {v : Int} (hv : -1 ≤ v ∧ v ≤ 47) (hn : ∀ f' p', f' < 8 → p' < 6 → 0 ≤ v → tget X f' p' = v → f' = f ∧ p' = p) : tabOk (tput X f p v) := by
  have hg := good_of h
  refine tabOk_of ⟨fun f' p' h1 h2 => ?_, fun a b c d h1 h2 h3 h4 h0 he => ?_⟩
  · unfold upd2
    split
    · exact hv
    · exact hg.1 f' p' h1 h2
  · unfold upd2 at h0 he
    by_cases h5 : a = f ∧ b = p
    · rw [if_pos h5] at h0 he
      by_cases h6 : c = f ∧ d = p
      · omega
      · rw [if_neg h6] at he
        have := hn c d h3 h4 h0 he.symm
        omega
    · rw [if_neg h5] at h0 he
      by_cases h6 : c = f ∧ d = p
      · rw [if_pos h6] at he
        have := hn a b h1 h2 (by omega) he
        omega
      · rw [if_neg h6] at he
        exact hg.2 a b c d h1 h2 h3 h4 h0 he
/-- What AppendPage leaves when it could write. -/
theorem app_yes {D : List Bk} {h : Hd} {n : Nat} {p : Pg} (hh : HeadsOk D h) (hn : n < 3) (hp : PgOk p) (hf : p.full = true) (hz : ¬ (appendPage D h (n : Int) p).2.2 < 0) :
    ∃ k : Nat, ∃ hk : k < D.length, lead D[k].pages < 4 ∧ appendPage D h (n : Int) p = (D.set k ⟨D[k].wear, D[k].pages.set (lead D[k].pages) p⟩, h.put (n : Int) k, 4 * (k : Int) + (lead D[k].pages : Int)) ∧ ((k : Int) = h.get (n : Int) ∨ lead D[k].pages = 0 ∧ ¬ isHead h (k : Int)) := by
  by_cases hx : 0 ≤ h.get (n : Int) ∧ lead (D.getD (h.get (n : Int)).toNat zBk).pages < 4
  · obtain ⟨y, e⟩ := Int.eq_ofNat_of_zero_le hx.1
    have hk : y < D.length := by have := (hh.get n).2; omega
    have hl := hx.2
    rw [e, Int.toNat_natCast, getD_get _ _ hk] at hl
    have hput : h.put (n : Int) (y : Int) = h := by
      obtain ⟨a, b, c⟩ := h
      unfold Hd.get at e
      unfold Hd.put
      simp only at *
      split
      · rename_i h0; rw [if_pos h0] at e; rw [e]
      · rename_i h0
        rw [if_neg h0] at e
        split
        · rename_i h1; rw [if_pos h1] at e; rw [e]
        · rename_i h1; rw [if_neg h1] at e; rw [e]
    rw [appendPage_head hh hn hp hf e hk hl, program_lead hh.1 hk hp hf hl]
    exact ⟨y, hk, hl, by rw [hput], .inl e.symm⟩
  · by_cases hl : fresh D h < 0
    · rw [appendPage_none hh hn hp hf hx hl] at hz
      simp at hz
    · obtain ⟨y, e⟩ := Int.eq_ofNat_of_zero_le (show 0 ≤ fresh D h by omega)
      have hk : y < D.length := by have := (fresh_range (D := D) (h := h)).2; omega
      have hnh := fresh_not (D := D) (h := h) (by omega)
      rw [e] at hnh
      have hl0 : lead D[y].pages = 0 := by
        unfold fresh at hl e
        rw [if_pos hh] at hl e
        have := bestTo_good (freshGood D h) (wearAt D) D.length (by omega)
        rw [e, Int.toNat_natCast] at this
        unfold freshGood at this
        rw [getD_get _ _ hk] at this
        simp only [Bool.and_eq_true, decide_eq_true_eq] at this
        exact this.1
      have hl4 : lead D[y].pages < 4 := by omega
      rw [appendPage_fresh hh hn hp hf hx e, program_lead hh.1 hk hp hf hl4]
      exact ⟨y, hk, hl4, rfl, .inr ⟨hl0, hnh⟩⟩
/-- What holds of a device, a table and heads on the way. -/
structure CbI (L : Nat) (D : List Bk) (X : List (List Int)) (h : Hd) : Prop where
  ok : HeadsOk D h
  len : D.length = L
  tab : tabOk X
  fit : fits D X
theorem CbI.step {L : Nat} {D : List Bk} {X : List (List Int)} {h : Hd} (hi : CbI L D X h) {p : Pg} (hp : PgOk p) (hf : p.full = true) (hz : ¬ (appendPage D h ((2 : Nat) : Int) p).2.2 < 0) :
    CbI L (appendPage D h ((2 : Nat) : Int) p).1 (tput X p.file.toNat p.place.toNat (appendPage D h ((2 : Nat) : Int) p).2.2) (appendPage D h ((2 : Nat) : Int) p).2.1 ∧ (appendPage D h ((2 : Nat) : Int) p).2.2 ≤ 47 ∧
      (∀ f' p', f' < 8 → p' < 6 → tget X f' p' ≠ (appendPage D h ((2 : Nat) : Int) p).2.2) := by
  have hok := (HeadsOk.append (n := 2) hi.ok (by omega) hp hf).1
  have hln := (HeadsOk.append (n := 2) hi.ok (by omega) hp hf).2
  obtain ⟨k, hk, hl, e, -⟩ := app_yes hi.ok (by omega) hp hf hz
  have hle := pgAt_lead hi.ok.1 hk hl
  have hwr := pgAt_write (p := p) hi.ok.1 hk hl
  have h12 := hi.ok.1.1.2
  have hpl := (pgOk_yes hf).1 hp
  rw [e] at hok hln ⊢
  simp only at hok hln ⊢
  have hv : 4 * (k : Int) + (lead D[k].pages : Int) = ((4 * k + lead D[k].pages : Nat) : Int) := by omega
  have hne : ∀ f' p', f' < 8 → p' < 6 → tget X f' p' ≠ 4 * (k : Int) + (lead D[k].pages : Int) := by
    intro f' p' h1 h2 he
    have := (hi.fit f' h1 p' h2 (by omega)).2.1
    rw [he, hv, Int.toNat_natCast, hle] at this
    cases this
  refine ⟨⟨hok, by rw [hln, hi.len], tput_ok hi.tab (by omega) (fun f' p' h1 h2 _ he => (hne f' p' h1 h2 he).elim), fun f' h1 p' h2 h0 => ?_⟩, by omega, hne⟩
  rw [tget_tput X _ h1 h2] at h0 ⊢
  rw [hln]
  by_cases hc : f' = p.file.toNat ∧ p' = p.place.toNat
  · rw [if_pos hc, hv, Int.toNat_natCast, hwr _ (by omega), if_pos rfl]
    exact ⟨by omega, hf, by omega, by omega⟩
  · rw [if_neg hc] at h0 ⊢
    obtain ⟨a, b, c, d⟩ := hi.fit f' h1 p' h2 h0
    have hx : (tget X f' p').toNat < 4 * D.length := by omega
    rw [hwr _ hx, if_neg (fun he => hne f' p' h1 h2 (by omega))]
    exact ⟨a, b, c, d⟩
/-- Page k of block n is one that the table names. -/
def hitAt (D : List Bk) (X : List (List Int)) (n k : Nat) : Prop := (pgAt D (4 * n + k)).full = true ∧ tget X (pgAt D (4 * n + k)).file.toNat (pgAt D (4 * n + k)).place.toNat = 4 * (n : Int) + (k : Int)
instance (D : List Bk) (X : List (List Int)) (n k : Nat) : Decidable (hitAt D X n k) := by unfold hitAt; infer_instance
def stamped (p : Pg) (s : Int) : Pg := ⟨p.full, p.file, p.place, p.value, s⟩
/-- The pages of block n, from page k on, r of them. -/
def cbRun (D : List Bk) (X : List (List Int)) (n : Nat) (s : Int) : Nat → Nat → List Bk → List (List Int) → Hd → Nat → Option (List Bk × List (List Int) × Hd × Nat)
  | 0, _, E, Y, h, m => some (E, Y, h, m)
  | r + 1, k, E, Y, h, m =>
    if hitAt D X n k then
      (if 1000000 < s + (m : Int) then none
       else if (appendPage E h ((2 : Nat) : Int) (stamped (pgAt D (4 * n + k)) (s + (m : Int)))).2.2 < 0 then none
       else cbRun D X n s r (k + 1) (appendPage E h ((2 : Nat) : Int) (stamped (pgAt D (4 * n + k)) (s + (m : Int)))).1 (tput Y (pgAt D (4 * n + k)).file.toNat (pgAt D (4 * n + k)).place.toNat (appendPage E h ((2 : Nat) : Int) (stamped (pgAt D (4 * n + k)) (s + (m : Int)))).2.2) (appendPage E h ((2 : Nat) : Int) (stamped (pgAt D (4 * n + k)) (s + (m : Int)))).2.1 (m + 1))
    else cbRun D X n s r (k + 1) E Y h m
def cbOk (D : List Bk) (X : List (List Int)) (h : Hd) (n s : Int) : Prop := HeadsOk D h ∧ tabOk X ∧ (0 ≤ n ∧ n < (D.length : Int)) ∧ (1 ≤ s ∧ s ≤ 1000000) ∧ fits D X
instance (D : List Bk) (X : List (List Int)) (h : Hd) (n s : Int) : Decidable (cbOk D X h n s) := by unfold cbOk; infer_instance
structure CbR where
  dev : List Bk
  tab : List (List Int)
  hd : Hd
  many : Int
  ok : Bool
def cbEnd (D : List Bk) (X : List (List Int)) (h : Hd) (n : Nat) : Option (List Bk × List (List Int) × Hd × Nat) → CbR
  | none => ⟨D, X, h, 0, false⟩
  | some (E, Y, z, m) => if (eraseAt E (n : Int)).2 = true then ⟨(eraseAt E (n : Int)).1, Y, z, (m : Int), true⟩ else ⟨D, X, h, 0, false⟩
def cleanBlock (D : List Bk) (X : List (List Int)) (h : Hd) (n s : Int) : CbR :=
  if cbOk D X h n s then (if isHead h n then ⟨D, X, h, 0, false⟩ else cbEnd D X h n.toNat (cbRun D X n.toNat s 4 0 D X h 0)) else ⟨[], [], ⟨0, 0, 0⟩, 0, false⟩
theorem cbRun_end {D : List Bk} {X : List (List Int)} {n k : Nat} {s : Int} {E : List Bk} {Y : List (List Int)} {h : Hd} {m : Nat} : cbRun D X n s 0 k E Y h m = some (E, Y, h, m) := rfl
theorem cbRun_skip {D : List Bk} {X : List (List Int)} {n r k : Nat} {s : Int} {E : List Bk} {Y : List (List Int)} {h : Hd} {m : Nat} (hh : ¬ hitAt D X n k) : cbRun D X n s (r + 1) k E Y h m = cbRun D X n s r (k + 1) E Y h m := if_neg hh
theorem cbRun_big {D : List Bk} {X : List (List Int)} {n r k : Nat} {s : Int} {E : List Bk} {Y : List (List Int)} {h : Hd} {m : Nat} (hh : hitAt D X n k) (hs : 1000000 < s + (m : Int)) : cbRun D X n s (r + 1) k E Y h m = none := by
  unfold cbRun; rw [if_pos hh, if_pos hs]
theorem cbRun_stop {D : List Bk} {X : List (List Int)} {n r k : Nat} {s : Int} {E : List Bk} {Y : List (List Int)} {h : Hd} {m : Nat} (hh : hitAt D X n k) (hz : (appendPage E h ((2 : Nat) : Int) (stamped (pgAt D (4 * n + k)) (s + (m : Int)))).2.2 < 0) : cbRun D X n s (r + 1) k E Y h m = none := by
  unfold cbRun; rw [if_pos hh]; split
  · rfl
  · first | rfl | rw [if_pos hz]
theorem cbRun_step {D : List Bk} {X : List (List Int)} {n r k : Nat} {s : Int} {E : List Bk} {Y : List (List Int)} {h : Hd} {m : Nat} (hh : hitAt D X n k) (hs : ¬ 1000000 < s + (m : Int)) (hz : ¬ (appendPage E h ((2 : Nat) : Int) (stamped (pgAt D (4 * n + k)) (s + (m : Int)))).2.2 < 0) :
    cbRun D X n s (r + 1) k E Y h m = cbRun D X n s r (k + 1) (appendPage E h ((2 : Nat) : Int) (stamped (pgAt D (4 * n + k)) (s + (m : Int)))).1 (tput Y (pgAt D (4 * n + k)).file.toNat (pgAt D (4 * n + k)).place.toNat (appendPage E h ((2 : Nat) : Int) (stamped (pgAt D (4 * n + k)) (s + (m : Int)))).2.2) (appendPage E h ((2 : Nat) : Int) (stamped (pgAt D (4 * n + k)) (s + (m : Int)))).2.1 (m + 1) := by
  rw [cbRun, if_pos hh, if_neg hs, if_neg hz]
theorem stamped_ok {D : List Bk} (hd : DvOk D) {x : Nat} (hx : x < 4 * D.length) (hf : (pgAt D x).full = true) {s : Int} (h1 : 1 ≤ s) (h2 : ¬ 1000000 < s) : PgOk (stamped (pgAt D x) s) ∧ (stamped (pgAt D x) s).full = true := by
  have hp := (pgOk_yes hf).1 (pgAt_ok hd hx)
  refine ⟨(pgOk_yes (p := stamped (pgAt D x) s) hf).2 ?_, hf⟩
  unfold stamped
  simp only
  omega
end Go.Proofs.Ytpiojofmflfkkaa
/- FileSize, FileValues, tableFits of the program, on a device and a table that are valid. -/
namespace Go.Proofs.Ytpiojofmflfkkaa
open Go.RowKit
theorem fileVals_len (D : List Bk) (X : List (List Int)) (f : Nat) : (fileVals D X f).length = fsz X f 6 := by simp [fileVals]
theorem fileVals_get (D : List Bk) (X : List (List Int)) (f : Nat) {k : Nat} (h : k < (fileVals D X f).length) : (fileVals D X f)[k] = fval D X f k := by simp [fileVals]
/-- Where a row of a table lies. -/
theorem tab_row {F : Nat → Prop} {w : World} {A : Option Addr} {X : List (List Int)} (h : TabR F w A X) (hX : tabOk X) {f : Nat} (hf : f < 8) :
    ∃ (ad B : Addr) (c : Nat), A = some ad ∧ w.cell? (ad.add f) = some (.slice (some B) 6 c) ∧ ∀ p, p < 6 → w.cell? (B.add p) = some (.int .i64 (tget X f p)) := by
  have hfl : f < X.length := by rw [hX.1]; exact hf
  have h6 : X[f].length = 6 := (hX.2 f hfl).1
  obtain ⟨ad, B, c', rfl, hF, hcell, hrd, -⟩ := h f hfl
  obtain ⟨ad2, rfl, -, -, -⟩ := ints_at hrd (k := 0) (by omega)
  rw [h6] at hcell
  refine ⟨ad, ad2, c', rfl, hcell, fun p hp => ?_⟩
  obtain ⟨ad3, e, -, -, hc⟩ := ints_at hrd (k := p) (by omega)
  injection e with e
  subst e
  obtain ⟨h1, h2, h3⟩ := tget_get hX hf hp
  rw [hc, h3]
set_option maxRecDepth 100000 in
set_option maxHeartbeats 2000000 in
theorem iFileSize_any (F : Nat → Prop) (A : Option Addr) (c : Nat) (X : List (List Int)) (w : World) (h : TabR F w A X) (hX : tabOk X) (f : Nat) (hf : f < 8) :
    Calls Try.prog 100 #[.agg #[.slice A X.length c], .int .i64 f] w fun e w' => e = .returned (.int .i64 (fsz X f 6 : Nat)) ∧ Chg NoB w w' := by
  have hca := (Chg.refl NoB w).alloc (.cells #[.slice A X.length c] 31)
  have HB := Lib.hid (Blk.new w 31 #[.slice A X.length c])
  have HT := Lib.hid (h.lt.new hca)
  have HC := Lib.hid hca
  have HX := Lib.hid hX
  have HL8 := Lib.hid hX.1
  have i0 : (0 : Int) ≤ (f : Int) := Int.natCast_nonneg _
  have i1 : (f : Int) < 8 := by omega
  have i2 : ¬ ((f : Int) < 0) := by omega
  have i3 : ¬ ((8 : Int) ≤ (f : Int)) := by omega
  have HF := Lib.hid hf
  clear h hca hX hf
  go_enter Try.func100, Try.ntmps100
  go_wp2_with fail
  refine (iTableValid_any _ A c X _ HT.out).mono ?_
  rintro e w1 ⟨r, rfl, hr, hc1⟩
  obtain rfl : r = true := hr.2 HX.out
  have hb1 := HB.out.chg hc1 (fun x => x)
  have x0 : w1.cell? ⟨w.heap.size, 0, none⟩ = some (.slice A X.length c) := (hb1.cell _).trans rfl
  obtain ⟨ad, B, c', rfl, hcell, hrows⟩ := tab_row (HT.out.new hc1) HX.out HF.out
  have HROW := Lib.hid hrows
  have HC1 := Lib.hid (HC.out.trans hc1)
  rw [HL8.out] at x0 ⊢
  clear hr hb1 hc1 hrows
  go_wp2
  go_loopw [5, 25] (fun s i wr => ∃ k : Nat, k ≤ 6 ∧ i = .int .i64 k ∧ s = .int .i64 (fsz X f k : Nat) ∧ Chg NoB w1 wr) (fun _ i _ => 6 - (intOf i).toNat)
  case atStart => exact ⟨0, Nat.zero_le _, rfl, rfl, Chg.refl _ _⟩
  case round =>
    obtain ⟨k, hk, rfl, rfl, hch⟩ := hrel
    have HH := Lib.hid hch
    by_cases hlt : k < 6
    · have ck := hch.cell (HROW.out k hlt) (fun x => x)
      have HHIT := Lib.hid (fun hh => fsz_hit (X := X) (f := f) (k := k) hh)
      have HMISS := Lib.hid (fun hh => fsz_miss (X := X) (f := f) (k := k) hh)
      have k0 : (0 : Int) ≤ (k : Int) := Int.natCast_nonneg _
      have k1 : (k : Int) < 6 := by omega
      generalize tget X f k = x at ck HHIT HMISS
      clear hch
      by_cases hx : 0 ≤ x
      · have HS := Lib.hid (HHIT.out hx)
        go_wp2
        go_roundw
        case rel => exact ⟨k + 1, by omega, by go_num, by rw [HS.out]; go_num, HH.out⟩
        case measure => simp [intOf]; omega
      · have HS := Lib.hid (HMISS.out hx)
        go_wp2
        go_roundw
        case rel => exact ⟨k + 1, by omega, by go_num, by rw [HS.out], HH.out⟩
        case measure => simp [intOf]; omega
    · obtain rfl : k = 6 := by omega
      clear hch
      go_wp2
      go_ret
      exact ⟨rfl, HC1.out.trans HH.out⟩
/-- What FileValues gives. -/
def FvP (w : World) (D : List Bk) (X : List (List Int)) (f : Nat) (e : Ending) (w' : World) : Prop :=
  ∃ (A : Option Addr) (c : Nat) (xs : List Int), e = .returned (.tuple #[.slice A xs.length c, .bool (decide (fileOk D X f))]) ∧ (fileOk D X f → xs = fileVals D X f) ∧ Rd (fun _ => True) w' A (icells xs) ∧ xs.length ≤ 6 ∧ Chg NoB w w'
theorem FvP.no {w w' : World} {D : List Bk} {X : List (List Int)} {f : Nat} {A : Option Addr} {c : Nat} (h : ¬ fileOk D X f) (hc : Chg NoB w w') : FvP w D X f (.returned (.tuple #[.slice A 0 c, .bool false])) w' :=
  ⟨A, c, [], by rw [decide_eq_false h]; rfl, fun hh => absurd hh h, fun k v hk => by simp [icells] at hk, Nat.zero_le _, hc⟩
theorem refOk_read {D : List Bk} {X : List (List Int)} {f p : Nat} (hd : DvOk D) (h0 : 0 ≤ tget X f p) : refOk D X f p ↔ ((readPage D (tget X f p)).full = true ∧ (readPage D (tget X f p)).file = (f : Int) ∧ (readPage D (tget X f p)).place = (p : Int)) := by
  unfold refOk readPage
  by_cases h1 : tget X f p < 4 * (D.length : Int)
  · rw [if_pos ⟨hd, h0, h1⟩]
    exact ⟨fun h => ⟨(h h0).2.1, (h h0).2.2⟩, fun h _ => ⟨h1, h⟩⟩
  · rw [if_neg (fun hh => h1 hh.2.2)]
    exact ⟨fun h => absurd (h h0).1 h1, fun h => by cases h.1⟩
theorem readPage_at {D : List Bk} {X : List (List Int)} {f p : Nat} (hd : DvOk D) (h0 : 0 ≤ tget X f p) (h1 : tget X f p < 4 * (D.length : Int)) : readPage D (tget X f p) = pgAt D (tget X f p).toNat := if_pos ⟨hd, h0, h1⟩
theorem fv_next {D : List Bk} {X : List (List Int)} {f n k : Nat} (hn : (fileVals D X f).length = n) (hk : k < n) {v : Int} (hv : fval D X f k = v) : icells ((fileVals D X f).take (k + 1)) ++ reps (n - (k + 1)) [Value.int .i64 0] = icells ((fileVals D X f).take k) ++ Value.int .i64 v :: reps (n - (k + 1)) [Value.int .i64 0] := by
  rw [icells_take_succ _ k (by omega), fileVals_get, hv, List.append_assoc]
  rfl
theorem fv_room {n k : Nat} (hk : k < n) : reps (n - k) [Value.int .i64 0] = Value.int .i64 0 :: reps (n - (k + 1)) [Value.int .i64 0] := by
  rw [show n - k = n - (k + 1) + 1 by omega, reps_succ]
  rfl
theorem fv_take {D : List Bk} {X : List (List Int)} {f n k : Nat} (hn : (fileVals D X f).length = n) (hk : k < n) : (icells ((fileVals D X f).take k)).length = k := by
  rw [icells_length, List.length_take]; omega
theorem refOk_neg {D : List Bk} {X : List (List Int)} {f p : Nat} (h : tget X f p < 0) : refOk D X f p := fun h0 => by omega
theorem fval_neg {D : List Bk} {X : List (List Int)} {f p : Nat} (h : tget X f p < 0) : fval D X f p = 0 := if_pos h
theorem fval_read {D : List Bk} {X : List (List Int)} {f p : Nat} (hd : DvOk D) (h0 : ¬ tget X f p < 0) (hr : refOk D X f p) : fval D X f p = (readPage D (tget X f p)).value := by
  unfold fval
  rw [if_neg h0, readPage_at hd (by omega) (hr (by omega)).1]
theorem succ_below {P : Nat → Prop} {k : Nat} (h : ∀ p, p < k → P p) (h1 : P k) : ∀ p, p < k + 1 → P p := fun p hp => by
  by_cases he : p = k
  · subst he; exact h1
  · exact h p (by omega)
set_option maxRecDepth 100000 in
set_option maxHeartbeats 2000000 in
theorem iFileValues_any (F G : Nat → Prop) (A0 : Option Addr) (c0 : Nat) (D : List Bk) (A : Option Addr) (c : Nat) (X : List (List Int)) (w : World) (hr : DevR F w A0 D) (hd : DvOk D) (h : TabR G w A X) (hX : tabOk X) (f : Nat) (hf : f < 8) :
    Calls Try.prog 35 #[.slice A0 D.length c0, .agg #[.slice A X.length c], .int .i64 f] w (FvP w D X f) := by
  obtain ⟨j0, hj, hy0, hy1, hy2⟩ := info_parts info_int
  have hca := (Chg.refl NoB w).alloc (.cells #[.slice A X.length c] 31)
  have HB := Lib.hid (Blk.new w 31 #[.slice A X.length c])
  have HT0 := Lib.hid h.lt
  have HR0 := Lib.hid hr.lt
  have HC := Lib.hid hca
  have HX := Lib.hid hX
  have HD := Lib.hid hd
  have HL8 := Lib.hid hX.1
  have i0 : (0 : Int) ≤ (f : Int) := Int.natCast_nonneg _
  have i1 : (f : Int) < 8 := by omega
  have HF := Lib.hid hf
  obtain ⟨n, hn⟩ : ∃ n, fsz X f 6 = n := ⟨_, rfl⟩
  have HN := Lib.hid hn
  have hn6 : n ≤ 6 := by rw [← hn]; exact fsz_le X f 6
  have HREF := Lib.hid (fun (hh : ∀ p, p < n → refOk D X f p) => fileOk_size (D := D) (X := X) (f := f) (by rw [hn]; exact hh))
  have HVL := Lib.hid (show (fileVals D X f).length = n by rw [fileVals_len, hn])
  have HBAD := Lib.hid (show ∀ wq, Chg NoB w wq → (∃ p, p < 6 ∧ ¬ refOk D X f p) → FvP w D X f (.returned (.tuple #[.slice none 0 0, .bool false])) wq from fun wq h1 h2 => FvP.no (fun hh => by obtain ⟨p, hp, hq⟩ := h2; exact hq (hh p hp)) h1)
  have hmk : ∀ W, (Instr.makeSlice 24 (.int .i64 (n : Int)) (.int .i64 (n : Int))).run Try.prog W = .ok (.slice (some ⟨W.heap.size, 0, none⟩) n n) (W.alloc (.cells (reps n [.int .i64 0]).toArray 3)) :=
    fun W => run_make_reps (P := Try.prog) 24 3 j0 (.int .i64 0) [.int .i64 0] Try.underlying24 hj hy0 rfl hy1 n (by rw [hy2]; omega) (by omega) W
  have n0 : ¬ ((n : Int) < 0) := by omega
  clear h hca hX hd hf hr hn
  go_enter Try.func35, Try.ntmps35
  go_wp2_with fail
  refine (iFileSize_any _ A c X _ (HT0.out.new HC.out) HX.out f HF.out).mono ?_
  rintro e w1 ⟨rfl, hc1⟩
  rw [HN.out]
  have HB1 := Lib.hid (HB.out.chg hc1 (fun x => x))
  have HC1 := Lib.hid (HC.out.trans hc1)
  clear hc1
  go_wp2_with fail
  refine (iDeviceValid_t _ A0 c0 D _ (HR0.out.new HC1.out) HD.out).mono ?_
  rintro e w2 ⟨rfl, hc2⟩
  have hcb := (Chg.refl NoB w2).alloc (.cells (reps n [.int .i64 0]).toArray 3)
  have HV0 := Lib.hid (Blk.new w2 3 (reps n [.int .i64 0]).toArray)
  have HB3 := Lib.hid ((HB1.out.chg hc2 (fun x => x)).chg hcb (fun x => x))
  have HC3 := Lib.hid ((HC1.out.trans hc2).trans hcb)
  have HSV := Lib.hid (show w.heap.size < w2.heap.size from (HB1.out.chg hc2 (fun x => x)).lt)
  clear hc2 hcb
  go_wp2
  obtain ⟨V, hV⟩ : ∃ V, w2.heap.size = V := ⟨_, rfl⟩
  have hsv := HSV.out
  rw [hV] at HV0 hsv ⊢
  replace HSV := Lib.hid hsv
  clear hV hsv
  go_loopw [27] (fun i wr => ∃ k : Nat, k ≤ n ∧ i = .int .i64 k ∧ Chg NoB w wr ∧ Blk wr w.heap.size 31 #[.slice A X.length c] ∧ Blk wr V 3 (icells ((fileVals D X f).take k) ++ reps (n - k) [.int .i64 0]).toArray ∧ Hid (∀ p, p < k → refOk D X f p)) (fun i _ => n - (intOf i).toNat)
  case atStart => exact ⟨0, Nat.zero_le _, rfl, HC3.out, HB3.out, HV0.out, Lib.hid fun p hp => absurd hp (Nat.not_lt_zero p)⟩
  case round =>
    obtain ⟨k, hk, rfl, hch, hbt, hbv, hrf⟩ := hrel
    have HCH := Lib.hid hch
    have HBT := Lib.hid hbt
    have HBV := Lib.hid hbv
    have k0 : (0 : Int) ≤ (k : Int) := Int.natCast_nonneg _
    by_cases hlt : k < n
    · obtain ⟨ad, B, c', rfl, hcell, hrows⟩ := tab_row (HT0.out.new hch) HX.out HF.out
      have ck := hrows k (by omega)
      have x0 : wr.cell? ⟨w.heap.size, 0, none⟩ = some (.slice (some ad) 8 c) := by rw [← HL8.out]; exact (hbt.cell _).trans rfl
      have k1 : (k : Int) < 6 := by omega
      have k2 : (k : Int) < (n : Int) := by omega
      have HNEG := Lib.hid (fun hh => (⟨refOk_neg (D := D) (X := X) (f := f) (p := k) hh, fval_neg (D := D) hh⟩ : refOk D X f k ∧ fval D X f k = 0))
      have HPOS := Lib.hid (fun hh => refOk_read (D := D) (X := X) (f := f) (p := k) HD.out hh)
      have HVAL := Lib.hid (fun hh hq => fval_read (D := D) (X := X) (f := f) (p := k) HD.out hh hq)
      have HNX := Lib.hid (fun (v : Int) hv => fv_next (D := D) (X := X) (f := f) (v := v) HVL.out hlt hv)
      have HRO := Lib.hid (fv_room hlt)
      have HTK := Lib.hid (fv_take HVL.out hlt)
      generalize tget X f k = x at ck HNEG HPOS HVAL
      by_cases hx : x < 0
      · have HZ := Lib.hid (HNEG.out hx)
        clear hch hbt hbv hrows
        go_wp2_with fail
        go_roundw
        case rel =>
          refine ⟨k + 1, by omega, by go_num, HCH.out, HBT.out, ?_, Lib.hid (succ_below hrf.out HZ.out.1)⟩
          rw [HNX.out 0 HZ.out.2, ← HRO.out]
          exact HBV.out
        case measure => simp [intOf]; omega
      · have hx0 : 0 ≤ x := Int.not_lt.1 hx
        clear hch hbt hbv hrows
        go_wp2_with fail
        refine (iReadPage_any _ A0 c0 D x _ (HR0.out.new HCH.out)).mono ?_
        rintro e w4 ⟨rfl, hc4⟩
        have HPX := Lib.hid (HPOS.out hx0)
        have HVX := Lib.hid (HVAL.out hx)
        obtain ⟨⟨b, pf, pp, pv, ps⟩, hP⟩ : ∃ P, readPage D x = P := ⟨_, rfl⟩
        rw [hP] at HPX HVX ⊢
        have hca := (Chg.refl NoB w4).alloc (.cells #[.bool b, .int .i64 pf, .int .i64 pp, .int .i64 pv, .int .i64 ps] 80)
        have hpg := Blk.new w4 80 #[.bool b, .int .i64 pf, .int .i64 pp, .int .i64 pv, .int .i64 ps]
        have y1 := hpg.cell 1
        have y2 := hpg.cell 2
        have y3 := hpg.cell 3
        replace y1 := y1.trans (show _ = some (Value.int .i64 pf) from rfl)
        replace y2 := y2.trans (show _ = some (Value.int .i64 pp) from rfl)
        replace y3 := y3.trans (show _ = some (Value.int .i64 pv) from rfl)
        have HC5 := Lib.hid ((HCH.out.trans hc4).trans hca)
        have HBT5 := Lib.hid ((HBT.out.chg hc4 (fun x => x)).chg hca (fun x => x))
        have hbv5 := (HBV.out.chg hc4 (fun x => x)).chg hca (fun x => x)
        rw [HRO.out] at hbv5
        have hroom := hbv5.room HTK.out
        have hfr := hbv5.frozen k
        have HBV5 := Lib.hid (hbv5.fill1 HTK.out (.int .i64 pv))
        have HST := Lib.hid (show Chg (· = V) (w4.alloc (.cells #[.bool b, .int .i64 pf, .int .i64 pp, .int .i64 pv, .int .i64 ps] 80)) ((w4.alloc (.cells #[.bool b, .int .i64 pf, .int .i64 pp, .int .i64 pv, .int .i64 ps] 80)).setCell ⟨V, k, none⟩ (.int .i64 pv)) from (Chg.refl (· = V) _).setCell (p := ⟨V, k, none⟩) (.inl rfl) _)
        clear hpg hca hbv5 hc4 hP HNEG HPOS HVAL ck hcell
        cases b
        case false =>
          have HNO := Lib.hid (show ¬ refOk D X f k from fun hh => by have := (HPX.out.1 hh).1; cases this)
          go_wp2_with fail
          (try simp only [Exit.inBlock, Exit.then])
          refine bodyPost_ret (v := .tuple #[.slice none 0 0, .bool false]) (by simp [results, Try.results35, go_sem, *]) rfl ?_
          exact HBAD.out _ HC5.out ⟨k, by omega, HNO.out⟩
        case true =>
          by_cases hpf : pf = (f : Int)
          case neg =>
            have hb1 : (pf != (f : Int)) = true := bne_iff_ne.2 hpf
            have HNO := Lib.hid (show ¬ refOk D X f k from fun hh => hpf (HPX.out.1 hh).2.1)
            go_wp2_with fail
            (try simp only [Exit.inBlock, Exit.then])
            refine bodyPost_ret (v := .tuple #[.slice none 0 0, .bool false]) (by simp [results, Try.results35, go_sem, *]) rfl ?_
            exact HBAD.out _ HC5.out ⟨k, by omega, HNO.out⟩
          case pos =>
            by_cases hpp : pp = (k : Int)
            case neg =>
              have hb1 : (pf != (f : Int)) = false := bne_eq_false_iff_eq.2 hpf
              have hb2 : (pp != (k : Int)) = true := bne_iff_ne.2 hpp
              have HNO := Lib.hid (show ¬ refOk D X f k from fun hh => hpp (HPX.out.1 hh).2.2)
              clear hpf
              go_wp2_with fail
              (try simp only [Exit.inBlock, Exit.then])
              refine bodyPost_ret (v := .tuple #[.slice none 0 0, .bool false]) (by simp [results, Try.results35, go_sem, *]) rfl ?_
              exact HBAD.out _ HC5.out ⟨k, by omega, HNO.out⟩
            case pos =>
              have hb1 : (pf != (f : Int)) = false := bne_eq_false_iff_eq.2 hpf
              have hb2 : (pp != (k : Int)) = false := bne_eq_false_iff_eq.2 hpp
              have HYES := Lib.hid (show refOk D X f k from HPX.out.2 ⟨rfl, hpf, hpp⟩)
              have HVV := Lib.hid (show fval D X f k = pv from HVX.out HYES.out)
              clear hpf hpp
              go_wp2_with fail
              go_roundw
              case rel =>
                have hsv := HSV.out
                refine ⟨k + 1, by omega, by go_num, HC5.out.own HST.out (by omega), HBT5.out.chg HST.out (by omega), ?_, Lib.hid (succ_below hrf.out HYES.out)⟩
                rw [HNX.out pv HVV.out]
                exact HBV5.out
              case measure => simp [intOf]; omega
    · obtain rfl : k = n := by omega
      have HOK := Lib.hid (HREF.out hrf.out)
      clear hch hbt hbv
      go_wp2_with fail
      (try simp only [Exit.inBlock, Exit.then])
      refine bodyPost_ret (v := .tuple #[.slice (some ⟨V, 0, none⟩) k k, .bool true]) (by simp [results, Try.results35, go_sem, *]) rfl ?_
      have hb := HBV.out
      rw [Nat.sub_self, reps_zero, List.append_nil, List.take_of_length_le (by rw [HVL.out]; exact Nat.le_refl _)] at hb
      unfold FvP
      rw [decide_eq_true HOK.out]
      refine ⟨some ⟨V, 0, none⟩, k, fileVals D X f, by rw [HVL.out], fun _ => rfl, fun j v hj => ?_, by rw [HVL.out]; exact hn6, HCH.out⟩
      refine ⟨⟨V, 0, none⟩, rfl, trivial, ?_⟩
      rw [show (⟨V, 0, none⟩ : Addr).add j = ⟨V, j, none⟩ by unfold Addr.add; split <;> simp_all, hb.cell, List.getElem?_toArray]
      exact hj
set_option maxRecDepth 100000 in
set_option maxHeartbeats 2000000 in
theorem iTableFits_any (F G : Nat → Prop) (A0 : Option Addr) (c0 : Nat) (D : List Bk) (A : Option Addr) (c : Nat) (X : List (List Int)) (w : World) (hr : DevR F w A0 D) (hd : DvOk D) (h : TabR G w A X) (hX : tabOk X) :
    Calls Try.prog 85 #[.slice A0 D.length c0, .agg #[.slice A X.length c]] w (Says w (fits D X)) := by
  have hca := (Chg.refl NoB w).alloc (.cells #[.slice A X.length c] 31)
  have HB := Lib.hid (Blk.new w 31 #[.slice A X.length c])
  have HT0 := Lib.hid h.lt
  have HR0 := Lib.hid hr.lt
  have HC := Lib.hid hca
  have HX := Lib.hid hX
  have HD := Lib.hid hd
  clear h hca hX hd hr
  go_enter Try.func85, Try.ntmps85
  go_wp2
  go_loopw [8] (fun i wr => ∃ k : Nat, k ≤ 8 ∧ i = .int .i64 k ∧ Chg NoB w wr ∧ Blk wr w.heap.size 31 #[.slice A X.length c] ∧ Hid (∀ p, p < k → fileOk D X p)) (fun i _ => 8 - (intOf i).toNat)
  case atStart => exact ⟨0, Nat.zero_le _, rfl, HC.out, HB.out, Lib.hid fun p hp => absurd hp (Nat.not_lt_zero p)⟩
  case round =>
    obtain ⟨k, hk, rfl, hch, hbt, hok⟩ := hrel
    have HCH := Lib.hid hch
    have HBT := Lib.hid hbt
    by_cases hlt : k < 8
    · have x0 : wr.cell? ⟨w.heap.size, 0, none⟩ = some (.slice A X.length c) := (hbt.cell _).trans rfl
      have k1 : (k : Int) < 8 := by omega
      clear hch hbt
      go_wp2_with fail
      refine (iFileValues_any _ _ A0 c0 D A c X _ (HR0.out.new HCH.out) HD.out (HT0.out.new HCH.out) HX.out k hlt).mono ?_
      rintro e w4 ⟨A5, c5, xs, rfl, -, -, -, hc4⟩
      have HC4 := Lib.hid (HCH.out.trans hc4)
      have HBT4 := Lib.hid (HBT.out.chg hc4 (fun x => x))
      clear hc4
      by_cases hf : fileOk D X k
      · rw [decide_eq_true hf]
        have HF := Lib.hid hf
        clear hf
        go_wp2_with fail
        go_roundw
        case rel => exact ⟨k + 1, by omega, by go_num, HC4.out, HBT4.out, Lib.hid (succ_below hok.out HF.out)⟩
        case measure => simp [intOf]; omega
      · rw [decide_eq_false hf]
        have HF := Lib.hid hf
        clear hf
        go_wp2_with fail
        go_ret
        exact Says.no (fun hh => HF.out (hh k hlt)) HC4.out
    · obtain rfl : k = 8 := by omega
      clear hch hbt
      go_wp2_with fail
      go_ret
      exact Says.yes hok.out HCH.out
end Go.Proofs.Ytpiojofmflfkkaa
/- TablePut of the program, where it takes the page. -/
namespace Go.Proofs.Ytpiojofmflfkkaa
open Go.RowKit
def TbPutP (w : World) (X : List (List Int)) (f p : Nat) (v : Int) (e : Ending) (w' : World) : Prop :=
  ∃ g T, e = .returned (.tuple #[.agg #[.slice (some ⟨g, 0, none⟩) 8 8], .bool true]) ∧ listsOf T = tput X f p v ∧ Chg NoB w w' ∧ TabO w.heap.size w'.heap.size w' (some ⟨g, 0, none⟩) 8 T
set_option maxRecDepth 100000 in
set_option maxHeartbeats 2000000 in
theorem iTablePut_any (F : Nat → Prop) (A : Option Addr) (c : Nat) (X : List (List Int)) (w : World) (h : TabR F w A X) (hX : tabOk X) (f p : Nat) (v : Int) (hf : f < 8) (hp : p < 6) (hv : 0 ≤ v ∧ v ≤ 47) (hn : ∀ f' p', f' < 8 → p' < 6 → tget X f' p' ≠ v) :
    Calls Try.prog 90 #[.agg #[.slice A X.length c], .int .i64 f, .int .i64 p, .int .i64 v] w (TbPutP w X f p v) := by
  obtain ⟨hb1, hb2, hcb⟩ := lit2 w 31 31 #[.slice A X.length c] #[.slice none 0 0]
  have HB1 := Lib.hid hb1
  have HB2 := Lib.hid hb2
  have HC0 := Lib.hid hcb
  have HT0 := Lib.hid h.lt
  have HX := Lib.hid hX
  have HL8 := Lib.hid hX.1
  have HNV := Lib.hid hn
  have HVR := Lib.hid hv
  have hv0 := hv.1
  have hv1 := hv.2
  have HF := Lib.hid hf
  have HP := Lib.hid hp
  have i0 : (0 : Int) ≤ (f : Int) := Int.natCast_nonneg _
  have i1 : (f : Int) < 8 := by omega
  have i2 : ¬ ((f : Int) < 0) := by omega
  have i3 : ¬ ((8 : Int) ≤ (f : Int)) := by omega
  have j0 : (0 : Int) ≤ (p : Int) := Int.natCast_nonneg _
  have j1 : (p : Int) < 6 := by omega
  have j2 : ¬ ((p : Int) < 0) := by omega
  have j3 : ¬ ((5 : Int) < (p : Int)) := by omega
  have HTG := Lib.hid (tabF_tget hX)
  clear h hb1 hb2 hcb hX hn hv hf hp
  go_enter Try.func90, Try.ntmps90
  go_wp2_with fail
  refine (iTableValid_any _ A c X _ (HT0.out.new HC0.out)).mono ?_
  rintro e w1 ⟨r, rfl, hr, hc1⟩
  obtain rfl : r = true := hr.2 HX.out
  have HC1 := Lib.hid (HC0.out.trans hc1)
  have hb1 := HB1.out.chg hc1 (fun x => x)
  have x0 : w1.cell? ⟨w.heap.size, 0, none⟩ = some (.slice A X.length c) := (hb1.cell _).trans rfl
  have HB1' := Lib.hid hb1
  have HB2' := Lib.hid (HB2.out.chg hc1 (fun x => x))
  clear hr hb1 hc1 HB1 HB2
  go_wp2_with fail
  refine (pageNumber_t v _ (by have := HVR.out; omega)).mono ?_
  rintro e w1' ⟨rfl, rfl⟩
  go_wp2_with fail
  refine (cloneTable_any _ A c X _ (HT0.out.new HC1.out) HX.out).mono ?_
  rintro e w2 ⟨g, T, rfl, hT, hc2, hO⟩
  have HT := Lib.hid (hT.trans HTG.out.symm)
  have hca := (Chg.refl NoB w2).alloc (.cells #[.slice (some ⟨g, 0, none⟩) 8 8] 31)
  have HV0 := Lib.hid (Blk.new w2 31 #[.slice (some ⟨g, 0, none⟩) 8 8])
  have HC3 := Lib.hid ((HC1.out.trans hc2).trans hca)
  have HR3 := Lib.hid ((HB2'.out.chg hc2 (fun x => x)).chg hca (fun x => x))
  have HX3 := Lib.hid ((HB1'.out.chg hc2 (fun x => x)).chg hca (fun x => x))
  have HO3 := Lib.hid (hO.new hca)
  have HS1 := Lib.hid (show w.heap.size + 1 < w1.heap.size from HB2'.out.lt)
  have HS2 := Lib.hid hc2.size
  clear hT hO hc2 hca x0
  have x0 : (w2.alloc (.cells #[.slice (some ⟨g, 0, none⟩) 8 8] 31)).cell? ⟨w.heap.size, 0, none⟩ = some (.slice A 8 c) := (HX3.out.cell 0).trans (show some (Value.slice A X.length c) = _ by rw [HL8.out])
  go_wp2_with fail
  obtain ⟨V, hV⟩ : ∃ V, w2.heap.size = V := ⟨_, rfl⟩
  obtain ⟨w3, hw3⟩ : ∃ w3, w2.alloc (.cells #[.slice (some ⟨g, 0, none⟩) 8 8] 31) = w3 := ⟨_, rfl⟩
  have hs2 := HS2.out
  rw [hw3] at HV0 HC3 HR3 HX3 HO3
  try rw [hw3]
  rw [hV] at HV0 hs2 HO3
  try rw [hV]
  replace HS2 := Lib.hid hs2
  clear hV hs2 hw3 x0
  go_loopw [45] (fun i wr => ∃ k : Nat, k ≤ 8 ∧ i = .int .i64 k ∧ Chg NoB w3 wr) (fun i _ => 8 - (intOf i).toNat)
  case atStart => exact ⟨0, Nat.zero_le _, rfl, Chg.refl _ _⟩
  case round =>
    obtain ⟨k, hk, rfl, hch⟩ := hrel
    have HCH := Lib.hid hch
    have k0 : (0 : Int) ≤ (k : Int) := Int.natCast_nonneg _
    by_cases hlt : k < 8
    · obtain ⟨ad, B, c', rfl, hcell, hrows⟩ := tab_row (HT0.out.new (HC3.out.trans hch)) HX.out hlt
      have HROW := Lib.hid hrows
      have k1 : (k : Int) < 8 := by omega
      clear hch hrows
      go_wp2_with fail
      go_loopw [52] (fun i wi => ∃ m : Nat, m ≤ 6 ∧ i = .int .i64 m ∧ Chg NoB wr wi) (fun i _ => 6 - (intOf i).toNat)
      case atStart => exact ⟨0, Nat.zero_le _, rfl, Chg.refl _ _⟩
      case round =>
        obtain ⟨m, hm, rfl, hci⟩ := hrel
        have HCI := Lib.hid hci
        have m0 : (0 : Int) ≤ (m : Int) := Int.natCast_nonneg _
        by_cases hlm : m < 6
        · have ck := hci.cell (HROW.out m hlm) (fun x => x)
          have hne : (tget X k m == v) = false := beq_eq_false_iff_ne.2 (HNV.out k m hlt hlm)
          have m1 : (m : Int) < 6 := by omega
          generalize tget X k m = x at ck hne
          clear hci
          go_wp2_with fail
          go_roundw
          case rel => exact ⟨m + 1, by omega, by go_num, HCI.out⟩
          case measure => simp [intOf]; omega
        · obtain rfl : m = 6 := by omega
          clear hci
          go_wp2_with fail
          go_roundw
          case rel => exact ⟨k + 1, by omega, by go_num, HCH.out.trans HCI.out⟩
          case measure => simp [intOf]; omega
    · obtain rfl : k = 8 := by omega
      have hbV := HV0.out.chg hch (fun x => x)
      have hbR := HR3.out.chg hch (fun x => x)
      have v0 : wr.cell? ⟨V, 0, none⟩ = some (.slice (some ⟨g, 0, none⟩) 8 8) := (hbV.cell _).trans rfl
      have r0 : wr.cell? ⟨w.heap.size + 1, 0, none⟩ = some (.slice none 0 0) := (hbR.cell _).trans rfl
      have rf := hbR.frozen 0
      obtain ⟨gf, cf, s1, s2, s3, s4, s5, s6, s7, s8⟩ := (HO3.out.new hch).spot HT.out HF.out HP.out
      obtain ⟨T', hO', hT'⟩ := s8 v
      have HGF := Lib.hid (And.intro s2 s3)
      have HO' := Lib.hid hO'
      have HT' := Lib.hid hT'
      have h1 := HS1.out
      have h2 := HS2.out
      have hV1 : w.heap.size + 1 ≠ gf := by omega
      have hV2 : gf ≠ w.heap.size + 1 := by omega
      have hV3 : V ≠ gf := by omega
      have hV4 : gf ≠ V := by omega
      have hcs : Chg (· = gf) wr (wr.setCell ⟨gf, p, none⟩ (.int .i64 v)) := (Chg.refl (· = gf) wr).setCell (p := ⟨gf, p, none⟩) (.inl rfl) _
      have HCS := Lib.hid hcs
      obtain ⟨old, hold⟩ : ∃ old, tget X f p = old := ⟨_, rfl⟩
      rw [hold] at s4
      have HW := Lib.hid (HC3.out.trans hch)
      have HCH' := Lib.hid hch
      clear hcs hO' hT' s8 hbV hbR hch s2 s3 hold h1 h2
      go_wp2_with fail
      (try simp only [Exit.inBlock, Exit.then])
      refine bodyPost_ret (v := .tuple #[.agg #[.slice (some ⟨g, 0, none⟩) 8 8], .bool true]) (by simp [results, Try.results90, go_sem, *]) rfl ?_
      have h1 := HS1.out
      have h2 := HS2.out
      have hg := HGF.out
      have hct : Chg (· = w.heap.size + 1) (wr.setCell ⟨gf, p, none⟩ (.int .i64 v)) ((wr.setCell ⟨gf, p, none⟩ (.int .i64 v)).setCell ⟨w.heap.size + 1, 0, none⟩ (.slice (some ⟨g, 0, none⟩) 8 8)) := (Chg.refl (· = w.heap.size + 1) _).setCell (p := ⟨w.heap.size + 1, 0, none⟩) (.inl rfl) _
      exact ⟨g, T', rfl, HT'.out, (HW.out.own HCS.out (by omega)).own hct (by omega), (HO'.out.chg hct (fun i h3 h4 h5 => by omega)).more (by omega) (by have h3 := HV0.out.lt; have h4 := HCH'.out.size; have h5 := hct.size; have h6 := HCS.out.size; omega)⟩
end Go.Proofs.Ytpiojofmflfkkaa
/- Two variables that a drawn region makes and stores into. What CleanBlock gives. -/
namespace Go.Proofs.Ytpiojofmflfkkaa
open Go.RowKit
/-- What a drawn region may turn: new boxes of type T1 or T2. -/
def RB2 (B : Nat) (T1 T2 : TypeId) (w w' : World) : Prop := Chg (fun k => B ≤ k ∧ ((∃ cs, Blk w k T1 cs) ∨ ∃ cs, Blk w k T2 cs)) w w'
section
variable {B : Nat} {T1 T2 : TypeId} {w w' : World}
theorem RB2.of (hc : Chg NoB w w') : RB2 B T1 T2 w w' := hc.mono fun _ _ hk => hk.elim
theorem RB2.blk (h : RB2 B T1 T2 w w') {b : Nat} {t : TypeId} {cs : Array Value} (hb : Blk w b t cs) (h1 : t ≠ T1) (h2 : t ≠ T2) : Blk w' b t cs := hb.chg h (by
  rintro ⟨-, ⟨cs', h3⟩ | ⟨cs', h3⟩⟩
  · exact h1 (hb.sameTy h3)
  · exact h2 (hb.sameTy h3))
theorem RB2.box1 {bx : Nat} {cs : Array Value} (hc : Chg (· = bx) w w') (hB : B ≤ bx) (hb : Blk w bx T1 cs) : RB2 B T1 T2 w w' := hc.mono fun k _ hk => by
  have hk' : k = bx := hk
  subst hk'
  exact ⟨hB, .inl ⟨cs, hb⟩⟩
theorem RB2.box2 {bx : Nat} {cs : Array Value} (hc : Chg (· = bx) w w') (hB : B ≤ bx) (hb : Blk w bx T2 cs) : RB2 B T1 T2 w w' := hc.mono fun k _ hk => by
  have hk' : k = bx := hk
  subst hk'
  exact ⟨hB, .inr ⟨cs, hb⟩⟩
end
theorem BoxI.keepT {B : Nat} {T T' : TypeId} {z : Array Value} {ai si vi i : Nat} {m : Nat → Option Value} {F : Nat → Prop} {w w' : World} {v : Value} (h : BoxI B T z ai si vi m w) (ha : i ≠ ai) (hs : i ≠ si) (hm : m i = none) (hc : Chg F w w') (hF : ∀ k, F k → ∃ cs, Blk w k T' cs) (ht : T ≠ T') : BoxI B T z ai si vi (upd m i v) w' := by
  have e1 : upd m i v ai = m ai := if_neg (Ne.symm ha)
  have e2 : upd m i v si = m si := if_neg (Ne.symm hs)
  have key : ∀ (b : Nat) (cs : Array Value), Blk w b T cs → Blk w' b T cs := fun b cs hb => hb.chg hc fun hk => by
    obtain ⟨cs', h'⟩ := hF b hk
    exact ht (hb.sameTy h')
  refine ⟨by rw [e1, e2]; exact h.1, fun p hp => ?_⟩
  rw [e1] at hp
  obtain ⟨bx, rfl, hB, hr⟩ := h.2 p hp
  refine ⟨bx, rfl, hB, ?_⟩
  rw [e2]
  rcases hr with ⟨h1, h2⟩ | ⟨h1, u, h2, h3⟩
  · exact .inl ⟨h1, key _ _ h2⟩
  · refine .inr ⟨h1, u, ?_, key _ _ h3⟩
    have : vi ≠ i := fun e => by rw [e, hm] at h2; cases h2
    unfold upd; rw [if_neg this]; exact h2
theorem ty_blk_tab : (67 : Nat) ≠ 31 := by decide
theorem ty_blk_hds : (67 : Nat) ≠ 46 := by decide
theorem ty_pag_tab : (80 : Nat) ≠ 31 := by decide
theorem ty_pag_hds : (80 : Nat) ≠ 46 := by decide
theorem ty_ints_tabC : (24 : Nat) ≠ 31 := by decide
theorem ty_ints_hds : (24 : Nat) ≠ 46 := by decide
theorem ty_int_tabC : (3 : Nat) ≠ 31 := by decide
theorem ty_int_hds : (3 : Nat) ≠ 46 := by decide
theorem DevQ.box2 {B E B' : Nat} {w w' : World} {A : Option Addr} {c : Nat} {T : List BkO} (h : DevQ B E w A c T) (hR : RB2 B' 31 46 w w') : DevQ B E w' A c T := by
  refine ⟨⟨⟨h.1.1.1, ?_⟩, ⟨fun r hr => ?_, h.1.2.2⟩⟩, fun hT => ?_⟩
  · rcases h.1.1.2 with h0 | ⟨g, rest, e, hg, hE, hb⟩
    · exact .inl h0
    · exact .inr ⟨g, rest, e, hg, hE, hR.blk hb ty_blk_tab ty_blk_hds⟩
  · obtain ⟨h1, h2, h3, h4⟩ := h.1.2.1 r hr
    exact ⟨h1, h2, hR.blk h3 ty_pag_tab ty_pag_hds, h4⟩
  · obtain ⟨h1, g, cs, h2, h3, h4⟩ := h.2 hT
    exact ⟨h1, g, cs, h2, hR.blk h3 ty_blk_tab ty_blk_hds, h4⟩
theorem TabO.box2 {B E B' : Nat} {w w' : World} {A : Option Addr} {c : Nat} {T : List RowO} (h : TabO B E w A c T) (hR : RB2 B' 31 46 w w') : TabO B E w' A c T := by
  refine ⟨⟨h.1.1, ?_⟩, ⟨fun r hr => ?_, h.2.2⟩⟩
  · rcases h.1.2 with h0 | ⟨g, rest, e, hg, hE, hb⟩
    · exact .inl h0
    · exact .inr ⟨g, rest, e, hg, hE, hR.blk hb ty_ints_tabC ty_ints_hds⟩
  · obtain ⟨h1, h2, h3, h4⟩ := h.2.1 r hr
    exact ⟨h1, h2, hR.blk h3 ty_int_tabC ty_int_hds, h4⟩
/-- What CleanBlock gives. -/
def CleanP (w : World) (q : CbR) (e : Ending) (w' : World) : Prop :=
  ∃ (A : Option Addr) (c : Nat) (T : List BkO) (A' : Option Addr) (c' : Nat) (T' : List RowO), e = .returned (.tuple #[.slice A q.dev.length c, .agg #[.slice A' q.tab.length c'], hval q.hd, .int .i64 q.many, .bool q.ok]) ∧ bksOf T = q.dev ∧ listsOf T' = q.tab ∧
    DevQ w.heap.size w'.heap.size w' A c T ∧ TabO w.heap.size w'.heap.size w' A' c' T' ∧ Chg NoB w w'
theorem CleanP.no {w w' : World} {D : List Bk} {X : List (List Int)} {h : Hd} {n s : Int} {A : Option Addr} {c : Nat} (hh : ¬ cbOk D X h n s) (hc : Chg NoB w w') : CleanP w (cleanBlock D X h n s) (.returned (.tuple #[.slice A 0 c, .agg #[.slice none 0 0], hval ⟨0, 0, 0⟩, .int .i64 0, .bool false])) w' := by
  unfold CleanP cleanBlock
  rw [if_neg hh]
  exact ⟨A, c, [], none, 0, [], rfl, rfl, rfl, DevQ.nil _ _ _ _ _, TabO.nil _ _ _ _ _, hc⟩
theorem pgAt_blk {D : List Bk} {n k : Nat} (hn : n < D.length) (hk : k < 4) (h : k < D[n].pages.length) : pgAt D (4 * n + k) = D[n].pages[k] := by
  have e1 : (4 * n + k) / 4 = n := by omega
  have e2 : (4 * n + k) % 4 = k := by omega
  unfold pgAt
  rw [e1, e2, getD_get _ _ hn, getD_get _ _ h]
theorem lit4 (w : World) (t1 t2 t3 t4 : TypeId) (c1 c2 c3 c4 : Array Value) :
    Blk ((((w.alloc (.cells c1 t1)).alloc (.cells c2 t2)).alloc (.cells c3 t3)).alloc (.cells c4 t4)) w.heap.size t1 c1 ∧ Blk ((((w.alloc (.cells c1 t1)).alloc (.cells c2 t2)).alloc (.cells c3 t3)).alloc (.cells c4 t4)) (w.heap.size + 1) t2 c2 ∧
    Blk ((((w.alloc (.cells c1 t1)).alloc (.cells c2 t2)).alloc (.cells c3 t3)).alloc (.cells c4 t4)) (w.heap.size + 1 + 1) t3 c3 ∧ Blk ((((w.alloc (.cells c1 t1)).alloc (.cells c2 t2)).alloc (.cells c3 t3)).alloc (.cells c4 t4)) (w.heap.size + 1 + 1 + 1) t4 c4 ∧
    Chg NoB w ((((w.alloc (.cells c1 t1)).alloc (.cells c2 t2)).alloc (.cells c3 t3)).alloc (.cells c4 t4)) := by
  obtain ⟨p1, p2, p3⟩ := lit2 w t1 t2 c1 c2
  obtain ⟨q1, q2, q3⟩ := lit2 ((w.alloc (.cells c1 t1)).alloc (.cells c2 t2)) t3 t4 c3 c4
  rw [World.size_alloc, World.size_alloc] at q1 q2
  exact ⟨p1.chg q3 (fun x => x), p2.chg q3 (fun x => x), q1, q2, p3.trans q3⟩
end Go.Proofs.Ytpiojofmflfkkaa
/- FileSize, FileValues of the reference, on a device and a table that are valid. -/
namespace Go.Proofs.Ytpiojofmflfkkaa
open Go.RowKit
theorem tab_fit {X : List (List Int)} (hX : tabOk X) : X.length ≤ 9223372036854775807 ∧ ∀ r ∈ X, r.length ≤ 9223372036854775807 := ⟨by have := hX.1; omega, fun r hr => by
  obtain ⟨k, hk, rfl⟩ := List.getElem_of_mem hr
  have := (hX.2 k hk).1; omega⟩
theorem chg_grownB {w w' : World} {B size n : Nat} {e : TypeId} {v : Value} {xs : List Value} (h : w.ownsRow B e size v n xs) (hg : w.grownBy w' v.ownBlock) : Chg (fun i => B ≤ i) w w' :=
  (Chg.refl _ w).grown hg fun k hk => .inl (h.lt k hk).1
set_option maxRecDepth 100000 in
set_option maxHeartbeats 2000000 in
theorem sFileSize_any (F : Nat → Prop) (A : Option Addr) (c : Nat) (X : List (List Int)) (w : World) (h : TabR F w A X) (hX : tabOk X) (f : Nat) (hf : f < 8) :
    Calls Try.prog 131 #[.agg #[.slice A X.length c], .int .i64 f] w fun e w' => e = .returned (.int .i64 (fsz X f 6 : Nat)) ∧ Chg NoB w w' := by
  have hca := (Chg.refl NoB w).alloc (.cells #[.slice A X.length c] 31)
  have HB := Lib.hid (Blk.new w 31 #[.slice A X.length c])
  have HT0 := Lib.hid h.lt
  have HC := Lib.hid hca
  have HX := Lib.hid hX
  have HXF := Lib.hid (tab_fit hX)
  have HL8 := Lib.hid hX.1
  have i0 : (0 : Int) ≤ (f : Int) := Int.natCast_nonneg _
  have i1 : (f : Int) < 8 := by omega
  have HF := Lib.hid hf
  clear h hca hX hf
  go_enter Try.func131, Try.ntmps131
  go_wp2_with fail
  refine (sTableValid_any _ A c X _ (HT0.out.new HC.out) HXF.out.1 HXF.out.2).mono ?_
  rintro e w1 ⟨r, rfl, hr, hc1⟩
  obtain rfl : r = true := hr.2 HX.out
  have HB1 := Lib.hid (HB.out.chg hc1 (fun x => x))
  have HC1 := Lib.hid (HC.out.trans hc1)
  clear hr hc1
  go_wp2_with fail
  refine (l1In_t (f : Int) 0 7 _ ⟨by omega, by omega⟩).mono ?_
  rintro e w1' ⟨rfl, rfl⟩
  obtain ⟨ad, B, c', rfl, hcell, hrows⟩ := tab_row (HT0.out.new HC1.out) HX.out HF.out
  have HROW := Lib.hid hrows
  have x0 : w1.cell? ⟨w.heap.size, 0, none⟩ = some (.slice (some ad) 8 c) := by rw [← HL8.out]; exact (HB1.out.cell _).trans rfl
  have HCELL := Lib.hid hcell
  have HX0 := Lib.hid x0
  clear hrows hcell x0
  go_wp2_with fail
  go_loopw [5] (fun i wr => ∃ k : Nat, k ≤ 6 ∧ i = .int .i64 ((k : Int) - 1) ∧ Hid (fsz X f k = fsz X f 6) ∧ Chg NoB w1 wr) (fun i _ => (intOf i + 1).toNat)
  case atStart => exact ⟨6, Nat.le_refl _, rfl, Lib.hid rfl, Chg.refl _ _⟩
  case round =>
    obtain ⟨k, hk, rfl, hz, hch⟩ := hrel
    have HCH := Lib.hid hch
    cases k with
    | zero =>
      clear hch
      have hg : ¬ ((0 : Int) ≤ ((0 : Nat) : Int) - 1) := by omega
      go_wp2_with fail
      go_ret
      exact ⟨by rw [← hz.out]; rfl, HC1.out.trans HCH.out⟩
    | succ k =>
      have ck := hch.cell (HROW.out k (by omega)) (fun x => x)
      have hcell := hch.cell HCELL.out (fun x => x)
      have x0 := hch.cell HX0.out (fun x => x)
      have HHIT := Lib.hid (fun hh => fsz_hit (X := X) (f := f) (k := k) hh)
      have HMISS := Lib.hid (fun hh => fsz_miss (X := X) (f := f) (k := k) hh)
      have e0 : ((k + 1 : Nat) : Int) - 1 = (k : Int) := by omega
      have HZ := hz
      rw [e0]
      clear hz
      have k0 : (0 : Int) ≤ (k : Int) := Int.natCast_nonneg _
      have k1 : (k : Int) < 6 := by omega
      generalize tget X f k = x at ck HHIT HMISS
      clear hch e0
      by_cases hx : 0 ≤ x
      · have HS := Lib.hid (HHIT.out hx)
        go_wp2_with fail
        go_ret
        exact ⟨by rw [← HZ.out, HS.out]; go_num, HC1.out.trans HCH.out⟩
      · have HS := Lib.hid (HMISS.out hx)
        go_wp2_with fail
        go_roundw
        case rel => exact ⟨k, by omega, by go_num, Lib.hid (by rw [← HZ.out, HS.out]), HCH.out⟩
        case measure => simp [intOf]
set_option maxRecDepth 100000 in
set_option maxHeartbeats 2000000 in
theorem sFileValues_any (F G : Nat → Prop) (A0 : Option Addr) (c0 : Nat) (D : List Bk) (A : Option Addr) (c : Nat) (X : List (List Int)) (w : World) (hr : DevR F w A0 D) (hd : DvOk D) (h : TabR G w A X) (hX : tabOk X) (f : Nat) (hf : f < 8) :
    Calls Try.prog 78 #[.slice A0 D.length c0, .agg #[.slice A X.length c], .int .i64 f] w (FvP w D X f) := by
  obtain ⟨j0, hj, hy0, hy1, hy2⟩ := info_parts info_int
  obtain ⟨q1, q2, q3⟩ := lit2 w 31 3 #[.slice A X.length c] #[]
  have HB := Lib.hid q1
  have HT0 := Lib.hid h.lt
  have HR0 := Lib.hid hr.lt
  have HC := Lib.hid q3
  have HO0' := (show ((w.alloc (.cells #[.slice A X.length c] 31)).alloc (.cells #[] 3)).ownsRow (w.heap.size + 1) 3 1 (.slice (some ⟨(w.alloc (.cells #[.slice A X.length c] 31)).heap.size, 0, none⟩) 0 0) 0 [] from own_empty _ _ 1 _ (by rw [World.size_alloc]; exact Nat.le_refl _))
  rw [World.size_alloc w] at HO0'
  have HO0 := Lib.hid HO0'
  clear HO0'
  have HX := Lib.hid hX
  have HXF := Lib.hid (tab_fit hX)
  have HD := Lib.hid hd
  have HL8 := Lib.hid hX.1
  have i0 : (0 : Int) ≤ (f : Int) := Int.natCast_nonneg _
  have i1 : (f : Int) < 8 := by omega
  have HF := Lib.hid hf
  obtain ⟨n, hn⟩ : ∃ n, fsz X f 6 = n := ⟨_, rfl⟩
  have HN := Lib.hid hn
  have hn6 : n ≤ 6 := by rw [← hn]; exact fsz_le X f 6
  have HREF := Lib.hid (fun (hh : ∀ p, p < n → refOk D X f p) => fileOk_size (D := D) (X := X) (f := f) (by rw [hn]; exact hh))
  have HVL := Lib.hid (show (fileVals D X f).length = n by rw [fileVals_len, hn])
  have HBAD := Lib.hid (show ∀ wq (Aq : Option Addr) (cq : Nat), Chg NoB w wq → (∃ p, p < 6 ∧ ¬ refOk D X f p) → FvP w D X f (.returned (.tuple #[.slice Aq 0 cq, .bool false])) wq from fun wq Aq cq h1 h2 => FvP.no (fun hh => by obtain ⟨p, hp, hq⟩ := h2; exact hq (hh p hp)) h1)
  have n0 : ¬ ((n : Int) < 0) := by omega
  clear h hX hd hf hr hn q1 q2 q3
  go_enter Try.func78, Try.ntmps78
  go_wp2_with fail
  obtain ⟨w2, hw2⟩ : ∃ w2, (w.alloc (.cells #[.slice A X.length c] 31)).alloc (.cells #[] 3) = w2 := ⟨_, rfl⟩
  rw [hw2] at HB HC HO0 ⊢
  clear hw2
  refine (sDeviceValid_t _ A0 c0 D _ (HR0.out.new HC.out) HD.out).mono ?_
  rintro e w3 ⟨rfl, hc3⟩
  have HB3 := Lib.hid (HB.out.chg hc3 (fun x => x))
  have HC3 := Lib.hid (HC.out.trans hc3)
  have HO3 := Lib.hid (own_chg HO0.out hc3 (fun _ _ x => x))
  have x0 : w3.cell? ⟨w.heap.size, 0, none⟩ = some (.slice A X.length c) := (HB3.out.cell _).trans rfl
  clear hc3
  go_wp2_with fail
  refine (sFileSize_any _ A c X _ (HT0.out.new HC3.out) HX.out f HF.out).mono ?_
  rintro e w4 ⟨rfl, hc4⟩
  rw [HN.out]
  have HB4 := Lib.hid (HB3.out.chg hc4 (fun x => x))
  have HC4 := Lib.hid (HC3.out.trans hc4)
  have HO4 := Lib.hid (own_chg HO3.out hc4 (fun _ _ x => x))
  clear hc4 x0
  go_wp2_with fail
  go_loopw [8, 9] (fun v i wr => ∃ k : Nat, k ≤ n ∧ i = .int .i64 k ∧ Chg NoB w wr ∧ Blk wr w.heap.size 31 #[.slice A X.length c] ∧ wr.ownsRow (w.heap.size + 1) 3 1 v k (icells ((fileVals D X f).take k)) ∧ Hid (∀ p, p < k → refOk D X f p)) (fun _ i _ => n - (intOf i).toNat)
  case atStart => exact ⟨0, Nat.zero_le _, rfl, HC4.out, HB4.out, HO4.out, Lib.hid fun p hp => absurd hp (Nat.not_lt_zero p)⟩
  case round =>
    obtain ⟨k, hk, rfl, hch, hbt, how, hrf⟩ := hrel
    have HCH := Lib.hid hch
    have HBT := Lib.hid hbt
    have HO := Lib.hid how
    have k0 : (0 : Int) ≤ (k : Int) := Int.natCast_nonneg _
    have x0 : wr.cell? ⟨w.heap.size, 0, none⟩ = some (.slice A X.length c) := (hbt.cell _).trans rfl
    clear hch hbt how
    go_wp2_with fail
    refine (sFileSize_any _ A c X _ (HT0.out.new HCH.out) HX.out f HF.out).mono ?_
    rintro e w5 ⟨rfl, hc5⟩
    rw [HN.out]
    have HC5 := Lib.hid (HCH.out.trans hc5)
    have HB5 := Lib.hid (HBT.out.chg hc5 (fun x => x))
    have HO5 := Lib.hid (own_chg HO.out hc5 (fun _ _ x => x))
    clear hc5 x0
    by_cases hlt : k < n
    · obtain ⟨ad, B, c', rfl, hcell, hrows⟩ := tab_row (HT0.out.new HC5.out) HX.out HF.out
      have ck := hrows k (by omega)
      have x0 : w5.cell? ⟨w.heap.size, 0, none⟩ = some (.slice (some ad) 8 c) := by rw [← HL8.out]; exact (HB5.out.cell _).trans rfl
      have k1 : (k : Int) < 6 := by omega
      have k2 : (k : Int) < (n : Int) := by omega
      have HNEG := Lib.hid (fun hh => (⟨refOk_neg (D := D) (X := X) (f := f) (p := k) hh, fval_neg (D := D) hh⟩ : refOk D X f k ∧ fval D X f k = 0))
      have HPOS := Lib.hid (fun hh => refOk_read (D := D) (X := X) (f := f) (p := k) HD.out hh)
      have HVAL := Lib.hid (fun hh hq => fval_read (D := D) (X := X) (f := f) (p := k) HD.out hh hq)
      have HNX := Lib.hid (fun (v : Int) (hv : fval D X f k = v) => show icells ((fileVals D X f).take (k + 1)) = icells ((fileVals D X f).take k) ++ [Value.int .i64 v] by rw [icells_take_succ _ k (by rw [HVL.out]; exact hlt), fileVals_get, hv])
      generalize tget X f k = x at ck HNEG HPOS HVAL
      go_wp2_with fail
      refine (sReadPage_any _ A0 c0 D x _ (HR0.out.new HC5.out) HD.out.small).mono ?_
      rintro e w6 ⟨rfl, hc6⟩
      obtain ⟨⟨b, pf, pp, pv, ps⟩, hP⟩ : ∃ P, readPage D x = P := ⟨_, rfl⟩
      have HPX := Lib.hid (fun hh => HPOS.out hh)
      have HVX := Lib.hid (fun hh hq => HVAL.out hh hq)
      rw [hP] at HPX HVX ⊢
      have hca := (Chg.refl NoB w6).alloc (.cells #[.bool b, .int .i64 pf, .int .i64 pp, .int .i64 pv, .int .i64 ps] 80)
      have hpg := Blk.new w6 80 #[.bool b, .int .i64 pf, .int .i64 pp, .int .i64 pv, .int .i64 ps]
      have HC6 := Lib.hid (HC5.out.trans hc6)
      have HB6 := Lib.hid (HB5.out.chg hc6 (fun x => x))
      have HO6 := Lib.hid (own_chg HO5.out hc6 (fun _ _ x => x))
      have z0 := (hca.cell (hc6.cell x0 (fun x => x)) (fun x => x))
      have z1 := (hca.cell (hc6.cell hcell (fun x => x)) (fun x => x))
      have z2 := (hca.cell (hc6.cell ck (fun x => x)) (fun x => x))
      have y1 := hpg.cell 1
      have y2 := hpg.cell 2
      have y3 := hpg.cell 3
      replace y1 := y1.trans (show _ = some (Value.int .i64 pf) from rfl)
      replace y2 := y2.trans (show _ = some (Value.int .i64 pp) from rfl)
      replace y3 := y3.trans (show _ = some (Value.int .i64 pv) from rfl)
      have hsz6 := HC6.out.size
      clear hpg hca hc6 hP HPOS HVAL ck hcell x0 hrows
      by_cases hx : x < 0
      · have HZ := Lib.hid (HNEG.out hx)
        clear HNEG
        go_wp2_with (at_builtin; refine wpList_append_own _ rfl (.tmp 54) (.tmp 55) _ rfl (w.heap.size + 1) 3 j0 (.int .i64 0) 1 8 Try.underlying24 hj hy0 hy1 hy2 rfl (by decide) _ _ _ rfl ((HO6.out.alloc _).alloc _) ⟨w6.heap.size + 1, 0, none⟩ 1 1 [.int .i64 0] rfl rfl (cells_new2 _ _ _ _) (by simp [Value.oneCell']) (by simp only [maxLen]; omega) (by omega) (by simp; omega) ?_; intro v' w8 hown' hgrow _)
        go_roundw
        case rel =>
          refine ⟨k + 1, by omega, by go_num, (HC6.out.alloc _).alloc _ |>.trans' (chg_grownB ((HO6.out.alloc _).alloc _) hgrow) (fun i hi => .inr (by have hi' : w.heap.size + 1 ≤ i := hi; omega)), ((HB6.out.chg ((Chg.refl NoB _).alloc _) (fun x => x)).chg ((Chg.refl NoB _).alloc _) (fun x => x)).chg (chg_grownB ((HO6.out.alloc _).alloc _) hgrow) (by omega), ?_, Lib.hid (succ_below hrf.out HZ.out.1)⟩
          rw [HNX.out 0 HZ.out.2]
          exact hown'
        case measure => simp [intOf]; omega
      · have hx0 : 0 ≤ x := Int.not_lt.1 hx
        clear HNEG
        cases b
        case false =>
          have HNO := Lib.hid (show ¬ refOk D X f k from fun hh => by have := ((HPX.out hx0).1 hh).1; cases this)
          go_wp2_with fail
          (try simp only [Exit.inBlock, Exit.then])
          refine bodyPost_ret (v := .tuple #[.slice (some ⟨w6.heap.size + 1, 0, none⟩) 0 0, .bool false]) (by simp [results, Try.results78, go_sem, *]) rfl ?_
          exact HBAD.out _ _ _ ((HC6.out.alloc _).alloc _) ⟨k, by omega, HNO.out⟩
        case true =>
          by_cases hpf : pf = (f : Int)
          case neg =>
            have hb1 : (pf == (f : Int)) = false := beq_eq_false_iff_ne.2 hpf
            have HNO := Lib.hid (show ¬ refOk D X f k from fun hh => hpf ((HPX.out hx0).1 hh).2.1)
            go_wp2_with fail
            (try simp only [Exit.inBlock, Exit.then])
            refine bodyPost_ret (v := .tuple #[.slice (some ⟨w6.heap.size + 1, 0, none⟩) 0 0, .bool false]) (by simp [results, Try.results78, go_sem, *]) rfl ?_
            exact HBAD.out _ _ _ ((HC6.out.alloc _).alloc _) ⟨k, by omega, HNO.out⟩
          case pos =>
            by_cases hpp : pp = (k : Int)
            case neg =>
              have hb1 : (pf == (f : Int)) = true := beq_iff_eq.2 hpf
              have hb2 : (pp == (k : Int)) = false := beq_eq_false_iff_ne.2 hpp
              have HNO := Lib.hid (show ¬ refOk D X f k from fun hh => hpp ((HPX.out hx0).1 hh).2.2)
              clear hpf
              go_wp2_with fail
              (try simp only [Exit.inBlock, Exit.then])
              refine bodyPost_ret (v := .tuple #[.slice (some ⟨w6.heap.size + 1, 0, none⟩) 0 0, .bool false]) (by simp [results, Try.results78, go_sem, *]) rfl ?_
              exact HBAD.out _ _ _ ((HC6.out.alloc _).alloc _) ⟨k, by omega, HNO.out⟩
            case pos =>
              have hb1 : (pf == (f : Int)) = true := beq_iff_eq.2 hpf
              have hb2 : (pp == (k : Int)) = true := beq_iff_eq.2 hpp
              have HYES := Lib.hid (show refOk D X f k from (HPX.out hx0).2 ⟨rfl, hpf, hpp⟩)
              have HVV := Lib.hid (show fval D X f k = pv from HVX.out hx0 HYES.out)
              clear hpf hpp
              go_wp2_with (at_builtin; refine wpList_append_own _ rfl (.tmp 71) (.tmp 74) _ rfl (w.heap.size + 1) 3 j0 (.int .i64 0) 1 8 Try.underlying24 hj hy0 hy1 hy2 rfl (by decide) _ _ _ rfl ((HO6.out.alloc _).alloc _) ⟨w6.heap.size + 1, 0, none⟩ 1 1 [.int .i64 pv] rfl rfl (cells_new2 _ _ _ _) (by simp [Value.oneCell']) (by simp only [maxLen]; omega) (by omega) (by simp; omega) ?_; intro v' w8 hown' hgrow _)
              go_roundw
              case rel =>
                refine ⟨k + 1, by omega, by go_num, (HC6.out.alloc _).alloc _ |>.trans' (chg_grownB ((HO6.out.alloc _).alloc _) hgrow) (fun i hi => .inr (by have hi' : w.heap.size + 1 ≤ i := hi; omega)), ((HB6.out.chg ((Chg.refl NoB _).alloc _) (fun x => x)).chg ((Chg.refl NoB _).alloc _) (fun x => x)).chg (chg_grownB ((HO6.out.alloc _).alloc _) hgrow) (by omega), ?_, Lib.hid (succ_below hrf.out HYES.out)⟩
                rw [HNX.out pv HVV.out]
                exact hown'
              case measure => simp [intOf]; omega
    · obtain rfl : k = n := by omega
      have HOK := Lib.hid (HREF.out hrf.out)
      obtain ⟨A', c', hv, ho⟩ := OwnS.of_row HO5.out
      subst hv
      have x0 : w5.cell? ⟨w.heap.size, 0, none⟩ = some (.slice A X.length c) := (HB5.out.cell _).trans rfl
      go_wp2_with fail
      (try simp only [Exit.inBlock, Exit.then])
      refine bodyPost_ret (v := .tuple #[.slice A' k c', .bool true]) (by simp [results, Try.results78, go_sem, *]) rfl ?_
      unfold FvP
      rw [decide_eq_true HOK.out]
      rw [List.take_of_length_le (by rw [HVL.out]; exact Nat.le_refl _)] at ho
      exact ⟨A', c', fileVals D X f, by rw [HVL.out], fun _ => rfl, ho.rd.mono (fun _ _ _ => trivial), by rw [HVL.out]; exact hn6, HC5.out⟩
end Go.Proofs.Ytpiojofmflfkkaa
/- AppendPage of the reference, of a page that is not valid. -/
namespace Go.Proofs.Ytpiojofmflfkkaa
open Go.RowKit
set_option maxRecDepth 100000 in
set_option maxHeartbeats 2000000 in
theorem sAppendPage_bad (F : Nat → Prop) (A : Option Addr) (c : Nat) (D : List Bk) (h : Hd) (n : Nat) (p : Pg) (w : World) (hr : DevR F w A D) (hh : HeadsOk D h) (hn : n < 3) (hp : ¬ PgOk p) :
    Calls Try.prog 81 #[.slice A D.length c, hval h, .int .i64 n, pval p] w fun e w' => ∃ A' c', e = .returned (.tuple #[.slice A' 0 c', hval ⟨0, 0, 0⟩, .int .i64 (-1)]) ∧ Chg NoB w w' := by
  obtain ⟨fu, fi, pl, va, st⟩ := p
  have HHV := Lib.hid (show ∀ wq (Aq : Option Addr) (cq : Nat) (G : Nat → Prop), DevR G wq Aq D → Calls Try.prog 75 #[.slice Aq D.length cq, hval h] wq fun e w' => e = .returned (.bool true) ∧ Chg NoB wq w' from fun wq Aq cq G hq => (sHeadsValid_any G Aq cq D h wq hq hh.1.small).mono fun e w' ⟨he, hw⟩ => ⟨by rw [he, decide_eq_true hh], hw⟩)
  obtain ⟨a1, a2, a3⟩ := h
  obtain ⟨q1, q2, q3⟩ := lit2 w 46 80 #[.int .i64 a1, .int .i64 a2, .int .i64 a3] #[.bool fu, .int .i64 fi, .int .i64 pl, .int .i64 va, .int .i64 st]
  obtain ⟨w2, hw2⟩ : ∃ w2, (w.alloc (.cells #[.int .i64 a1, .int .i64 a2, .int .i64 a3] 46)).alloc (.cells #[.bool fu, .int .i64 fi, .int .i64 pl, .int .i64 va, .int .i64 st] 80) = w2 := ⟨_, rfl⟩
  have hsz2 : w2.heap.size = w.heap.size + 1 + 1 := by rw [← hw2]; simp [World.size_alloc]
  have hca := (Chg.refl NoB w2).alloc (.cells #[.int .i64 0, .int .i64 0, .int .i64 0] 46)
  have q4 := Blk.new w2 46 #[.int .i64 0, .int .i64 0, .int .i64 0]
  rw [hw2] at q1 q2 q3
  obtain ⟨w3, hw3⟩ : ∃ w3, w2.alloc (.cells #[.int .i64 0, .int .i64 0, .int .i64 0] 46) = w3 := ⟨_, rfl⟩
  rw [hw3] at hca q4
  rw [hsz2] at q4
  have HBH := Lib.hid (q1.chg hca (fun x => x))
  have HBP := Lib.hid (q2.chg hca (fun x => x))
  have HBR := Lib.hid q4
  have HC := Lib.hid (q3.trans hca)
  have HR := Lib.hid (hr.lt.new (q3.trans hca))
  have HW2 := Lib.hid hw2
  have HW3 := Lib.hid hw3
  have HP := Lib.hid hp
  have hnn0 : (0 : Int) ≤ (n : Int) := Int.natCast_nonneg _
  have HNL := Lib.hid hn
  clear q1 q2 q3 q4 hr hca hw2 hw3 hsz2 hp hh
  go_enter Try.func81, Try.ntmps81
  go_wp2_with fail
  rw [HW2.out, HW3.out]
  clear HW2 HW3
  refine (HHV.out _ A c _ HR.out).mono ?_
  rintro e w4 ⟨rfl, hc4⟩
  replace HBP := Lib.hid (HBP.out.chg hc4 (fun x => x))
  replace HBR := Lib.hid (HBR.out.chg hc4 (fun x => x))
  replace HC := Lib.hid (HC.out.trans hc4)
  clear hc4 HBH
  have hbp := HBP.out
  have p0 : w4.cell? ⟨(w.heap.size + 1), 0, none⟩ = some (.bool fu) := (hbp.cell _).trans rfl
  have p1 : w4.cell? ⟨(w.heap.size + 1), 1, none⟩ = some (.int .i64 fi) := (hbp.cell _).trans rfl
  have p2 : w4.cell? ⟨(w.heap.size + 1), 2, none⟩ = some (.int .i64 pl) := (hbp.cell _).trans rfl
  have p3 : w4.cell? ⟨(w.heap.size + 1), 3, none⟩ = some (.int .i64 va) := (hbp.cell _).trans rfl
  have p4 : w4.cell? ⟨(w.heap.size + 1), 4, none⟩ = some (.int .i64 st) := (hbp.cell _).trans rfl
  clear hbp
  go_wp2_with fail
  refine (l1In_t (n : Int) 0 2 _ ⟨by omega, by have := HNL.out; omega⟩).mono ?_
  rintro e w' ⟨rfl, rfl⟩
  go_wp2_with fail
  refine (sPageValid_f ⟨fu, fi, pl, va, st⟩ _ HP.out).mono ?_
  rintro e w5 ⟨rfl, hc5⟩
  have HC5 := Lib.hid (HC.out.trans hc5)
  have hca := (Chg.refl NoB w5).alloc (.cells #[] 67)
  have hbr := (HBR.out.chg hc5 (fun x => x)).chg hca (fun x => x)
  have HLT := Lib.hid ((HBR.out.chg hc5 (fun x => x)).lt)
  have r0 : (w5.alloc (.cells #[] 67)).cell? ⟨(w.heap.size + 1 + 1), 0, none⟩ = some (.int .i64 0) := (hbr.cell _).trans rfl
  have rf0 := hbr.frozen 0
  have r1 : (w5.alloc (.cells #[] 67)).cell? ⟨(w.heap.size + 1 + 1), 1, none⟩ = some (.int .i64 0) := (hbr.cell _).trans rfl
  have rf1 := hbr.frozen 1
  have r2 : (w5.alloc (.cells #[] 67)).cell? ⟨(w.heap.size + 1 + 1), 2, none⟩ = some (.int .i64 0) := (hbr.cell _).trans rfl
  have rf2 := hbr.frozen 2
  clear hc5 hca hbr p0 p1 p2 p3 p4
  go_wp2_with fail
  (try simp only [Exit.inBlock, Exit.then])
  refine bodyPost_ret (v := .tuple #[.slice (some ⟨w5.heap.size, 0, none⟩) 0 0, hval ⟨0, 0, 0⟩, .int .i64 (-1)]) (by simp [results, Try.results81, go_sem, *]) rfl ?_
  exact ⟨_, _, rfl, (HC5.out.alloc _).own (chg3h (F := (· = w.heap.size + 1 + 1)) (g := w.heap.size + 1 + 1) (Chg.refl _ _) (.inl rfl)) (by omega)⟩
end Go.Proofs.Ytpiojofmflfkkaa
/- What CleanBlock gives, how large it is. No program is named here. -/
namespace Go.Proofs.Ytpiojofmflfkkaa
theorem cbRun_inv {D : List Bk} {X : List (List Int)} {n L : Nat} {s : Int} (hd : DvOk D) (hn : n < D.length) (hs : 1 ≤ s) : ∀ (r k : Nat) (E : List Bk) (Y : List (List Int)) (h : Hd) (m : Nat) (E' : List Bk) (Y' : List (List Int)) (h' : Hd) (m' : Nat), k + r ≤ 4 → CbI L E Y h → cbRun D X n s r k E Y h m = some (E', Y', h', m') → CbI L E' Y' h'
  | 0, k, E, Y, h, m, E', Y', h', m', _, hi, e => by
    rw [cbRun_end] at e
    injection e with e
    injection e with e1 e
    injection e with e2 e
    injection e with e3 e4
    subst e1 e2 e3
    exact hi
  | r + 1, k, E, Y, h, m, E', Y', h', m', hk, hi, e => by
    by_cases hh : hitAt D X n k
    · by_cases hb : 1000000 < s + (m : Int)
      · rw [cbRun_big hh hb] at e; cases e
      · have hp := stamped_ok hd (x := 4 * n + k) (by omega) hh.1 (s := s + (m : Int)) (by omega) hb
        by_cases hz : (appendPage E h ((2 : Nat) : Int) (stamped (pgAt D (4 * n + k)) (s + (m : Int)))).2.2 < 0
        · rw [cbRun_stop hh hz] at e; cases e
        · rw [cbRun_step hh hb hz] at e
          exact cbRun_inv hd hn hs r (k + 1) _ _ _ _ E' Y' h' m' (by omega) (CbI.step hi hp.1 hp.2 hz).1 e
    · rw [cbRun_skip hh] at e
      exact cbRun_inv hd hn hs r (k + 1) E Y h m E' Y' h' m' (by omega) hi e
/-- The three ways that CleanBlock ends. -/
theorem clean_cases (D : List Bk) (X : List (List Int)) (h : Hd) (n s : Int) :
    (¬ cbOk D X h n s ∧ cleanBlock D X h n s = ⟨[], [], ⟨0, 0, 0⟩, 0, false⟩) ∨ (cbOk D X h n s ∧ cleanBlock D X h n s = ⟨D, X, h, 0, false⟩) ∨
    (cbOk D X h n s ∧ ¬ isHead h n ∧ ∃ (N : Nat) (E : List Bk) (Y : List (List Int)) (z : Hd) (m : Nat), n = (N : Int) ∧ N < D.length ∧ cbRun D X N s 4 0 D X h 0 = some (E, Y, z, m) ∧ CbI D.length E Y z ∧ (eraseAt E (N : Int)).2 = true ∧ cleanBlock D X h n s = ⟨(eraseAt E (N : Int)).1, Y, z, (m : Int), true⟩) := by
  by_cases hk : cbOk D X h n s
  · refine .inr ?_
    by_cases hi : isHead h n
    · exact .inl ⟨hk, by unfold cleanBlock; rw [if_pos hk, if_pos hi]⟩
    obtain ⟨hH, hX, hn, hs, hf⟩ := hk
    obtain ⟨N, rfl⟩ := Int.eq_ofNat_of_zero_le hn.1
    have e : cleanBlock D X h (N : Int) s = cbEnd D X h N (cbRun D X N s 4 0 D X h 0) := by
      unfold cleanBlock
      rw [if_pos ⟨hH, hX, hn, hs, hf⟩, if_neg hi]
      rfl
    cases hr : cbRun D X N s 4 0 D X h 0 with
    | none => rw [hr] at e; exact .inl ⟨⟨hH, hX, hn, hs, hf⟩, e⟩
    | some q =>
      obtain ⟨E, Y, z, m⟩ := q
      rw [hr] at e
      have hci := cbRun_inv (L := D.length) hH.1 (show N < D.length by omega) hs.1 4 0 D X h 0 E Y z m (by omega) ⟨hH, rfl, hX, hf⟩ hr
      by_cases he : (eraseAt E (N : Int)).2 = true
      · refine .inr ⟨⟨hH, hX, hn, hs, hf⟩, hi, N, E, Y, z, m, rfl, by omega, hr, hci, he, ?_⟩
        rw [e]; exact if_pos he
      · refine .inl ⟨⟨hH, hX, hn, hs, hf⟩, ?_⟩
        rw [e]; exact if_neg he
  · exact .inl ⟨hk, by unfold cleanBlock; rw [if_neg hk]⟩
theorem devSize_four {E : List Bk} (h : ∀ b ∈ E, b.pages.length = 4) : devSize E = 5 * E.length := by
  unfold devSize
  have : (E.map fun b => b.pages.length).sum = 4 * E.length := by
    induction E with
    | nil => rfl
    | cons b E ih =>
      rw [List.map_cons, List.sum_cons, ih (fun q hq => h q (List.mem_cons_of_mem _ hq)), h b (List.mem_cons_self ..), List.length_cons]
      omega
  rw [this]; omega
theorem total_ok {Y : List (List Int)} (h : tabOk Y) : total Y = 56 := by
  have h6 : ∀ r ∈ Y, r.length = 6 := fun r hr => by
    obtain ⟨k, hk, rfl⟩ := List.getElem_of_mem hr
    exact (h.2 k hk).1
  have key : ∀ Z : List (List Int), (∀ r ∈ Z, r.length = 6) → (Z.map List.length).sum = 6 * Z.length := by
    intro Z
    induction Z with
    | nil => intro _; rfl
    | cons b Z ih =>
      intro hz
      rw [List.map_cons, List.sum_cons, ih (fun q hq => hz q (List.mem_cons_of_mem _ hq)), hz b (List.mem_cons_self ..), List.length_cons]
      omega
  unfold total
  rw [key Y h6, h.1]
theorem erased_four {E : List Bk} {k : Nat} (h : DvOk E) (hk : k < E.length) : ∀ b ∈ (eraseAt E (k : Int)).1, b.pages.length = 4 := by
  rw [eraseAt_yes h hk]
  intro b hb
  rcases List.mem_or_eq_of_mem_set hb with h1 | rfl
  · obtain ⟨j, hj, rfl⟩ := List.getElem_of_mem h1
    exact (h.2 j hj).2.1
  · have h1 := h.2 k hk
    by_cases h2 : E[k].wear = 100
    · rw [eraseBlock_old h1 h2]; exact h1.2.1
    · rw [eraseBlock_new h1 h2]; simp
theorem erased_len {E : List Bk} {k : Nat} (h : DvOk E) (hk : k < E.length) : (eraseAt E (k : Int)).1.length = E.length := by
  rw [eraseAt_yes h hk, List.length_set]
theorem clean_small (D : List Bk) (X : List (List Int)) (h : Hd) (n s : Int) (hD : devSize D ≤ 1048576) (hX : total X ≤ 1048576) :
    devSize (cleanBlock D X h n s).dev ≤ 1048576 ∧ total (cleanBlock D X h n s).tab ≤ 1048576 := by
  rcases clean_cases D X h n s with ⟨-, e⟩ | ⟨-, e⟩ | ⟨-, -, N, E, Y, z, m, rfl, hN, hr, hci, he, e⟩
  · rw [e]; simp [devSize, total]
  · rw [e]; exact ⟨hD, hX⟩
  · rw [e]
    simp only
    have hN' : N < E.length := by rw [hci.len]; exact hN
    rw [devSize_four (erased_four hci.ok.1 hN'), erased_len hci.ok.1 hN', total_ok hci.tab]
    have := hci.ok.1.1.2
    omega
theorem size_small {D : List Bk} (h : devSize D ≤ 1048576) : Small D := ⟨by have := devSize_len D; omega, fun k hk => by have := devSize_page D k hk; omega⟩
theorem total_small {X : List (List Int)} (h : total X ≤ 1048576) : X.length ≤ 9223372036854775807 ∧ ∀ r ∈ X, r.length ≤ 9223372036854775807 := by
  refine ⟨by unfold total at h; omega, fun r hr => ?_⟩
  obtain ⟨k, hk, rfl⟩ := List.getElem_of_mem hr
  have := total_row X k hk
  omega
end Go.Proofs.Ytpiojofmflfkkaa
/- slices.Sort at []int, off the shelf: what it leaves is a permutation. -/
namespace Go.Proofs.Ytpiojofmflfkkaa
open Go.RowKit
section
open Go.Shelf
def lays189_ren : Go.Shelf.Ren := ⟨fun | 189 => 151 | 125 => 165 | 257 => 164 | 128 => 177 | 129 => 178 | 294 => 168 | 295 => 169 | 296 => 170 | 297 => 171 | 298 => 172 | 299 => 173 | 216 => 174 | 300 => 175 | 301 => 176 | 328 => 180 | 329 => 181 | 330 => 182 | 331 => 183 | 332 => 184 | 215 => 154 | 343 => 186 | n => n, fun | 28 => 24 | 3 => 3 | 46 => 180 | 0 => 0 | 51 => 193 | 53 => 195 | 4 => 4 | 183 => 185 | 182 => 184 | 131 => 190 | 5 => 5 | 9 => 9 | 218 => 196 | 222 => 200 | 228 => 202 | 229 => 203 | n => n, fun | n => n⟩
theorem lays189 : Go.Proofs.Lays.n189 Try.prog lays189_ren := {
  mixed := by kernel_rfl
  f125 := Try.func165.trans (congrArg some (by kernel_rfl))
  f128 := Try.func177.trans (congrArg some (by kernel_rfl))
  f129 := Try.func178.trans (congrArg some (by kernel_rfl))
  f189 := Try.func151.trans (congrArg some (by kernel_rfl))
  f215 := Try.func154.trans (congrArg some (by kernel_rfl))
  f216 := Try.func174.trans (congrArg some (by kernel_rfl))
  f257 := Try.func164.trans (congrArg some (by kernel_rfl))
  f294 := Try.func168.trans (congrArg some (by kernel_rfl))
  f295 := Try.func169.trans (congrArg some (by kernel_rfl))
  f296 := Try.func170.trans (congrArg some (by kernel_rfl))
  f297 := Try.func171.trans (congrArg some (by kernel_rfl))
  f298 := Try.func172.trans (congrArg some (by kernel_rfl))
  f299 := Try.func173.trans (congrArg some (by kernel_rfl))
  f300 := Try.func175.trans (congrArg some (by kernel_rfl))
  f301 := Try.func176.trans (congrArg some (by kernel_rfl))
  f328 := Try.func180.trans (congrArg some (by kernel_rfl))
  f329 := Try.func181.trans (congrArg some (by kernel_rfl))
  f330 := Try.func182.trans (congrArg some (by kernel_rfl))
  f331 := Try.func183.trans (congrArg some (by kernel_rfl))
  f332 := Try.func184.trans (congrArg some (by kernel_rfl))
  f343 := Try.func186.trans (congrArg some (by kernel_rfl))
  t0 := Try.underlying0
  a0 := Try.isAgg0
  z0 := Try.sizeOf0
  v0 := Try.zeroValue0
  t3 := Try.underlying3
  a3 := Try.isAgg3
  z3 := Try.sizeOf3
  v3 := Try.zeroValue3
  t4 := Try.underlying4
  a4 := Try.isAgg4
  z4 := Try.sizeOf4
  v4 := Try.zeroValue4
  t5 := Try.underlying5
  a5 := Try.isAgg5
  z5 := Try.sizeOf5
  v5 := Try.zeroValue5
  t9 := Try.underlying9
  a9 := Try.isAgg9
  z9 := Try.sizeOf9
  v9 := Try.zeroValue9
  t28 := Try.underlying24
  a28 := Try.isAgg24
  z28 := Try.sizeOf24
  v28 := Try.zeroValue24
  t46 := Try.underlying180
  a46 := Try.isAgg180
  z46 := Try.sizeOf180
  v46 := Try.zeroValue180
  t51 := Try.underlying193
  a51 := Try.isAgg193
  z51 := Try.sizeOf193
  v51 := Try.zeroValue193
  t53 := Try.underlying195
  a53 := Try.isAgg195
  z53 := Try.sizeOf195
  v53 := Try.zeroValue195
  t131 := Try.underlying190
  a131 := Try.isAgg190
  z131 := Try.sizeOf190
  v131 := Try.zeroValue190
  t182 := Try.underlying184
  a182 := Try.isAgg184
  z182 := Try.sizeOf184
  v182 := Try.zeroValue184
  t183 := Try.underlying185
  a183 := Try.isAgg185
  z183 := Try.sizeOf185
  v183 := Try.zeroValue185
  t218 := Try.underlying196
  a218 := Try.isAgg196
  z218 := Try.sizeOf196
  v218 := Try.zeroValue196
  t222 := Try.underlying200
  a222 := Try.isAgg200
  z222 := Try.sizeOf200
  v222 := Try.zeroValue200
  t228 := Try.underlying202
  a228 := Try.isAgg202
  z228 := Try.sizeOf202
  v228 := Try.zeroValue202
  t229 := Try.underlying203
  a229 := Try.isAgg203
  z229 := Try.sizeOf203
  v229 := Try.zeroValue203 }
open Go.Sort Go.RowKit in
theorem slices_Sort_int (blk off cap : Nat) (zs : List Int) (w : World) (hH : Holds (Value.int .i64) w blk off zs.toArray) (hblk : blk < w.heap.size) (hsz : zs.length < 4611686018427387904) :
    Calls Try.prog 151 #[.slice (some ⟨blk, off, none⟩) zs.length cap] w fun e w' =>
      e = .returned (.tuple #[]) ∧ ∃ n os, w' = grow (putRow (Value.int .i64) (Sort.ahead w n) blk off (zs.mergeSort fun x y => decide (x ≤ y)).toArray) os := Any.slices_Sort_int lays189 blk off cap zs w hH hblk hsz
open Go.RowKit Go.Sort in
/-- .. and plain. (LAID: no walk: one application.) -/
theorem slices_Sort_int_none (p : Option Addr) (cap : Nat) (w : World) :
    Calls Try.prog 151 #[.slice p 0 cap] w fun e w' => e = .returned (.tuple #[]) ∧ w' = w := Any.slices_Sort_int_none lays189 p cap w
end
theorem put_cells (zs ys : List Int) (rest : List Value) (h : ys.length = zs.length) : Go.Sort.putCells (Value.int .i64) 0 ys.toArray (icells zs ++ rest).toArray = (icells ys ++ rest).toArray := by
  apply Array.ext'
  apply List.ext_getElem?
  intro j
  have hl : (icells zs).length = zs.length := icells_length zs
  have hl2 : (icells ys).length = ys.length := icells_length ys
  by_cases h1 : j < ys.length
  · rw [List.getElem?_append_left (by omega)]
    have h3 : j < zs.length := by omega
    have h4 : (icells zs ++ rest)[j]? = some (Value.int .i64 zs[j]) := by
      rw [List.getElem?_append_left (by omega)]
      simp [icells, h3]
    simp [Go.Sort.putCells, h1, h4]
    simp [icells, h1]
  · rw [List.getElem?_append_right (by omega)]
    simp [Go.Sort.putCells, h1]
    rw [List.getElem?_append_right (by omega), hl, hl2, h]
theorem sort_ints (g c : Nat) (zs : List Int) (rest : List Value) (w : World) (hb : Blk w g 3 (icells zs ++ rest).toArray) (hl : zs.length ≤ 1000) :
    Calls Try.prog 151 #[.slice (some ⟨g, 0, none⟩) zs.length c] w fun e w' => ∃ ys : List Int, e = .returned (.tuple #[]) ∧ ys.Perm zs ∧ Blk w' g 3 (icells ys ++ rest).toArray ∧ Chg (· = g) w w' := by
  have hH : Go.Sort.Holds (Value.int .i64) w g 0 zs.toArray := Go.holds_of_blockI hb (by
    show (icells zs ++ rest).take zs.length = _
    rw [List.take_append_of_le_length (by rw [icells_length]; exact Nat.le_refl _), List.take_of_length_le (by rw [icells_length]; exact Nat.le_refl _)]
    rfl)
  refine (slices_Sort_int g 0 c zs w hH hb.lt (by omega)).mono ?_
  rintro e w' ⟨rfl, n, os, rfl⟩
  refine ⟨zs.mergeSort fun x y => decide (x ≤ y), rfl, List.mergeSort_perm .., ?_, ?_⟩
  · have h1 := Go.heap_sortedI (w := w) (n := n) (os := os) (zs.mergeSort fun x y => decide (x ≤ y)).toArray hb
    rw [put_cells _ _ _ (List.length_mergeSort ..)] at h1
    exact h1
  · exact (Chg.refl (· = g) w).grown (Go.grownBy_sortedI (g := g) (n := n) (os := os) (zs.mergeSort fun x y => decide (x ≤ y)).toArray) (fun k hk => .inl (by injection hk with hk; exact hk.symm))
theorem sort_none (A : Option Addr) (c : Nat) (w : World) : Calls Try.prog 151 #[.slice A 0 c] w fun e w' => e = .returned (.tuple #[]) ∧ Chg NoB w w' :=
  (slices_Sort_int_none A c w).mono fun e w' ⟨h1, h2⟩ => ⟨h1, by rw [h2]; exact Chg.refl _ _⟩
end Go.Proofs.Ytpiojofmflfkkaa
/- UsedPages and BlockCounts of the program, on a device and a table that are valid. -/
namespace Go.Proofs.Ytpiojofmflfkkaa
open Go.RowKit
def usedOf (l : List Int) : List Int := l.filter fun x => decide (0 ≤ x)
theorem usedOf_hit (l : List Int) {x : Int} (h : 0 ≤ x) : usedOf (l ++ [x]) = usedOf l ++ [x] := by
  unfold usedOf
  rw [List.filter_append]
  simp [h]
theorem usedOf_miss (l : List Int) {x : Int} (h : ¬ 0 ≤ x) : usedOf (l ++ [x]) = usedOf l := by
  unfold usedOf
  rw [List.filter_append]
  simp [h]
theorem usedOf_len (l : List Int) : (usedOf l).length ≤ l.length := List.length_filter_le _ _
theorem flat_len6 {X : List (List Int)} (hX : tabOk X) : ∀ k, k ≤ 8 → (X.take k).flatten.length = 6 * k
  | 0, _ => by simp
  | k + 1, h => by
    have hk : k < X.length := by rw [hX.1]; omega
    rw [take_flat_succ X k hk, List.length_append, flat_len6 hX k (by omega), (hX.2 k hk).1]
    omega
theorem used_mem {X : List (List Int)} {x : Int} (h : x ∈ usedOf X.flatten) : 0 ≤ x := by
  unfold usedOf at h
  exact of_decide_eq_true (List.mem_filter.1 h).2
theorem used_range {X : List (List Int)} (hX : tabOk X) {x : Int} (h : x ∈ usedOf X.flatten) : 0 ≤ x ∧ x ≤ 47 := by
  refine ⟨used_mem h, ?_⟩
  unfold usedOf at h
  have h1 := (List.mem_filter.1 h).1
  obtain ⟨r, hr, hx⟩ := List.mem_flatten.1 h1
  obtain ⟨f, hf, rfl⟩ := List.getElem_of_mem hr
  obtain ⟨p, hp, rfl⟩ := List.getElem_of_mem hx
  exact ((hX.2 f hf).2 p hp).2.1
set_option maxRecDepth 100000 in
set_option maxHeartbeats 2000000 in
theorem iUsedPages_any (F : Nat → Prop) (A : Option Addr) (c : Nat) (X : List (List Int)) (w : World) (h : TabR F w A X) (hX : tabOk X) :
    Calls Try.prog 101 #[.agg #[.slice A X.length c]] w fun e w' => ∃ A' c' ys, e = .returned (.slice A' (ys : List Int).length c') ∧ ys.Perm (usedOf X.flatten) ∧ Rd (fun i => w.heap.size ≤ i) w' A' (icells ys) ∧ ys.length ≤ 48 ∧ Chg NoB w w' := by
  obtain ⟨j0, hj, hy0, hy1, hy2⟩ := info_parts info_int
  have hca := (Chg.refl NoB w).alloc (.cells #[.slice A X.length c] 31)
  have HB := Lib.hid (Blk.new w 31 #[.slice A X.length c])
  have HT0 := Lib.hid h.lt
  have HC := Lib.hid hca
  have HX := Lib.hid hX
  have HL8 := Lib.hid hX.1
  clear h hca hX
  go_enter Try.func101, Try.ntmps101
  go_wp2_with fail
  refine (iTableValid_any _ A c X _ (HT0.out.new HC.out)).mono ?_
  rintro e w1 ⟨r, rfl, hr, hc1⟩
  obtain rfl : r = true := hr.2 HX.out
  have hb1 := HB.out.chg hc1 (fun x => x)
  have x0 : w1.cell? ⟨w.heap.size, 0, none⟩ = some (.slice A 8 c) := by rw [← HL8.out]; exact (hb1.cell _).trans rfl
  have HC1 := Lib.hid (HC.out.trans hc1)
  have HS1 := Lib.hid hb1.lt
  clear hr hb1 hc1
  go_wp2_with fail
  go_loopw [3, 14] (fun v i wr => ∃ k : Nat, k ≤ 8 ∧ i = .int .i64 k ∧ Chg NoB w wr ∧ wr.ownsRow (w.heap.size + 1) 3 1 v (usedOf (X.take k).flatten).length (icells (usedOf (X.take k).flatten))) (fun _ i _ => 8 - (intOf i).toNat)
  case atStart => exact ⟨0, Nat.zero_le _, rfl, HC1.out, World.ownsRow_nil _ _ _ _⟩
  case round =>
    obtain ⟨k, hk, rfl, hch, how⟩ := hrel
    have HCH := Lib.hid hch
    have HO := Lib.hid how
    have k0 : (0 : Int) ≤ (k : Int) := Int.natCast_nonneg _
    clear how
    by_cases hlt : k < 8
    · obtain ⟨ad, B, c', rfl, hcellw, hrowsw⟩ := tab_row HT0.out HX.out hlt
      have hcell := hch.cell hcellw (fun x => x)
      have x0' := x0
      have k1 : (k : Int) < 8 := by omega
      have hkX : k < X.length := by rw [HL8.out]; exact hlt
      have h6 := (HX.out.2 k hkX).1
      have HFL := Lib.hid (take_flat_succ X k hkX)
      have HPL := Lib.hid (flat_len6 HX.out k hk)
      have HGET := Lib.hid (show ∀ (m : Nat) (x : Int), X[k][m]? = some x → m < 6 → w.cell? (B.add m) = some (.int .i64 x) from fun m x hm h6 => by
        obtain ⟨h1, h2, h3⟩ := tget_get HX.out hlt h6
        rw [List.getElem?_eq_getElem h2] at hm
        rw [hrowsw m h6, ← h3, Option.some.inj hm])
      obtain ⟨row, hrow⟩ : ∃ row, X[k] = row := ⟨_, rfl⟩
      obtain ⟨pre, hpre⟩ : ∃ pre, (X.take k).flatten = pre := ⟨_, rfl⟩
      have H6 := Lib.hid h6
      rw [hrow] at HFL H6 HGET
      rw [hpre] at HO HFL HPL
      clear hch h6 hrow hpre hcellw hrowsw x0'
      go_wp2_with fail
      go_loopw [3, 20] (fun v i wi => ∃ m : Nat, m ≤ 6 ∧ i = .int .i64 m ∧ Chg NoB w wi ∧ wi.ownsRow (w.heap.size + 1) 3 1 v (usedOf (pre ++ row.take m)).length (icells (usedOf (pre ++ row.take m)))) (fun _ i _ => 6 - (intOf i).toNat)
      case atStart => exact ⟨0, Nat.zero_le _, rfl, HCH.out, by rw [List.take_zero, List.append_nil]; exact HO.out⟩
      case round =>
        obtain ⟨m, hm, rfl, hci, how⟩ := hrel
        have HCI := Lib.hid hci
        have HOI := Lib.hid how
        have m0 : (0 : Int) ≤ (m : Int) := Int.natCast_nonneg _
        clear how
        by_cases hlm : m < 6
        · have m1 : (m : Int) < 6 := by omega
          have hml : m < row.length := by rw [H6.out]; exact hlm
          have ck := hci.cell (HGET.out m row[m] (List.getElem?_eq_getElem hml) hlm) (fun x => x)
          have HST := Lib.hid (seen_step pre row m hml)
          have HUL := Lib.hid (show (usedOf (pre ++ row.take m)).length ≤ 48 by have h1 := usedOf_len (pre ++ row.take m); rw [List.length_append, HPL.out, List.length_take] at h1; omega)
          have HSZ := Lib.hid hci.size
          generalize row[m] = x at ck HST
          obtain ⟨us, hus⟩ : ∃ us, pre ++ row.take m = us := ⟨_, rfl⟩
          rw [hus] at HOI HST HUL
          have hul := HUL.out
          have hsz := HSZ.out
          clear hci hus
          by_cases hx : 0 ≤ x
          · have HHIT := Lib.hid (usedOf_hit us hx)
            go_wp2_with (at_builtin; refine wpList_append_own _ rfl (.tmp 26) (.tmp 28) _ rfl (w.heap.size + 1) 3 j0 (.int .i64 0) 1 8 Try.underlying24 hj hy0 hy1 hy2 rfl (by decide) _ _ _ rfl (HOI.out.alloc _) ⟨wr.heap.size, 0, none⟩ 1 1 [.int .i64 x] rfl rfl (cells_new _ _ _) (by simp [Value.oneCell']) (by simp only [maxLen]; omega) (by omega) (by simp; omega) ?_; intro v' w8 hown' hgrow _)
            go_roundw
            case rel =>
              refine ⟨m + 1, by omega, by go_num, ((HCI.out.alloc _).trans' (chg_grownB (HOI.out.alloc _) hgrow) (fun i hi => .inr (by have hi' : w.heap.size + 1 ≤ i := hi; omega))), ?_⟩
              rw [HST.out, HHIT.out]
              have e1 : icells (usedOf us ++ [x]) = icells (usedOf us) ++ [Value.int .i64 x] := by simp [icells]
              rw [List.length_append, e1]
              exact hown'
            case measure => simp [intOf]; omega
          · have HMISS := Lib.hid (usedOf_miss us hx)
            go_wp2_with fail
            go_roundw
            case rel =>
              refine ⟨m + 1, by omega, by go_num, HCI.out, ?_⟩
              rw [HST.out, HMISS.out]
              exact HOI.out
            case measure => simp [intOf]; omega
        · obtain rfl : m = 6 := by omega
          clear hci
          go_wp2_with fail
          go_roundw
          case rel =>
            refine ⟨k + 1, by omega, by go_num, HCI.out, ?_⟩
            have h9 := HOI.out
            rw [List.take_of_length_le (by rw [H6.out]; exact Nat.le_refl _), ← HFL.out] at h9
            exact h9
          case measure => simp [intOf]; omega
    · obtain rfl : k = 8 := by omega
      have HUL := Lib.hid (show (usedOf (X.take 8).flatten).length ≤ 48 by have h1 := usedOf_len (X.take 8).flatten; have h2 := flat_len6 HX.out 8 (Nat.le_refl 8); omega)
      have HEQ := Lib.hid (show usedOf (X.take 8).flatten = usedOf X.flatten by rw [List.take_of_length_le (by rw [HL8.out]; exact Nat.le_refl _)])
      obtain ⟨A', c', hv, ho⟩ := OwnS.of_row HO.out
      subst hv
      obtain ⟨us, hus⟩ : ∃ us, usedOf (X.take 8).flatten = us := ⟨_, rfl⟩
      rw [hus] at HEQ HUL ho ⊢
      have HOC := Lib.hid ho.1
      clear hch HO hus
      rcases ho.2 with ⟨h0, -⟩ | ⟨g, rest, rfl, hg, hE, hb⟩
      · have hus : us = [] := List.eq_nil_of_length_eq_zero h0
        subst hus
        clear ho
        go_wp2_with fail
        refine (sort_none A' c' _).mono ?_
        rintro e w5 ⟨rfl, hc5⟩
        have HC5 := Lib.hid (HCH.out.trans hc5)
        clear hc5
        go_wp2_with fail
        go_ret
        exact ⟨A', c', [], rfl, by rw [← HEQ.out], fun j v hj => by simp [icells] at hj, Nat.zero_le _, HC5.out⟩
      · have HBG := Lib.hid hb
        have HGG := Lib.hid (And.intro hg hE)
        have hul := HUL.out
        clear ho hb hg hE
        go_wp2_with fail
        refine (sort_ints g c' us rest _ HBG.out (by omega)).mono ?_
        rintro e w5 ⟨ys, rfl, hp, hb5, hc5⟩
        have HB5 := Lib.hid hb5
        have HP := Lib.hid hp
        have HC5 := Lib.hid (HCH.out.own hc5 (by have := HGG.out.1; omega))
        clear hb5 hp hc5
        go_wp2_with fail
        go_ret
        have hl := HP.out.length_eq
        refine ⟨some ⟨g, 0, none⟩, c', ys, congrArg (fun q => Ending.returned (.slice (some ⟨g, 0, none⟩) q c')) hl.symm, by rw [← HEQ.out]; exact HP.out, ?_, by omega, HC5.out⟩
        exact (OwnS.rd (B := w.heap.size) (E := w5.heap.size) (n := ys.length) (c := c') ⟨by rw [hl]; exact HOC.out, .inr ⟨g, rest, rfl, by have := HGG.out.1; omega, HB5.out.lt, HB5.out⟩⟩).mono (fun i _ hi => hi.1)
end Go.Proofs.Ytpiojofmflfkkaa
/- BlockCounts of the program, on a device and a table that are valid. -/
namespace Go.Proofs.Ytpiojofmflfkkaa
open Go.RowKit
def cntB (D : List Bk) (q : Nat) (x : Int) : Bool := decide (x < 4 * (D.length : Int) ∧ (pgAt D x.toNat).full = true ∧ x.toNat / 4 = q)
def cntD (D : List Bk) (l : List Int) (q : Nat) : Nat := (l.filter (cntB D q)).length
def cnts (D : List Bk) (l : List Int) : List Int := (List.range D.length).map fun q => ((cntD D l q : Nat) : Int)
theorem cnts_len (D : List Bk) (l : List Int) : (cnts D l).length = D.length := by simp [cnts]
theorem cnts_get (D : List Bk) (l : List Int) {q : Nat} (h : q < D.length) : (cnts D l)[q]? = some ((cntD D l q : Nat) : Int) := by
  unfold cnts
  rw [List.getElem?_map, List.getElem?_range h]
  rfl
theorem cnts_nil (D : List Bk) : cnts D [] = List.replicate D.length 0 := by
  apply List.ext_getElem
  · simp [cnts]
  · intro i h1 h2
    simp [cnts, cntD]
theorem cntD_snoc (D : List Bk) (l : List Int) (x : Int) (q : Nat) : cntD D (l ++ [x]) q = cntD D l q + (if cntB D q x = true then 1 else 0) := by
  unfold cntD
  rw [List.filter_append, List.length_append]
  congr 1
  by_cases h : cntB D q x = true
  · simp [h]
  · simp [h]
theorem cntD_le (D : List Bk) (l : List Int) (q : Nat) : cntD D l q ≤ l.length := List.length_filter_le _ _
theorem cntD_perm {D : List Bk} {l l' : List Int} (h : l.Perm l') (q : Nat) : cntD D l q = cntD D l' q := (h.filter _).length_eq
theorem cnts_perm {D : List Bk} {l l' : List Int} (h : l.Perm l') : cnts D l = cnts D l' := by
  unfold cnts
  apply List.map_congr_left
  intro q _
  rw [cntD_perm h]
theorem cnts_skip {D : List Bk} {l : List Int} {x : Int} (h : ¬ (x < 4 * (D.length : Int) ∧ (pgAt D x.toNat).full = true)) : cnts D (l ++ [x]) = cnts D l := by
  unfold cnts
  apply List.map_congr_left
  intro q _
  have : ¬ cntB D q x = true := by
    unfold cntB
    rw [decide_eq_true_iff]
    exact fun hh => h ⟨hh.1, hh.2.1⟩
  rw [cntD_snoc, if_neg this]
  rfl
theorem cnts_hit {D : List Bk} {l : List Int} {n : Nat} (h : n < 4 * D.length) (hf : (pgAt D n).full = true) : cnts D (l ++ [(n : Int)]) = (cnts D l).set (n / 4) (((cntD D l (n / 4) : Nat) : Int) + 1) := by
  apply List.ext_getElem?
  intro q
  rw [List.getElem?_set]
  by_cases hq : q < D.length
  · rw [cnts_get _ _ hq, cnts_get _ _ hq, cntD_snoc]
    have e : cntB D q (n : Int) = decide (n / 4 = q) := by
      unfold cntB
      rw [Int.toNat_natCast]
      have h1 : (n : Int) < 4 * (D.length : Int) := by omega
      simp [h1, hf]
    rw [e]
    by_cases h2 : n / 4 = q
    · subst h2
      rw [if_pos rfl, cnts_len, if_pos hq, if_pos (by simp)]
      simp
    · rw [if_neg h2, if_neg (by simp [h2])]
      simp
  · have h1 : ∀ l', (cnts D l')[q]? = none := fun l' => List.getElem?_eq_none (by rw [cnts_len]; omega)
    rw [h1, h1]
    split
    · rw [cnts_len, if_neg (by omega)]
    · rfl
theorem run_full (p : Pg) (w : World) : Sem.run Try.prog (Instr.field 80 (pval p) 0) w = .ok (.bool p.full) w := by kernel_rfl
set_option maxRecDepth 100000 in
set_option maxHeartbeats 2000000 in
theorem iBlockCounts_any (F G : Nat → Prop) (A0 : Option Addr) (c0 : Nat) (D : List Bk) (A : Option Addr) (c : Nat) (X : List (List Int)) (w : World) (hr : DevR F w A0 D) (hd : DvOk D) (h : TabR G w A X) (hX : tabOk X) :
    Calls Try.prog 37 #[.slice A0 D.length c0, .agg #[.slice A X.length c]] w fun e w' => ∃ g, e = .returned (.slice (some ⟨g, 0, none⟩) D.length D.length) ∧ Rd (fun i => w.heap.size ≤ i) w' (some ⟨g, 0, none⟩) (icells (cnts D (usedOf X.flatten))) ∧ Chg NoB w w' := by
  obtain ⟨j0, hj, hy0, hy1, hy2⟩ := info_parts info_int
  have hca := (Chg.refl NoB w).alloc (.cells #[.slice A X.length c] 31)
  have HB := Lib.hid (Blk.new w 31 #[.slice A X.length c])
  have HT0 := Lib.hid h.lt
  have HR0 := Lib.hid hr.lt
  have HC := Lib.hid hca
  have HX := Lib.hid hX
  have HD := Lib.hid hd
  have h12 := hd.1.2
  have hmk : ∀ W, (Instr.makeSlice 24 (.int .i64 (D.length : Int)) (.int .i64 (D.length : Int))).run Try.prog W = .ok (.slice (some ⟨W.heap.size, 0, none⟩) D.length D.length) (W.alloc (.cells (reps D.length [.int .i64 0]).toArray 3)) :=
    fun W => run_make_reps (P := Try.prog) 24 3 j0 (.int .i64 0) [.int .i64 0] Try.underlying24 hj hy0 rfl hy1 D.length (by rw [hy2]; omega) (by omega) W
  clear h hca hX hd hr
  go_enter Try.func37, Try.ntmps37
  go_wp2_with fail
  refine (iDeviceValid_t _ A0 c0 D _ (HR0.out.new HC.out) HD.out).mono ?_
  rintro e w1 ⟨rfl, hc1⟩
  have HB1 := Lib.hid (HB.out.chg hc1 (fun x => x))
  have HC1 := Lib.hid (HC.out.trans hc1)
  have x0 : w1.cell? ⟨w.heap.size, 0, none⟩ = some (.slice A X.length c) := (HB1.out.cell _).trans rfl
  clear hc1
  go_wp2_with fail
  refine (iTableValid_any _ A c X _ (HT0.out.new HC1.out)).mono ?_
  rintro e w2 ⟨r, rfl, hr, hc2⟩
  obtain rfl : r = true := hr.2 HX.out
  have HC2 := Lib.hid (HC1.out.trans hc2)
  have hcb := (Chg.refl NoB w2).alloc (.cells (reps D.length [.int .i64 0]).toArray 3)
  have HV0 := Lib.hid (Blk.new w2 3 (reps D.length [.int .i64 0]).toArray)
  have HC3 := Lib.hid (HC2.out.trans hcb)
  have hb3 := (HB1.out.chg hc2 (fun x => x)).chg hcb (fun x => x)
  have x1 : (w2.alloc (.cells (reps D.length [.int .i64 0]).toArray 3)).cell? ⟨w.heap.size, 0, none⟩ = some (.slice A X.length c) := (hb3.cell _).trans rfl
  have HSV := Lib.hid HC2.out.size
  clear hr hc2 hcb hb3 x0 HB HB1
  go_wp2_with fail
  obtain ⟨V, hV⟩ : ∃ V, w2.heap.size = V := ⟨_, rfl⟩
  obtain ⟨w3, hw3⟩ : ∃ w3, w2.alloc (.cells (reps D.length [.int .i64 0]).toArray 3) = w3 := ⟨_, rfl⟩
  have hsv := HSV.out
  rw [hw3] at HV0 HC3 ⊢
  rw [hV] at HV0 hsv
  try rw [hV]
  replace HSV := Lib.hid hsv
  clear hV hw3 hsv x1
  refine (iUsedPages_any _ A c X _ (HT0.out.new HC3.out) HX.out).mono ?_
  rintro e w4 ⟨A5, c5, ys, rfl, hp, hrd, hl48, hc4⟩
  have HP := Lib.hid hp
  have HRD := Lib.hid hrd
  have HYR := Lib.hid (show ∀ y ∈ ys, 0 ≤ y ∧ y ≤ 47 from fun y hy => used_range HX.out (hp.subset hy))
  have HC4 := Lib.hid (HC3.out.trans hc4)
  have HV4 := Lib.hid (HV0.out.chg hc4 (fun x => x))
  have HL3 := Lib.hid HV0.out.lt
  clear hp hrd hc4
  go_wp2_with fail
  go_loopw [22] (fun i wr => ∃ j : Nat, j ≤ ys.length ∧ i = .int .i64 j ∧ Chg NoB w wr ∧ Chg (· = V) w4 wr ∧ Blk wr V 3 (icells (cnts D (ys.take j))).toArray) (fun i _ => ys.length - (intOf i).toNat)
  case atStart =>
    refine ⟨0, Nat.zero_le _, rfl, HC4.out, Chg.refl _ _, ?_⟩
    rw [List.take_zero, cnts_nil, icells_zeros]
    exact HV4.out
  case round =>
    obtain ⟨j, hj2, rfl, hch, hcv, hbv⟩ := hrel
    have HCH := Lib.hid hch
    have HCV := Lib.hid hcv
    have HBV := Lib.hid hbv
    have q0 : (0 : Int) ≤ (j : Int) := Int.natCast_nonneg _
    by_cases hlt : j < ys.length
    · have hl3 := HL3.out
      obtain ⟨ad, rfl, -, -, ck⟩ := ints_at (HRD.out.chg hcv (fun i h1 h2 => by have h3 : i = V := h2; omega)) hlt
      have hyr := HYR.out ys[j] (List.getElem_mem hlt)
      have HTK := Lib.hid (show ys.take (j + 1) = ys.take j ++ [ys[j]] from List.take_succ_eq_append_getElem hlt)
      generalize ys[j] = y at ck hyr HTK
      obtain ⟨n, rfl⟩ := Int.eq_ofNat_of_zero_le hyr.1
      have q1 : (j : Int) < (ys.length : Int) := by omega
      have hwl : IntKind.i64.wrap ((D.length : Int) * 4) = (D.length : Int) * 4 := IntWalk.i64_in _ ⟨by omega, by omega⟩
      have n0 : (0 : Int) ≤ (n : Int) := Int.natCast_nonneg _
      clear hch hcv hbv
      by_cases hn : n < 4 * D.length
      · have hn' : (n : Int) < (D.length : Int) * 4 := by omega
        have HPA := Lib.hid (pageAt_any _ A0 c0 D n _ (HR0.out.new HCH.out) HD.out hn)
        have HHIT := Lib.hid (fun hh => cnts_hit (D := D) (l := ys.take j) (n := n) hn hh)
        have HSKIP := Lib.hid (fun (hh : ¬ (pgAt D n).full = true) => cnts_skip (D := D) (l := ys.take j) (x := (n : Int)) (fun h9 => hh (by rw [Int.toNat_natCast] at h9; exact h9.2)))
        obtain ⟨⟨fu, pf, pp, pv, ps⟩, hP⟩ : ∃ P, pgAt D n = P := ⟨_, rfl⟩
        rw [hP] at HHIT HSKIP HPA
        replace HPA : Hid (Calls Try.prog 72 #[.slice A0 D.length c0, .int .i64 (n : Int)] wr fun e w' => e = .returned (.agg #[.bool fu, .int .i64 pf, .int .i64 pp, .int .i64 pv, .int .i64 ps]) ∧ Chg NoB wr w') := HPA
        clear hP
        have hfl : ∀ W, Sem.run Try.prog (Instr.field 80 (.agg #[.bool fu, .int .i64 pf, .int .i64 pp, .int .i64 pv, .int .i64 ps]) 0) W = .ok (.bool fu) W := fun W => run_full ⟨fu, pf, pp, pv, ps⟩ W
        go_wp2_with fail
        refine HPA.out.mono ?_
        clear HPA
        rintro e w6 ⟨rfl, hc6⟩
        have HC6 := Lib.hid (HCH.out.trans hc6)
        have HV6 := Lib.hid (HCV.out.trans (hc6.mono (fun _ _ x => x.elim)))
        have hbv := HBV.out.chg hc6 (fun x => x)
        clear hc6
        cases fu
        case false =>
          have HS := Lib.hid (HSKIP.out (by simp))
          have HBV6 := Lib.hid hbv
          clear hbv
          go_wp2_with fail
          go_roundw
          case rel =>
            refine ⟨j + 1, by omega, by go_num, HC6.out, HV6.out, ?_⟩
            rw [HTK.out, HS.out]
            exact HBV6.out
          case measure => simp [intOf]; omega
        case true =>
          have HS := Lib.hid (HHIT.out rfl)
          obtain ⟨q, hq, hqD⟩ : ∃ q : Nat, n / 4 = q ∧ q < D.length := ⟨n / 4, rfl, by omega⟩
          have hqi : (n : Int) / 4 = (q : Int) := by omega
          have hqt : (n : Int).tdiv 4 = (q : Int) := by rw [Int.tdiv_eq_ediv_of_nonneg (by omega)]; exact hqi
          have q2 : (0 : Int) ≤ (q : Int) := Int.natCast_nonneg _
          have q3 : (q : Int) < (D.length : Int) := by omega
          rw [hq] at HS
          have hcq := cnts_get D (ys.take j) hqD
          have hle := cntD_le D (ys.take j) q
          rw [List.length_take] at hle
          have y0 : w6.cell? ⟨V, q, none⟩ = some (.int .i64 ((cntD D (ys.take j) q : Nat) : Int)) := by
            rw [hbv.cell, List.getElem?_toArray, icells, List.getElem?_map, hcq]
            rfl
          have yf := hbv.frozen q
          have HBV6 := Lib.hid (show Blk (w6.setCell ⟨V, q, none⟩ (.int .i64 (((cntD D (ys.take j) q : Nat) : Int) + 1))) V 3 (icells ((cnts D (ys.take j)).set q (((cntD D (ys.take j) q : Nat) : Int) + 1))).toArray by
            have h9 := hbv.set_ q (.int .i64 (((cntD D (ys.take j) q : Nat) : Int) + 1))
            rw [icells_set]
            rw [List.setIfInBounds_toArray] at h9
            exact h9)
          obtain ⟨cn, hcn⟩ : ∃ cn : Nat, cntD D (ys.take j) q = cn := ⟨_, rfl⟩
          rw [hcn] at HS y0 HBV6 hle
          have hwc : IntKind.i64.wrap ((cn : Int) + 1) = (cn : Int) + 1 := IntWalk.i64_in _ ⟨by omega, by omega⟩
          have HST := Lib.hid (show Chg (· = V) w6 (w6.setCell ⟨V, q, none⟩ (.int .i64 ((cn : Int) + 1))) from (Chg.refl (· = V) _).setCell (p := ⟨V, q, none⟩) (.inl rfl) _)
          clear hbv hcq hcn hq
          go_wp2_with fail
          go_roundw
          case rel =>
            refine ⟨j + 1, by omega, by go_num, HC6.out.own HST.out (by have := HSV.out; omega), HV6.out.trans HST.out, ?_⟩
            rw [HTK.out, HS.out]
            exact HBV6.out
          case measure => simp [intOf]; omega
      · have hn' : ¬ ((n : Int) < (D.length : Int) * 4) := by omega
        have HS := Lib.hid (cnts_skip (D := D) (l := ys.take j) (x := (n : Int)) (fun h9 => hn (by have := h9.1; omega)))
        go_wp2_with fail
        go_roundw
        case rel =>
          refine ⟨j + 1, by omega, by go_num, HCH.out, HCV.out, ?_⟩
          rw [HTK.out, HS.out]
          exact HBV.out
        case measure => simp [intOf]; omega
    · obtain rfl : j = ys.length := by omega
      clear hch hcv hbv
      go_wp2_with fail
      go_ret
      refine ⟨V, rfl, ?_, HCH.out⟩
      have hb := HBV.out
      rw [List.take_length, cnts_perm HP.out] at hb
      exact (OwnS.rd (B := w.heap.size) (E := V + 1) (n := D.length) (c := D.length) (OwnS.of_blk hb HSV.out (Nat.lt_succ_self _) (Nat.le_refl _))).mono (fun i _ hi => hi.1)
end Go.Proofs.Ytpiojofmflfkkaa
/- CleanBlock, the plain law: what the files hold behind it. No program is named here. -/
namespace Go.Proofs.Ytpiojofmflfkkaa
open Go.RowKit
/-- What holds behind the first k pages of block N. -/
structure CbJ (D : List Bk) (X : List (List Int)) (N k : Nat) (E : List Bk) (Y : List (List Int)) (z : Hd) (m : Nat) : Prop where
  inv : CbI D.length E Y z
  nh : ¬ isHead z (N : Int)
  blk : E[N]? = D[N]?
  keep : ∀ x, x < 4 * D.length → (pgAt D x).full = true → pgAt E x = pgAt D x
  neg : ∀ f p, f < 8 → p < 6 → tget X f p < 0 → tget Y f p < 0
  old : ∀ f p, f < 8 → p < 6 → 0 ≤ tget X f p → (∀ j : Nat, j < k → tget X f p ≠ 4 * (N : Int) + (j : Int)) → tget Y f p = tget X f p
  new : ∀ f p (j : Nat), f < 8 → p < 6 → j < k → tget X f p = 4 * (N : Int) + (j : Int) → ∃ y : Nat, tget Y f p = (y : Int) ∧ y < 4 * D.length ∧ y / 4 ≠ N ∧ (pgAt E y).full = true ∧ (pgAt E y).value = (pgAt D (4 * N + j)).value
  cnt : m = ((List.range k).filter fun j => decide (hitAt D X N j)).length
theorem hit_places {D : List Bk} {X : List (List Int)} {N k : Nat} (hd : DvOk D) (hN : N < D.length) (hk : k < 4) (hh : hitAt D X N k) : (pgAt D (4 * N + k)).file.toNat < 8 ∧ (pgAt D (4 * N + k)).place.toNat < 6 := by
  have := (pgOk_yes hh.1).1 (pgAt_ok hd (show 4 * N + k < 4 * D.length by omega))
  omega
theorem hit_of {D : List Bk} {X : List (List Int)} {N j f p : Nat} (hf : fits D X) (h1 : f < 8) (h2 : p < 6) (h : tget X f p = 4 * (N : Int) + (j : Int)) : hitAt D X N j := by
  obtain ⟨-, h3, h4, h5⟩ := hf f h1 p h2 (by omega)
  have e : (tget X f p).toNat = 4 * N + j := by omega
  rw [e] at h3 h4 h5
  refine ⟨h3, ?_⟩
  rw [h4, h5]
  simpa using h
theorem CbJ.skip {D : List Bk} {X : List (List Int)} {N k : Nat} {E : List Bk} {Y : List (List Int)} {z : Hd} {m : Nat} (hj : CbJ D X N k E Y z m) (hf : fits D X) (hh : ¬ hitAt D X N k) : CbJ D X N (k + 1) E Y z m := by
  refine ⟨hj.inv, hj.nh, hj.blk, hj.keep, hj.neg, fun f p h1 h2 h0 hn => hj.old f p h1 h2 h0 (fun j hj => hn j (by omega)), fun f p j h1 h2 hjk he => ?_, ?_⟩
  · by_cases hjk2 : j = k
    · subst hjk2
      exact absurd (hit_of hf h1 h2 he) hh
    · exact hj.new f p j h1 h2 (by omega) he
  · rw [List.range_succ, List.filter_append, List.length_append, ← hj.cnt]
    simp [hh]
theorem CbJ.hit {D : List Bk} {X : List (List Int)} {N k : Nat} {E : List Bk} {Y : List (List Int)} {z : Hd} {m : Nat} {s : Int} (hj : CbJ D X N k E Y z m) (hd : DvOk D) (hX : tabOk X) (hN : N < D.length) (hk : k < 4) (hs : 1 ≤ s) (hh : hitAt D X N k) (hb : ¬ 1000000 < s + (m : Int))
    (hz : ¬ (appendPage E z ((2 : Nat) : Int) (stamped (pgAt D (4 * N + k)) (s + (m : Int)))).2.2 < 0) :
    CbJ D X N (k + 1) (appendPage E z ((2 : Nat) : Int) (stamped (pgAt D (4 * N + k)) (s + (m : Int)))).1 (tput Y (pgAt D (4 * N + k)).file.toNat (pgAt D (4 * N + k)).place.toNat (appendPage E z ((2 : Nat) : Int) (stamped (pgAt D (4 * N + k)) (s + (m : Int)))).2.2) (appendPage E z ((2 : Nat) : Int) (stamped (pgAt D (4 * N + k)) (s + (m : Int)))).2.1 (m + 1) := by
  have hp := stamped_ok hd (x := 4 * N + k) (by omega) hh.1 (s := s + (m : Int)) (by omega) hb
  have hst := CbI.step hj.inv hp.1 hp.2 hz
  obtain ⟨hf8, hp6⟩ := hit_places hd hN hk hh
  obtain ⟨b, hbE, hl, e, hor⟩ := app_yes hj.inv.ok (n := 2) (by omega) hp.1 hp.2 hz
  have hLE := hj.inv.len
  have hNE : N < E.length := by omega
  have hEN : E[N] = D[N] := by
    have h1 := hj.blk
    rw [List.getElem?_eq_getElem hNE, List.getElem?_eq_getElem hN] at h1
    exact Option.some.inj h1
  have hbN : b ≠ N := by
    rintro rfl
    rcases hor with h1 | ⟨h1, -⟩
    · exact hj.nh (.inr (.inr h1))
    · have h4 := (hd.2 b hN).2.1
      rw [hEN] at h1
      have h2 := hh.1
      rw [show pgAt D (4 * b + k) = D[b].pages[k] by
        have e1 : (4 * b + k) / 4 = b := by omega
        have e2 : (4 * b + k) % 4 = k := by omega
        unfold pgAt
        rw [e1, e2, getD_get _ _ hN, getD_get _ _ (by omega)]] at h2
      have := ((hd.2 b hN).2.2.full_lt (k := k) (by omega)).1 h2
      omega
  have hle := pgAt_lead hj.inv.ok.1 hbE hl
  have hwr := pgAt_write (p := stamped (pgAt D (4 * N + k)) (s + (m : Int))) hj.inv.ok.1 hbE hl
  have hlt4 : 4 * b + lead E[b].pages < 4 * D.length := by omega
  have hv : 4 * (b : Int) + (lead E[b].pages : Int) = ((4 * b + lead E[b].pages : Nat) : Int) := by omega
  have hmv : (stamped (pgAt D (4 * N + k)) (s + (m : Int))).file = (pgAt D (4 * N + k)).file := rfl
  have hmw : (stamped (pgAt D (4 * N + k)) (s + (m : Int))).place = (pgAt D (4 * N + k)).place := rfl
  rw [hmv, hmw] at hst
  have hx0 := hh.2
  have hg := good_of hX
  have hsame : ∀ f p, f < 8 → p < 6 → tget X f p = 4 * (N : Int) + (k : Int) → f = (pgAt D (4 * N + k)).file.toNat ∧ p = (pgAt D (4 * N + k)).place.toNat := fun f p h1 h2 h3 => hg.2 f p _ _ h1 h2 hf8 hp6 (by omega) (by rw [h3, hx0])
  rw [e] at hst ⊢
  simp only at hst ⊢
  refine ⟨hst.1, ?_, ?_, fun x hx hfx => ?_, fun f p h1 h2 h0 => ?_, fun f p h1 h2 h0 hn => ?_, fun f p j h1 h2 hjk he => ?_, ?_⟩
  · intro hc
    obtain ⟨c1, c2, c3⟩ := z
    rcases hc with hc | hc | hc
    · exact hj.nh (.inl hc)
    · exact hj.nh (.inr (.inl hc))
    · have hc' : (N : Int) = (b : Int) := hc
      omega
  · rw [List.getElem?_set_ne hbN]
    exact hj.blk
  · rw [hwr x (by omega), if_neg]
    · exact hj.keep x hx hfx
    · rintro rfl
      rw [hj.keep _ hx hfx, hfx] at hle
      cases hle
  · rw [tget_tput Y _ h1 h2, if_neg]
    · exact hj.neg f p h1 h2 h0
    · rintro ⟨rfl, rfl⟩
      omega
  · rw [tget_tput Y _ h1 h2, if_neg]
    · exact hj.old f p h1 h2 h0 (fun j hj2 => hn j (by omega))
    · rintro ⟨rfl, rfl⟩
      exact hn k (by omega) hx0
  · by_cases hjk2 : j = k
    · subst hjk2
      obtain ⟨rfl, rfl⟩ := hsame f p h1 h2 he
      refine ⟨4 * b + lead E[b].pages, ?_, hlt4, by omega, ?_, ?_⟩
      · rw [tget_tput Y _ h1 h2, if_pos ⟨rfl, rfl⟩, hv]
      · rw [hwr _ (by omega), if_pos rfl]
        exact hp.2
      · rw [hwr _ (by omega), if_pos rfl]
        rfl
    · obtain ⟨y, y1, y2, y3, y4, y5⟩ := hj.new f p j h1 h2 (by omega) he
      refine ⟨y, ?_, y2, y3, ?_⟩
      · rw [tget_tput Y _ h1 h2, if_neg, y1]
        rintro ⟨rfl, rfl⟩
        omega
      · have hy : y ≠ 4 * b + lead E[b].pages := by
          rintro rfl
          rw [y4] at hle
          cases hle
        rw [hwr y (by omega), if_neg hy]
        exact ⟨y4, y5⟩
  · rw [List.range_succ, List.filter_append, List.length_append, ← hj.cnt]
    simp [hh]
theorem cbRun_J {D : List Bk} {X : List (List Int)} {N : Nat} {s : Int} (hd : DvOk D) (hX : tabOk X) (hf : fits D X) (hN : N < D.length) (hs : 1 ≤ s) : ∀ (r k : Nat) (E : List Bk) (Y : List (List Int)) (h : Hd) (m : Nat) (E' : List Bk) (Y' : List (List Int)) (h' : Hd) (m' : Nat), k + r ≤ 4 → CbJ D X N k E Y h m → cbRun D X N s r k E Y h m = some (E', Y', h', m') → CbJ D X N (k + r) E' Y' h' m'
  | 0, k, E, Y, h, m, E', Y', h', m', _, hi, e => by
    rw [cbRun_end] at e
    injection e with e
    injection e with e1 e
    injection e with e2 e
    injection e with e3 e4
    subst e1 e2 e3 e4
    exact hi
  | r + 1, k, E, Y, h, m, E', Y', h', m', hk, hi, e => by
    by_cases hh : hitAt D X N k
    · by_cases hb : 1000000 < s + (m : Int)
      · rw [cbRun_big hh hb] at e; cases e
      · by_cases hz : (appendPage E h ((2 : Nat) : Int) (stamped (pgAt D (4 * N + k)) (s + (m : Int)))).2.2 < 0
        · rw [cbRun_stop hh hz] at e; cases e
        · rw [cbRun_step hh hb hz] at e
          have := cbRun_J hd hX hf hN hs r (k + 1) _ _ _ _ E' Y' h' m' (by omega) (hi.hit hd hX hN (by omega) hs hh hb hz) e
          rwa [show k + 1 + r = k + (r + 1) by omega] at this
    · rw [cbRun_skip hh] at e
      have := cbRun_J hd hX hf hN hs r (k + 1) E Y h m E' Y' h' m' (by omega) (hi.skip hf hh) e
      rwa [show k + 1 + r = k + (r + 1) by omega] at this
/-- Numbers in a range among different ones, counted. -/
theorem filter_succ (a : Int) (k : Nat) : ∀ l : List Int, (l.filter fun x => decide (a ≤ x ∧ x < a + ((k + 1 : Nat) : Int))).length = (l.filter fun x => decide (a ≤ x ∧ x < a + (k : Int))).length + (l.filter fun x => decide (x = a + (k : Int))).length
  | [] => rfl
  | x :: l => by
    have ih := filter_succ a k l
    simp only [List.filter_cons]
    by_cases h1 : a ≤ x ∧ x < a + (k : Int)
    · have h2 : a ≤ x ∧ x < a + ((k + 1 : Nat) : Int) := by omega
      have h3 : ¬ x = a + (k : Int) := by omega
      simp only [h1, h2, h3, and_self, decide_true, decide_false, if_true, Bool.false_eq_true, if_false, List.length_cons]
      omega
    · by_cases h3 : x = a + (k : Int)
      · have h2 : a ≤ x ∧ x < a + ((k + 1 : Nat) : Int) := by omega
        rw [if_pos (decide_eq_true h2), if_neg (by simpa using h1), if_pos (decide_eq_true h3)]
        simp only [List.length_cons]
        omega
      · have h2 : ¬ (a ≤ x ∧ x < a + ((k + 1 : Nat) : Int)) := by omega
        rw [if_neg (by simpa using h2), if_neg (by simpa using h1), if_neg (by simpa using h3)]
        exact ih
theorem filter_one {l : List Int} (h : l.Nodup) (b : Int) : (l.filter fun x => decide (x = b)).length = if b ∈ l then 1 else 0 := by
  induction l with
  | nil => simp
  | cons x l ih =>
    rw [List.nodup_cons] at h
    have h1 := ih h.2
    rw [List.filter_cons]
    by_cases hx : x = b
    · subst hx
      rw [if_pos (by simp), List.length_cons, h1, if_neg h.1, if_pos (by simp)]
    · rw [if_neg (by simpa using hx), h1]
      by_cases hb : b ∈ l
      · rw [if_pos hb, if_pos (by simp [hb])]
      · rw [if_neg hb, if_neg (by simp [hb]; exact fun h => hx h.symm)]
theorem filter_range {l : List Int} (h : l.Nodup) (a : Int) : ∀ k : Nat, (l.filter fun x => decide (a ≤ x ∧ x < a + (k : Int))).length = ((List.range k).filter fun (j : Nat) => decide (a + (j : Int) ∈ l)).length
  | 0 => by
    have : (l.filter fun x => decide (a ≤ x ∧ x < a + ((0 : Nat) : Int))) = [] := by
      rw [List.filter_eq_nil_iff]
      intro x _
      simp
    rw [this]
    rfl
  | k + 1 => by
    rw [filter_succ, filter_range h a k, filter_one h, List.range_succ, List.filter_append, List.length_append]
    congr 1
    by_cases hb : a + (k : Int) ∈ l
    · rw [if_pos hb]; simp [hb]
    · rw [if_neg hb]; simp [hb]
theorem used_nodup {X : List (List Int)} (hX : tabOk X) : (usedOf X.flatten).Nodup := by
  have row : ∀ f (hf : f < X.length), (usedOf (X.take f).flatten).Nodup → ∀ m, m ≤ 6 → (usedOf ((X.take f).flatten ++ X[f].take m)).Nodup := by
    intro f hf h0 m
    induction m with
    | zero => intro _; rw [List.take_zero, List.append_nil]; exact h0
    | succ m ih =>
      intro hm
      have hml : m < X[f].length := by rw [(hX.2 f hf).1]; omega
      rw [seen_step _ _ _ hml]
      by_cases hx : 0 ≤ X[f][m]
      · rw [usedOf_hit _ hx, List.nodup_append]
        refine ⟨ih (by omega), by simp, fun a ha b hb => ?_⟩
        simp at hb
        rintro rfl
        subst hb
        exact ((hX.2 f hf).2 m hml).2.2 hx (List.mem_filter.1 ha).1
      · rw [usedOf_miss _ hx]
        exact ih (by omega)
  have all : ∀ k, k ≤ 8 → (usedOf (X.take k).flatten).Nodup := by
    intro k
    induction k with
    | zero => intro _; simp [usedOf]
    | succ k ih =>
      intro hk
      have hkX : k < X.length := by rw [hX.1]; omega
      have h1 := row k hkX (ih (by omega)) 6 (Nat.le_refl _)
      rw [List.take_of_length_le (l := X[k]) (by rw [(hX.2 k hkX).1]; exact Nat.le_refl _)] at h1
      rw [take_flat_succ X k hkX]
      exact h1
  have := all 8 (Nat.le_refl _)
  rwa [List.take_of_length_le (by rw [hX.1]; exact Nat.le_refl _)] at this
theorem mem_table {X : List (List Int)} (hX : tabOk X) {x : Int} : x ∈ X.flatten ↔ ∃ f p, f < 8 ∧ p < 6 ∧ tget X f p = x := by
  constructor
  · intro h
    obtain ⟨r, hr, hx⟩ := List.mem_flatten.1 h
    obtain ⟨f, hf, rfl⟩ := List.getElem_of_mem hr
    obtain ⟨p, hp, rfl⟩ := List.getElem_of_mem hx
    have hf8 : f < 8 := by rw [← hX.1]; exact hf
    have hp6 : p < 6 := by rw [← (hX.2 f hf).1]; exact hp
    obtain ⟨h1, h2, h3⟩ := tget_get hX hf8 hp6
    exact ⟨f, p, hf8, hp6, h3.symm⟩
  · rintro ⟨f, p, hf, hp, rfl⟩
    obtain ⟨h1, h2, h3⟩ := tget_get hX hf hp
    rw [← h3]
    exact List.mem_flatten.2 ⟨X[f], List.getElem_mem h1, List.getElem_mem h2⟩
theorem cnt_hits {D : List Bk} {X : List (List Int)} {N : Nat} (hd : DvOk D) (hX : tabOk X) (hf : fits D X) (hN : N < D.length) : cntD D (usedOf X.flatten) N = ((List.range 4).filter fun j => decide (hitAt D X N j)).length := by
  have h1 : cntD D (usedOf X.flatten) N = ((usedOf X.flatten).filter fun x => decide (4 * (N : Int) ≤ x ∧ x < 4 * (N : Int) + ((4 : Nat) : Int))).length := by
    unfold cntD
    congr 1
    apply List.filter_congr
    intro x hx
    have h0 := used_mem hx
    obtain ⟨f, p, hf8, hp6, he⟩ := (mem_table hX).1 (List.mem_filter.1 hx).1
    obtain ⟨a1, a2, -, -⟩ := hf f hf8 p hp6 (by omega)
    rw [he] at a1 a2
    unfold cntB
    apply decide_eq_decide.2
    exact ⟨fun h => by have := h.2.2; omega, fun h => ⟨a1, a2, by omega⟩⟩
  rw [h1, filter_range (used_nodup hX)]
  congr 1
  apply List.filter_congr
  intro j hj
  have hj4 := List.mem_range.1 hj
  apply decide_eq_decide.2
  constructor
  · intro h
    obtain ⟨f, p, hf8, hp6, he⟩ := (mem_table hX).1 (List.mem_filter.1 h).1
    exact hit_of hf hf8 hp6 he
  · intro h
    obtain ⟨h8, h6⟩ := hit_places hd hN hj4 h
    exact List.mem_filter.2 ⟨(mem_table hX).2 ⟨_, _, h8, h6, h.2⟩, decide_eq_true (by omega)⟩
/-- All that the law asks of a block that was cleaned. -/
structure CbGood (D : List Bk) (X : List (List Int)) (h : Hd) (N : Nat) (q : CbR) : Prop where
  n : N < D.length
  dv : DvOk D
  tx : tabOk X
  ft : fits D X
  hds : HeadsOk q.dev q.hd
  len : q.dev.length = D.length
  ty : tabOk q.tab
  fy : fits q.dev q.tab
  vals : ∀ f, f < 8 → fileVals q.dev q.tab f = fileVals D X f
  ok : q.ok = true
  blk : ∃ wr : Int, D[N]? = some ⟨wr, (D.getD N zBk).pages⟩ ∧ q.dev[N]? = some ⟨wr + 1, List.replicate 4 zPg⟩ ∧ 0 ≤ wr ∧ wr ≤ 100
  many : q.many = ((cntD D (usedOf X.flatten) N : Nat) : Int)
theorem fresh_ok {x : Int} (h : 0 ≤ x ∧ x ≤ 100) : BkOk ⟨x, List.replicate 4 zPg⟩ := by
  refine ⟨h, by simp, fun k hk => ?_⟩
  rw [List.getElem_replicate]
  exact ⟨PgOk.zero, fun _ hf => by cases hf⟩
theorem fsz_congr {X Y : List (List Int)} {f : Nat} : ∀ n, (∀ p, p < n → (0 ≤ tget X f p ↔ 0 ≤ tget Y f p)) → fsz Y f n = fsz X f n
  | 0, _ => rfl
  | n + 1, h => by
    have h1 := h n (Nat.lt_succ_self n)
    have ih := fsz_congr n (fun p hp => h p (by omega))
    by_cases h0 : 0 ≤ tget X f n
    · rw [fsz_hit h0, fsz_hit (h1.1 h0)]
    · rw [fsz_miss h0, fsz_miss (fun hh => h0 (h1.2 hh)), ih]
theorem clean_good {D : List Bk} {X : List (List Int)} {h : Hd} {s : Int} {N : Nat} {E : List Bk} {Y : List (List Int)} {z : Hd} {m : Nat} (hk : cbOk D X h (N : Int) s) (hi : ¬ isHead h (N : Int)) (hN : N < D.length) (hr : cbRun D X N s 4 0 D X h 0 = some (E, Y, z, m)) (he : (eraseAt E (N : Int)).2 = true)
    (e : cleanBlock D X h (N : Int) s = ⟨(eraseAt E (N : Int)).1, Y, z, (m : Int), true⟩) : CbGood D X h N (cleanBlock D X h (N : Int) s) := by
  obtain ⟨hH, hX, -, hs, hf⟩ := hk
  have hd := hH.1
  have hj : CbJ D X N (0 + 4) E Y z m := cbRun_J hd hX hf hN hs.1 4 0 D X h 0 E Y z m (by omega)
    ⟨⟨hH, rfl, hX, hf⟩, hi, rfl, fun _ _ _ => rfl, fun _ _ _ _ h0 => h0, fun _ _ _ _ _ _ => rfl, fun _ _ j _ _ hj => absurd hj (Nat.not_lt_zero j), rfl⟩ hr
  rw [Nat.zero_add] at hj
  have hLE := hj.inv.len
  have hNE : N < E.length := by omega
  have hEN : E[N] = D[N] := by
    have h1 := hj.blk
    rw [List.getElem?_eq_getElem hNE, List.getElem?_eq_getElem hN] at h1
    exact Option.some.inj h1
  have hbk := hj.inv.ok.1.2 N hNE
  have hw : ¬ E[N].wear = 100 := by
    intro hw
    rw [eraseAt_yes hj.inv.ok.1 hNE, eraseBlock_old hbk hw] at he
    cases he
  have hout : (eraseAt E (N : Int)).1 = E.set N ⟨E[N].wear + 1, List.replicate 4 zPg⟩ := by rw [eraseAt_yes hj.inv.ok.1 hNE, eraseBlock_new hbk hw]
  obtain ⟨O, hO⟩ : ∃ O, E.set N ⟨E[N].wear + 1, List.replicate 4 zPg⟩ = O := ⟨_, rfl⟩
  have hOl : O.length = D.length := by rw [← hO, List.length_set, hLE]
  have hOd : DvOk O := by
    refine ⟨by rw [hOl]; exact hd.1, fun k hk => ?_⟩
    have hkE : k < E.length := by rw [← hO, List.length_set] at hk; exact hk
    have e1 : O[k] = if N = k then ⟨E[N].wear + 1, List.replicate 4 zPg⟩ else E[k] := by
      have : O[k]? = some (if N = k then ⟨E[N].wear + 1, List.replicate 4 zPg⟩ else E[k]) := by
        rw [← hO, List.getElem?_set]
        by_cases hc : N = k
        · rw [if_pos hc, if_pos hNE, if_pos hc]
        · rw [if_neg hc, if_neg hc, List.getElem?_eq_getElem hkE]
      exact (List.getElem?_eq_some_iff.1 this).2
    rw [e1]
    split
    · exact fresh_ok (by have := hbk.1; omega)
    · exact hj.inv.ok.1.2 k hkE
  have hOp : ∀ y, y < 4 * D.length → y / 4 ≠ N → pgAt O y = pgAt E y := by
    intro y hy hyN
    have e2 : O.getD (y / 4) zBk = E.getD (y / 4) zBk := by rw [← hO, List.getD_eq_getElem?_getD, List.getElem?_set_ne (fun hc => hyN hc.symm), ← List.getD_eq_getElem?_getD]
    unfold pgAt
    rw [e2]
  rw [hout, hO] at e
  -- where each place of the table is then
  have hsp : ∀ f p, f < 8 → p < 6 → (tget X f p < 0 ∧ tget Y f p < 0) ∨ (0 ≤ tget X f p ∧ ∃ y : Nat, tget Y f p = (y : Int) ∧ y < 4 * D.length ∧ y / 4 ≠ N ∧ (pgAt O y).value = (pgAt D (tget X f p).toNat).value) := by
    intro f p h1 h2
    by_cases h0 : tget X f p < 0
    · exact .inl ⟨h0, hj.neg f p h1 h2 h0⟩
    · refine .inr ⟨by omega, ?_⟩
      obtain ⟨a1, a2, -, -⟩ := hf f h1 p h2 (by omega)
      by_cases hb : ∃ j : Nat, j < 4 ∧ tget X f p = 4 * (N : Int) + (j : Int)
      · obtain ⟨j, hj4, hje⟩ := hb
        obtain ⟨y, y1, y2, y3, y4, y5⟩ := hj.new f p j h1 h2 hj4 hje
        refine ⟨y, y1, y2, y3, ?_⟩
        rw [hOp y y2 y3, y5, show (tget X f p).toNat = 4 * N + j by omega]
      · have ho := hj.old f p h1 h2 (by omega) (fun j hj4 hje => hb ⟨j, hj4, hje⟩)
        have hyN : (tget X f p).toNat / 4 ≠ N := fun hc => hb ⟨(tget X f p).toNat % 4, by omega, by omega⟩
        refine ⟨(tget X f p).toNat, by omega, by omega, hyN, ?_⟩
        rw [hOp _ (by omega) hyN, hj.keep _ (by omega) a2]
  have hfy : fits O Y := by
    intro f h1 p h2 h0
    rcases hsp f p h1 h2 with ⟨-, h3⟩ | ⟨-, y, y1, y2, y3, -⟩
    · omega
    · obtain ⟨a1, a2, a3, a4⟩ := hj.inv.fit f h1 p h2 h0
      have e1 : (tget Y f p).toNat = y := by omega
      rw [e1] at a2 a3 a4 ⊢
      rw [hOp y y2 y3, hOl]
      exact ⟨by omega, a2, a3, a4⟩
  have hD : D[N]? = some ⟨D[N].wear, (D.getD N zBk).pages⟩ := by rw [getD_get _ _ hN, List.getElem?_eq_getElem hN]
  rw [e]
  refine ⟨hN, hd, hX, hf, ⟨hOd, by rw [hOl, ← hLE]; exact hj.inv.ok.2⟩, hOl, hj.inv.tab, hfy, fun f h1 => ?_, rfl, ⟨D[N].wear, hD, ?_, (hd.2 N hN).1.1, (hd.2 N hN).1.2⟩, ?_⟩
  · show fileVals O Y f = fileVals D X f
    unfold fileVals
    rw [fsz_congr (X := X) (Y := Y) (f := f) 6 (fun p hp => by
      rcases hsp f p h1 hp with ⟨h3, h4⟩ | ⟨h3, y, y1, -, -, -⟩
      · omega
      · omega)]
    apply List.map_congr_left
    intro p hp
    have hp6 : p < 6 := by have := fsz_le X f 6; have := List.mem_range.1 hp; omega
    unfold fval
    rcases hsp f p h1 hp6 with ⟨h3, h4⟩ | ⟨h3, y, y1, -, -, y5⟩
    · rw [if_pos h3, if_pos h4]
    · rw [if_neg (by omega), if_neg (by omega), y1, Int.toNat_natCast, y5]
  · show O[N]? = _
    rw [← hO, List.getElem?_set, if_pos rfl, if_pos hNE, hEN]
  · show (m : Int) = _
    rw [cnt_hits hd hX hf hN, ← hj.cnt]
end Go.Proofs.Ytpiojofmflfkkaa
