/- CleanBlock by steps, the plain law: what holds behind each step. No program is named here. -/
import Derived.Test.YtpiojofmflfkkaaMc
import Derived.Test.YtpiojofmflfkkaaMg
namespace Go.Proofs.Ytpiojofmflfkkaa
open Go.RowKit
/-- The page that a table has for a place is a written one of that file and place. -/
def refOk (D : List Bk) (X : List (List Int)) (f p : Nat) : Prop := 0 ≤ tget X f p → tget X f p < 4 * (D.length : Int) ∧ (pgAt D (tget X f p).toNat).full = true ∧ (pgAt D (tget X f p).toNat).file = (f : Int) ∧ (pgAt D (tget X f p).toNat).place = (p : Int)
instance (D : List Bk) (X : List (List Int)) (f p : Nat) : Decidable (refOk D X f p) := by unfold refOk; infer_instance
def fileOk (D : List Bk) (X : List (List Int)) (f : Nat) : Prop := ∀ p, p < 6 → refOk D X f p
instance (D : List Bk) (X : List (List Int)) (f : Nat) : Decidable (fileOk D X f) := by unfold fileOk; infer_instance
def fits (D : List Bk) (X : List (List Int)) : Prop := ∀ f, f < 8 → fileOk D X f
instance (D : List Bk) (X : List (List Int)) : Decidable (fits D X) := by unfold fits; infer_instance
/-- One more than the greatest place below k with a page. -/
def fsz (X : List (List Int)) (f : Nat) : Nat → Nat
  | 0 => 0
  | k + 1 => if 0 ≤ tget X f k then k + 1 else fsz X f k
theorem fsz_le (X : List (List Int)) (f : Nat) : ∀ k, fsz X f k ≤ k
  | 0 => Nat.le_refl 0
  | k + 1 => by
    have := fsz_le X f k
    unfold fsz
    split <;> omega
theorem fsz_hit {X : List (List Int)} {f k : Nat} (h : 0 ≤ tget X f k) : fsz X f (k + 1) = k + 1 := if_pos h
theorem fsz_miss {X : List (List Int)} {f k : Nat} (h : ¬ 0 ≤ tget X f k) : fsz X f (k + 1) = fsz X f k := if_neg h
theorem fsz_above {X : List (List Int)} {f : Nat} : ∀ n p, p < n → fsz X f n ≤ p → tget X f p < 0
  | 0, p, h, _ => absurd h (Nat.not_lt_zero p)
  | n + 1, p, h, h2 => by
    by_cases h0 : 0 ≤ tget X f n
    · rw [fsz_hit h0] at h2; omega
    · rw [fsz_miss h0] at h2
      by_cases he : p = n
      · subst he; omega
      · exact fsz_above n p (by omega) h2
theorem fileOk_size {D : List Bk} {X : List (List Int)} {f : Nat} (h : ∀ p, p < fsz X f 6 → refOk D X f p) : fileOk D X f := fun p hp => by
  by_cases h1 : p < fsz X f 6
  · exact h p h1
  · intro h0
    have := fsz_above (X := X) (f := f) 6 p hp (Nat.le_of_not_lt h1)
    omega
def fval (D : List Bk) (X : List (List Int)) (f p : Nat) : Int := if tget X f p < 0 then 0 else (pgAt D (tget X f p).toNat).value
def fileVals (D : List Bk) (X : List (List Int)) (f : Nat) : List Int := (List.range (fsz X f 6)).map (fval D X f)
/-- The table with another page at one place. -/
def tput (X : List (List Int)) (f p : Nat) (v : Int) : List (List Int) := tabF (upd2 (tget X) f p v)
theorem tget_tput (X : List (List Int)) {f p f' p' : Nat} (v : Int) (hf : f' < 8) (hp : p' < 6) : tget (tput X f p v) f' p' = if f' = f ∧ p' = p then v else tget X f' p' := by
  unfold tput
  rw [tget_tabF _ hf hp]
  rfl
theorem tput_ok {X : List (List Int)} (h : tabOk X) {f p : Nat} {v : Int} (hv : -1 ≤ v ∧ v ≤ 47) (hn : ∀ f' p', f' < 8 → p' < 6 → 0 ≤ v → tget X f' p' = v → f' = f ∧ p' = p) : tabOk (tput X f p v) := by
  have hg := good_of h
  refine tabOk_of ⟨fun f' p' h1 h2 => ?_, fun a b c d h1 h2 h3 h4 h0 he => ?_⟩
  · unfold upd2
    split
    · exact hv
    · exact hg.1 f' p' h1 h2
  · unfold upd2 at h0 he
    by_cases h5 : a = f ∧ b = p
    · rw [if_pos h5] at h0 he
      by_cases h6 : c = f ∧ d = p
      · omega
      · rw [if_neg h6] at he
        have := hn c d h3 h4 h0 he.symm
        omega
    · rw [if_neg h5] at h0 he
      by_cases h6 : c = f ∧ d = p
      · rw [if_pos h6] at he
        have := hn a b h1 h2 (by omega) he
        omega
      · rw [if_neg h6] at he
        exact hg.2 a b c d h1 h2 h3 h4 h0 he
/-- What AppendPage leaves when it could write. -/
theorem app_yes {D : List Bk} {h : Hd} {n : Nat} {p : Pg} (hh : HeadsOk D h) (hn : n < 3) (hp : PgOk p) (hf : p.full = true) (hz : ¬ (appendPage D h (n : Int) p).2.2 < 0) :
    ∃ k : Nat, ∃ hk : k < D.length, lead D[k].pages < 4 ∧ appendPage D h (n : Int) p = (D.set k ⟨D[k].wear, D[k].pages.set (lead D[k].pages) p⟩, h.put (n : Int) k, 4 * (k : Int) + (lead D[k].pages : Int)) ∧ ((k : Int) = h.get (n : Int) ∨ lead D[k].pages = 0 ∧ ¬ isHead h (k : Int)) := by
  by_cases hx : 0 ≤ h.get (n : Int) ∧ lead (D.getD (h.get (n : Int)).toNat zBk).pages < 4
  · obtain ⟨y, e⟩ := Int.eq_ofNat_of_zero_le hx.1
    have hk : y < D.length := by have := (hh.get n).2; omega
    have hl := hx.2
    rw [e, Int.toNat_natCast, getD_get _ _ hk] at hl
    have hput : h.put (n : Int) (y : Int) = h := by
      obtain ⟨a, b, c⟩ := h
      unfold Hd.get at e
      unfold Hd.put
      simp only at *
      split
      · rename_i h0; rw [if_pos h0] at e; rw [e]
      · rename_i h0
        rw [if_neg h0] at e
        split
        · rename_i h1; rw [if_pos h1] at e; rw [e]
        · rename_i h1; rw [if_neg h1] at e; rw [e]
    rw [appendPage_head hh hn hp hf e hk hl, program_lead hh.1 hk hp hf hl]
    exact ⟨y, hk, hl, by rw [hput], .inl e.symm⟩
  · by_cases hl : fresh D h < 0
    · rw [appendPage_none hh hn hp hf hx hl] at hz
      simp at hz
    · obtain ⟨y, e⟩ := Int.eq_ofNat_of_zero_le (show 0 ≤ fresh D h by omega)
      have hk : y < D.length := by have := (fresh_range (D := D) (h := h)).2; omega
      have hnh := fresh_not (D := D) (h := h) (by omega)
      rw [e] at hnh
      have hl0 : lead D[y].pages = 0 := by
        unfold fresh at hl e
        rw [if_pos hh] at hl e
        have := bestTo_good (freshGood D h) (wearAt D) D.length (by omega)
        rw [e, Int.toNat_natCast] at this
        unfold freshGood at this
        rw [getD_get _ _ hk] at this
        simp only [Bool.and_eq_true, decide_eq_true_eq] at this
        exact this.1
      have hl4 : lead D[y].pages < 4 := by omega
      rw [appendPage_fresh hh hn hp hf hx e, program_lead hh.1 hk hp hf hl4]
      exact ⟨y, hk, hl4, rfl, .inr ⟨hl0, hnh⟩⟩
/-- What holds of a device, a table and heads on the way. -/
structure CbI (L : Nat) (D : List Bk) (X : List (List Int)) (h : Hd) : Prop where
  ok : HeadsOk D h
  len : D.length = L
  tab : tabOk X
  fit : fits D X
theorem CbI.step {L : Nat} {D : List Bk} {X : List (List Int)} {h : Hd} (hi : CbI L D X h) {p : Pg} (hp : PgOk p) (hf : p.full = true) (hz : ¬ (appendPage D h ((2 : Nat) : Int) p).2.2 < 0) :
    CbI L (appendPage D h ((2 : Nat) : Int) p).1 (tput X p.file.toNat p.place.toNat (appendPage D h ((2 : Nat) : Int) p).2.2) (appendPage D h ((2 : Nat) : Int) p).2.1 ∧ (appendPage D h ((2 : Nat) : Int) p).2.2 ≤ 47 ∧
      (∀ f' p', f' < 8 → p' < 6 → tget X f' p' ≠ (appendPage D h ((2 : Nat) : Int) p).2.2) := by
  have hok := (HeadsOk.append (n := 2) hi.ok (by omega) hp hf).1
  have hln := (HeadsOk.append (n := 2) hi.ok (by omega) hp hf).2
  obtain ⟨k, hk, hl, e, -⟩ := app_yes hi.ok (by omega) hp hf hz
  have hle := pgAt_lead hi.ok.1 hk hl
  have hwr := pgAt_write (p := p) hi.ok.1 hk hl
  have h12 := hi.ok.1.1.2
  have hpl := (pgOk_yes hf).1 hp
  rw [e] at hok hln ⊢
  simp only at hok hln ⊢
  have hv : 4 * (k : Int) + (lead D[k].pages : Int) = ((4 * k + lead D[k].pages : Nat) : Int) := by omega
  have hne : ∀ f' p', f' < 8 → p' < 6 → tget X f' p' ≠ 4 * (k : Int) + (lead D[k].pages : Int) := by
    intro f' p' h1 h2 he
    have := (hi.fit f' h1 p' h2 (by omega)).2.1
    rw [he, hv, Int.toNat_natCast, hle] at this
    cases this
  refine ⟨⟨hok, by rw [hln, hi.len], tput_ok hi.tab (by omega) (fun f' p' h1 h2 _ he => (hne f' p' h1 h2 he).elim), fun f' h1 p' h2 h0 => ?_⟩, by omega, hne⟩
  rw [tget_tput X _ h1 h2] at h0 ⊢
  rw [hln]
  by_cases hc : f' = p.file.toNat ∧ p' = p.place.toNat
  · rw [if_pos hc, hv, Int.toNat_natCast, hwr _ (by omega), if_pos rfl]
    exact ⟨by omega, hf, by omega, by omega⟩
  · rw [if_neg hc] at h0 ⊢
    obtain ⟨a, b, c, d⟩ := hi.fit f' h1 p' h2 h0
    have hx : (tget X f' p').toNat < 4 * D.length := by omega
    rw [hwr _ hx, if_neg (fun he => hne f' p' h1 h2 (by omega))]
    exact ⟨a, b, c, d⟩
/-- Page k of block n is one that the table names. -/
def hitAt (D : List Bk) (X : List (List Int)) (n k : Nat) : Prop := (pgAt D (4 * n + k)).full = true ∧ tget X (pgAt D (4 * n + k)).file.toNat (pgAt D (4 * n + k)).place.toNat = 4 * (n : Int) + (k : Int)
instance (D : List Bk) (X : List (List Int)) (n k : Nat) : Decidable (hitAt D X n k) := by unfold hitAt; infer_instance
def stamped (p : Pg) (s : Int) : Pg := ⟨p.full, p.file, p.place, p.value, s⟩
/-- The pages of block n, from page k on, r of them. -/
def cbRun (D : List Bk) (X : List (List Int)) (n : Nat) (s : Int) : Nat → Nat → List Bk → List (List Int) → Hd → Nat → Option (List Bk × List (List Int) × Hd × Nat)
  | 0, _, E, Y, h, m => some (E, Y, h, m)
  | r + 1, k, E, Y, h, m =>
    if hitAt D X n k then
      (if 1000000 < s + (m : Int) then none
       else if (appendPage E h ((2 : Nat) : Int) (stamped (pgAt D (4 * n + k)) (s + (m : Int)))).2.2 < 0 then none
       else cbRun D X n s r (k + 1) (appendPage E h ((2 : Nat) : Int) (stamped (pgAt D (4 * n + k)) (s + (m : Int)))).1 (tput Y (pgAt D (4 * n + k)).file.toNat (pgAt D (4 * n + k)).place.toNat (appendPage E h ((2 : Nat) : Int) (stamped (pgAt D (4 * n + k)) (s + (m : Int)))).2.2) (appendPage E h ((2 : Nat) : Int) (stamped (pgAt D (4 * n + k)) (s + (m : Int)))).2.1 (m + 1))
    else cbRun D X n s r (k + 1) E Y h m
def cbOk (D : List Bk) (X : List (List Int)) (h : Hd) (n s : Int) : Prop := HeadsOk D h ∧ tabOk X ∧ (0 ≤ n ∧ n < (D.length : Int)) ∧ (1 ≤ s ∧ s ≤ 1000000) ∧ fits D X
instance (D : List Bk) (X : List (List Int)) (h : Hd) (n s : Int) : Decidable (cbOk D X h n s) := by unfold cbOk; infer_instance
structure CbR where
  dev : List Bk
  tab : List (List Int)
  hd : Hd
  many : Int
  ok : Bool
def cbEnd (D : List Bk) (X : List (List Int)) (h : Hd) (n : Nat) : Option (List Bk × List (List Int) × Hd × Nat) → CbR
  | none => ⟨D, X, h, 0, false⟩
  | some (E, Y, z, m) => if (eraseAt E (n : Int)).2 = true then ⟨(eraseAt E (n : Int)).1, Y, z, (m : Int), true⟩ else ⟨D, X, h, 0, false⟩
def cleanBlock (D : List Bk) (X : List (List Int)) (h : Hd) (n s : Int) : CbR :=
  if cbOk D X h n s then (if isHead h n then ⟨D, X, h, 0, false⟩ else cbEnd D X h n.toNat (cbRun D X n.toNat s 4 0 D X h 0)) else ⟨[], [], ⟨0, 0, 0⟩, 0, false⟩
theorem cbRun_end {D : List Bk} {X : List (List Int)} {n k : Nat} {s : Int} {E : List Bk} {Y : List (List Int)} {h : Hd} {m : Nat} : cbRun D X n s 0 k E Y h m = some (E, Y, h, m) := rfl
theorem cbRun_skip {D : List Bk} {X : List (List Int)} {n r k : Nat} {s : Int} {E : List Bk} {Y : List (List Int)} {h : Hd} {m : Nat} (hh : ¬ hitAt D X n k) : cbRun D X n s (r + 1) k E Y h m = cbRun D X n s r (k + 1) E Y h m := if_neg hh
theorem cbRun_big {D : List Bk} {X : List (List Int)} {n r k : Nat} {s : Int} {E : List Bk} {Y : List (List Int)} {h : Hd} {m : Nat} (hh : hitAt D X n k) (hs : 1000000 < s + (m : Int)) : cbRun D X n s (r + 1) k E Y h m = none := by
  unfold cbRun; rw [if_pos hh, if_pos hs]
theorem cbRun_stop {D : List Bk} {X : List (List Int)} {n r k : Nat} {s : Int} {E : List Bk} {Y : List (List Int)} {h : Hd} {m : Nat} (hh : hitAt D X n k) (hz : (appendPage E h ((2 : Nat) : Int) (stamped (pgAt D (4 * n + k)) (s + (m : Int)))).2.2 < 0) : cbRun D X n s (r + 1) k E Y h m = none := by
  unfold cbRun; rw [if_pos hh]; split
  · rfl
  · first | rfl | rw [if_pos hz]
theorem cbRun_step {D : List Bk} {X : List (List Int)} {n r k : Nat} {s : Int} {E : List Bk} {Y : List (List Int)} {h : Hd} {m : Nat} (hh : hitAt D X n k) (hs : ¬ 1000000 < s + (m : Int)) (hz : ¬ (appendPage E h ((2 : Nat) : Int) (stamped (pgAt D (4 * n + k)) (s + (m : Int)))).2.2 < 0) :
    cbRun D X n s (r + 1) k E Y h m = cbRun D X n s r (k + 1) (appendPage E h ((2 : Nat) : Int) (stamped (pgAt D (4 * n + k)) (s + (m : Int)))).1 (tput Y (pgAt D (4 * n + k)).file.toNat (pgAt D (4 * n + k)).place.toNat (appendPage E h ((2 : Nat) : Int) (stamped (pgAt D (4 * n + k)) (s + (m : Int)))).2.2) (appendPage E h ((2 : Nat) : Int) (stamped (pgAt D (4 * n + k)) (s + (m : Int)))).2.1 (m + 1) := by
  rw [cbRun, if_pos hh, if_neg hs, if_neg hz]
theorem stamped_ok {D : List Bk} (hd : DvOk D) {x : Nat} (hx : x < 4 * D.length) (hf : (pgAt D x).full = true) {s : Int} (h1 : 1 ≤ s) (h2 : ¬ 1000000 < s) : PgOk (stamped (pgAt D x) s) ∧ (stamped (pgAt D x) s).full = true := by
  have hp := (pgOk_yes hf).1 (pgAt_ok hd hx)
  refine ⟨(pgOk_yes (p := stamped (pgAt D x) s) hf).2 ?_, hf⟩
  unfold stamped
  simp only
  omega
end Go.Proofs.Ytpiojofmflfkkaa
