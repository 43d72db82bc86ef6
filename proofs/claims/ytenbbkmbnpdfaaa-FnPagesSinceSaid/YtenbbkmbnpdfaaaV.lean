/- Pages, blocks, devices, heads: what they are and what the functions make of them. No program is named here. -/
import Derived.Test.YtenbbkmbnpdfaaaB
namespace Go.Proofs.Ytenbbkmbnpdfaaa

structure Pg where
  full : Bool
  file : Int
  place : Int
  value : Int
  stamp : Int
def zPg : Pg := ⟨false, 0, 0, 0, 0⟩
instance : Inhabited Pg := ⟨zPg⟩
def pcells (p : Pg) : List Value := [.bool p.full, .int .i64 p.file, .int .i64 p.place, .int .i64 p.value, .int .i64 p.stamp]
theorem pcells_length (p : Pg) : (pcells p).length = 5 := rfl
structure Bk where
  wear : Int
  pages : List Pg
def zBk : Bk := ⟨0, []⟩
instance : Inhabited Bk := ⟨zBk⟩
structure Hd where
  hot : Int
  warm : Int
  cold : Int

def PgOk (p : Pg) : Prop := (p.full = false → p.file = 0 ∧ p.place = 0 ∧ p.value = 0 ∧ p.stamp = 0) ∧ (p.full = true → (0 ≤ p.file ∧ p.file ≤ 7) ∧ (0 ≤ p.place ∧ p.place ≤ 5) ∧ (0 ≤ p.value ∧ p.value ≤ 9999) ∧ (1 ≤ p.stamp ∧ p.stamp ≤ 1000000))
instance (p : Pg) : Decidable (PgOk p) := by unfold PgOk; infer_instance
theorem PgOk.zero : PgOk zPg := ⟨fun _ => ⟨rfl, rfl, rfl, rfl⟩, fun h => by cases h⟩
/-- What is known of the first n pages of a block. -/
def PgsTo (ps : List Pg) (n : Nat) : Prop := ∀ k (h : k < ps.length), k < n → PgOk ps[k] ∧ (0 < k → ps[k].full = true → (ps.getD (k - 1) zPg).full = true)
def PgsOk (ps : List Pg) : Prop := ∀ k (h : k < ps.length), PgOk ps[k] ∧ (0 < k → ps[k].full = true → (ps.getD (k - 1) zPg).full = true)
instance (ps : List Pg) : Decidable (PgsOk ps) := by unfold PgsOk; infer_instance
theorem PgsTo.zero (ps : List Pg) : PgsTo ps 0 := fun k _ h => absurd h (Nat.not_lt_zero k)
theorem PgsTo.succ {ps : List Pg} {n : Nat} (h : PgsTo ps n) (hn : n < ps.length) (h1 : PgOk ps[n]) (h2 : 0 < n → ps[n].full = true → (ps.getD (n - 1) zPg).full = true) : PgsTo ps (n + 1) := fun k hk hkn => by
  by_cases he : k = n
  · subst he; exact ⟨h1, h2⟩
  · exact h k hk (by omega)
theorem PgsTo.all {ps : List Pg} {n : Nat} (h : PgsTo ps n) (hn : ps.length ≤ n) : PgsOk ps := fun k hk => h k hk (by omega)
def BkOk (b : Bk) : Prop := (0 ≤ b.wear ∧ b.wear ≤ 100) ∧ b.pages.length = 4 ∧ PgsOk b.pages
instance (b : Bk) : Decidable (BkOk b) := by unfold BkOk; infer_instance
def DvTo (D : List Bk) (n : Nat) : Prop := ∀ k (h : k < D.length), k < n → BkOk D[k]
def DvOk (D : List Bk) : Prop := (1 ≤ D.length ∧ D.length ≤ 12) ∧ ∀ k (h : k < D.length), BkOk D[k]
instance (D : List Bk) : Decidable (DvOk D) := by unfold DvOk; infer_instance
theorem DvTo.zero (D : List Bk) : DvTo D 0 := fun k _ h => absurd h (Nat.not_lt_zero k)
theorem DvTo.succ {D : List Bk} {n : Nat} (h : DvTo D n) (hn : n < D.length) (h1 : BkOk D[n]) : DvTo D (n + 1) := fun k hk hkn => by
  by_cases he : k = n
  · subst he; exact h1
  · exact h k hk (by omega)

/-- How many pages stand full ahead of the first that is not. -/
def lead : List Pg → Nat
  | [] => 0
  | p :: ps => if p.full = true then lead ps + 1 else 0
theorem lead_le (ps : List Pg) : lead ps ≤ ps.length := by
  induction ps with
  | nil => simp [lead]
  | cons p ps ih => unfold lead; split <;> simp <;> omega
theorem lead_full : ∀ (ps : List Pg) (k : Nat) (h : k < ps.length), k < lead ps → ps[k].full = true
  | [], k, h, _ => by simp at h
  | p :: ps, 0, _, hk => by
    unfold lead at hk
    split at hk
    · assumption
    · omega
  | p :: ps, k + 1, h, hk => by
    unfold lead at hk
    split at hk
    · exact lead_full ps k (by simpa using h) (by omega)
    · omega
theorem lead_free : ∀ (ps : List Pg) (h : lead ps < ps.length), ps[lead ps].full = false
  | [], h => by simp at h
  | p :: ps, h => by
    by_cases hp : p.full = true
    · have e : lead (p :: ps) = lead ps + 1 := by simp [lead, hp]
      simp only [e, List.getElem_cons_succ]
      exact lead_free ps (by rw [e] at h; simpa using h)
    · have e : lead (p :: ps) = 0 := by simp [lead, hp]
      simp only [e, List.getElem_cons_zero]
      simpa using hp
/-- A page that is not full, all ahead of it full: that is where the lead ends. -/
theorem lead_eq {ps : List Pg} {n : Nat} (hn : n < ps.length) (h1 : ∀ k (h : k < ps.length), k < n → ps[k].full = true) (h2 : ps[n].full = false) : lead ps = n := by
  rcases Nat.lt_trichotomy (lead ps) n with h | h | h
  · have := lead_free ps (by omega)
    rw [h1 _ _ h] at this; cases this
  · exact h
  · have := lead_full ps n hn h
    rw [h2] at this; cases this
theorem lead_all {ps : List Pg} (h1 : ∀ k (h : k < ps.length), ps[k].full = true) : lead ps = ps.length := by
  rcases Nat.lt_or_ge (lead ps) ps.length with h | h
  · have := lead_free ps h
    rw [h1] at this; cases this
  · have := lead_le ps; omega
theorem PgsOk.back {ps : List Pg} (h : PgsOk ps) : ∀ (k : Nat) (hk : k < ps.length), ps[k].full = true → ∀ j (hj : j < ps.length), j ≤ k → ps[j].full = true
  | 0, hk, hf, j, hj, hjk => by
    have : j = 0 := by omega
    subst this; exact hf
  | k + 1, hk, hf, j, hj, hjk => by
    by_cases he : j = k + 1
    · subst he; exact hf
    · have h1 := (h (k + 1) hk).2 (by omega) hf
      rw [Nat.add_sub_cancel, List.getD_eq_getElem?_getD, List.getElem?_eq_getElem (by omega : k < ps.length), Option.getD_some] at h1
      exact PgsOk.back h k (by omega) h1 j hj (by omega)
theorem PgsOk.full_lt {ps : List Pg} (h : PgsOk ps) {k : Nat} (hk : k < ps.length) : ps[k].full = true ↔ k < lead ps := by
  constructor
  · intro hf
    rcases Nat.lt_or_ge k (lead ps) with h1 | h1
    · exact h1
    · have h2 := lead_free ps (by omega)
      rw [h.back k hk hf _ _ h1] at h2
      cases h2
  · exact lead_full ps k hk
/-- The number of the first page that is not written; -1 if all are, and for a block that is not valid. -/
def next (b : Bk) : Int := if BkOk b ∧ lead b.pages < b.pages.length then (lead b.pages : Int) else -1
/-- How many pages are written. -/
def written (ps : List Pg) : Nat := (ps.filter (·.full)).length
theorem written_le (ps : List Pg) : written ps ≤ ps.length := List.length_filter_le _ _
theorem written_take_succ (ps : List Pg) (k : Nat) (h : k < ps.length) : written (ps.take (k + 1)) = written (ps.take k) + if ps[k].full = true then 1 else 0 := by
  unfold written
  rw [List.take_succ_eq_append_getElem h, List.filter_append, List.length_append, List.filter_cons]
  split <;> simp
theorem written_lead {ps : List Pg} (h : PgsOk ps) : written ps = lead ps := by
  have h1 : ∀ k, k ≤ ps.length → written (ps.take k) = min k (lead ps) := by
    intro k
    induction k with
    | zero => intro _; simp [written]
    | succ k ih =>
      intro hk
      rw [written_take_succ ps k (by omega), ih (by omega)]
      have := h.full_lt (k := k) (by omega)
      by_cases hl : k < lead ps
      · rw [if_pos (this.2 hl)]; omega
      · rw [if_neg (fun hf => hl (this.1 hf))]; omega
  have h2 := h1 ps.length (Nat.le_refl _)
  rw [List.take_length] at h2
  rw [h2]
  have := lead_le ps
  omega
def newBlock (n : Int) : Bk := if 0 ≤ n ∧ n ≤ 100 then ⟨n, List.replicate 4 zPg⟩ else zBk
def writeBlock (b : Bk) (p : Pg) : Bk × Int := if BkOk b ∧ PgOk p ∧ p.full = true then (if lead b.pages < b.pages.length then (⟨b.wear, b.pages.set (lead b.pages) p⟩, (lead b.pages : Int)) else (b, -1)) else (zBk, -1)
def eraseBlock (b : Bk) : Bk × Bool := if BkOk b then (if b.wear = 100 then (b, false) else (newBlock (b.wear + 1), true)) else (zBk, false)
def newDevice (n : Int) : List Bk := if 1 ≤ n ∧ n ≤ 12 then List.replicate n.toNat (newBlock 0) else []
/-- The page with a number. -/
def pgAt (D : List Bk) (n : Nat) : Pg := (D.getD (n / 4) zBk).pages.getD (n % 4) zPg
def readPage (D : List Bk) (at_ : Int) : Pg := if DvOk D ∧ 0 ≤ at_ ∧ at_ < 4 * (D.length : Int) then pgAt D at_.toNat else zPg
def program (D : List Bk) (n : Int) (p : Pg) : List Bk × Int :=
  if DvOk D ∧ (0 ≤ n ∧ n < (D.length : Int)) ∧ PgOk p ∧ p.full = true then
    (if 0 ≤ (writeBlock (D.getD n.toNat zBk) p).2 then (D.set n.toNat (writeBlock (D.getD n.toNat zBk) p).1, 4 * n + (writeBlock (D.getD n.toNat zBk) p).2) else (D, -1))
  else ([], -1)
def eraseAt (D : List Bk) (n : Int) : List Bk × Bool :=
  if DvOk D ∧ (0 ≤ n ∧ n < (D.length : Int)) then (D.set n.toNat (eraseBlock (D.getD n.toNat zBk)).1, (eraseBlock (D.getD n.toNat zBk)).2) else ([], false)
def freeTo (D : List Bk) : Nat → Nat
  | 0 => 0
  | n + 1 => freeTo D n + (4 - written (D.getD n zBk).pages)
def freePages (D : List Bk) : Int := if DvOk D then (freeTo D D.length : Int) else -1
def HdOk (n : Nat) (h : Hd) : Prop := (-1 ≤ h.hot ∧ h.hot < n) ∧ (-1 ≤ h.warm ∧ h.warm < n) ∧ (-1 ≤ h.cold ∧ h.cold < n) ∧ (0 ≤ h.warm → h.warm ≠ h.hot) ∧ (0 ≤ h.cold → h.cold ≠ h.hot) ∧ (0 ≤ h.cold → h.cold ≠ h.warm)
instance (n : Nat) (h : Hd) : Decidable (HdOk n h) := by unfold HdOk; infer_instance
def HeadsOk (D : List Bk) (h : Hd) : Prop := DvOk D ∧ HdOk D.length h
instance (D : List Bk) (h : Hd) : Decidable (HeadsOk D h) := by unfold HeadsOk; infer_instance
def Hd.get (h : Hd) (heat : Int) : Int := if heat = 0 then h.hot else if heat = 1 then h.warm else h.cold
def Hd.put (h : Hd) (heat n : Int) : Hd := if heat = 0 then ⟨n, h.warm, h.cold⟩ else if heat = 1 then ⟨h.hot, n, h.cold⟩ else ⟨h.hot, h.warm, n⟩
def isHead (h : Hd) (n : Int) : Prop := n = h.hot ∨ n = h.warm ∨ n = h.cold
instance (h : Hd) (n : Int) : Decidable (isHead h n) := by unfold isHead; infer_instance
def headOf (D : List Bk) (h : Hd) (heat : Int) : Int := if HeadsOk D h ∧ 0 ≤ heat ∧ heat ≤ 2 then h.get heat else -1
/-- The least of the first n numbers by W, of those that are good; the first of several. -/
def bestTo (good : Nat → Bool) (W : Nat → Int) : Nat → Int
  | 0 => -1
  | n + 1 => if good n = true ∧ (bestTo good W n < 0 ∨ W n < W (bestTo good W n).toNat) then (n : Int) else bestTo good W n
theorem bestTo_range (good : Nat → Bool) (W : Nat → Int) (n : Nat) : -1 ≤ bestTo good W n ∧ bestTo good W n < (n : Int) := by
  induction n with
  | zero => exact ⟨by simp [bestTo], by simp [bestTo]⟩
  | succ n ih => unfold bestTo; split <;> omega
theorem bestTo_good (good : Nat → Bool) (W : Nat → Int) (n : Nat) (h : 0 ≤ bestTo good W n) : good (bestTo good W n).toNat = true := by
  induction n with
  | zero => simp [bestTo] at h
  | succ n ih =>
    unfold bestTo at h ⊢
    split
    · rename_i h1; simpa using h1.1
    · rename_i h1
      rw [if_neg h1] at h
      exact ih h
theorem bestTo_least (good : Nat → Bool) (W : Nat → Int) (n : Nat) : ∀ k, k < n → good k = true → 0 ≤ bestTo good W n ∧ W (bestTo good W n).toNat ≤ W k := by
  induction n with
  | zero => intro k hk; omega
  | succ n ih =>
    intro k hk hg
    unfold bestTo
    by_cases h1 : good n = true ∧ (bestTo good W n < 0 ∨ W n < W (bestTo good W n).toNat)
    · rw [if_pos h1]
      refine ⟨Int.natCast_nonneg _, ?_⟩
      rw [Int.toNat_natCast]
      by_cases he : k = n
      · subst he; exact Int.le_refl _
      · obtain ⟨a, b⟩ := ih k (by omega) hg
        rcases h1.2 with h2 | h2 <;> omega
    · rw [if_neg h1]
      by_cases he : k = n
      · subst he
        have h2 : ¬ (bestTo good W k < 0 ∨ W k < W (bestTo good W k).toNat) := fun hh => h1 ⟨hg, hh⟩
        omega
      · exact ih k (by omega) hg
def wearAt (D : List Bk) (k : Nat) : Int := (D.getD k zBk).wear
def freshGood (D : List Bk) (h : Hd) (k : Nat) : Bool := decide (lead (D.getD k zBk).pages = 0) && !decide (isHead h k)
def fresh (D : List Bk) (h : Hd) : Int := if HeadsOk D h then bestTo (freshGood D h) (wearAt D) D.length else -1
def restGood (D : List Bk) (h : Hd) (k : Nat) : Bool := decide (lead (D.getD k zBk).pages ≠ 0) && !decide (isHead h k)
/-- The least, the greatest wear of the first n blocks, from a on. -/
def leastTo (D : List Bk) (a : Int) : Nat → Int
  | 0 => a
  | n + 1 => min (leastTo D a n) (wearAt D n)
def mostTo (D : List Bk) (a : Int) : Nat → Int
  | 0 => a
  | n + 1 => max (mostTo D a n) (wearAt D n)
def wearSpread (D : List Bk) : Int := if DvOk D then mostTo D (wearAt D 0) D.length - leastTo D (wearAt D 0) D.length else -1
def sumTo' (D : List Bk) : Nat → Int
  | 0 => 0
  | n + 1 => sumTo' D n + wearAt D n
def wearTotal (D : List Bk) : Int := if DvOk D then sumTo' D D.length else -1
def wearVictim (D : List Bk) (h : Hd) : Int := if HeadsOk D h ∧ 5 < wearSpread D then bestTo (restGood D h) (wearAt D) D.length else -1
def lastTo (D : List Bk) : Nat → Int
  | 0 => 0
  | n + 1 => max (lastTo D n) (pgAt D n).stamp
def lastStamp (D : List Bk) : Int := if DvOk D then lastTo D (4 * D.length) else -1
/-- A device, heads and a number behind a page that was written. -/
def appendPage (D : List Bk) (h : Hd) (heat : Int) (p : Pg) : List Bk × Hd × Int :=
  if HeadsOk D h ∧ (0 ≤ heat ∧ heat ≤ 2) ∧ PgOk p ∧ p.full = true then
    (if 0 ≤ h.get heat ∧ lead (D.getD (h.get heat).toNat zBk).pages < 4 then ((program D (h.get heat) p).1, h, (program D (h.get heat) p).2)
     else if fresh D h < 0 then (D, h, -1)
     else ((program D (fresh D h) p).1, h.put heat (fresh D h), (program D (fresh D h) p).2))
  else ([], ⟨0, 0, 0⟩, -1)
end Go.Proofs.Ytenbbkmbnpdfaaa
