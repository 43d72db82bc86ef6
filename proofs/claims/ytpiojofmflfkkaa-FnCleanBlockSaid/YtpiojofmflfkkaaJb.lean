/- Parts of the proof, merged: V, Va, Vb, Vc, Vd, Ve, Vn, Vf, Vg, Vh, Vi, Vj, Vk, Vo, Vq. -/
import Derived.Test.YtpiojofmflfkkaaJa
import Derived.Deep.QuietTactic
import Derived.BigQuiet
import Derived.RegionTactic
import Derived.ChangeAlike
import Derived.LoopN
/- Pages, blocks, devices, heads: what they are and what the functions make of them. No program is named here. -/
namespace Go.Proofs.Ytpiojofmflfkkaa
structure Pg where
  full : Bool
  file : Int
  place : Int
  value : Int
  stamp : Int
def zPg : Pg := ⟨false, 0, 0, 0, 0⟩
instance : Inhabited Pg := ⟨zPg⟩
def pcells (p : Pg) : List Value := [.bool p.full, .int .i64 p.file, .int .i64 p.place, .int .i64 p.value, .int .i64 p.stamp]
theorem pcells_length (p : Pg) : (pcells p).length = 5 := rfl
structure Bk where
  wear : Int
  pages : List Pg
def zBk : Bk := ⟨0, []⟩
instance : Inhabited Bk := ⟨zBk⟩
structure Hd where
  hot : Int
  warm : Int
  cold : Int
def PgOk (p : Pg) : Prop := (p.full = false → p.file = 0 ∧ p.place = 0 ∧ p.value = 0 ∧ p.stamp = 0) ∧ (p.full = true → (0 ≤ p.file ∧ p.file ≤ 7) ∧ (0 ≤ p.place ∧ p.place ≤ 5) ∧ (0 ≤ p.value ∧ p.value ≤ 9999) ∧ (1 ≤ p.stamp ∧ p.stamp ≤ 1000000))
instance (p : Pg) : Decidable (PgOk p) := by unfold PgOk; infer_instance
theorem PgOk.zero : PgOk zPg := ⟨fun _ => ⟨rfl, rfl, rfl, rfl⟩, fun h => by cases h⟩
/-- What is known of the first n pages of a block. -/
def PgsTo (ps : List Pg) (n : Nat) : Prop := ∀ k (h : k < ps.length), k < n → PgOk ps[k] ∧ (0 < k → ps[k].full = true → (ps.getD (k - 1) zPg).full = true)
def PgsOk (ps : List Pg) : Prop := ∀ k (h : k < ps.length), PgOk ps[k] ∧ (0 < k → ps[k].full = true → (ps.getD (k - 1) zPg).full = true)
instance (ps : List Pg) : Decidable (PgsOk ps) := by unfold PgsOk; infer_instance
theorem PgsTo.zero (ps : List Pg) : PgsTo ps 0 := fun k _ h => absurd h (Nat.not_lt_zero k)
theorem PgsTo.succ {ps : List Pg} {n : Nat} (h : PgsTo ps n) (hn : n < ps.length) (h1 : PgOk ps[n]) (h2 : 0 < n → ps[n].full = true → (ps.getD (n - 1) zPg).full = true) : PgsTo ps (n + 1) := fun k hk hkn => by
  by_cases he : k = n
  · subst he; exact ⟨h1, h2⟩
  · exact h k hk (by omega)
theorem PgsTo.all {ps : List Pg} {n : Nat} (h : PgsTo ps n) (hn : ps.length ≤ n) : PgsOk ps := fun k hk => h k hk (by omega)
def BkOk (b : Bk) : Prop := (0 ≤ b.wear ∧ b.wear ≤ 100) ∧ b.pages.length = 4 ∧ PgsOk b.pages
instance (b : Bk) : Decidable (BkOk b) := by unfold BkOk; infer_instance
def DvTo (D : List Bk) (n : Nat) : Prop := ∀ k (h : k < D.length), k < n → BkOk D[k]
def DvOk (D : List Bk) : Prop := (1 ≤ D.length ∧ D.length ≤ 12) ∧ ∀ k (h : k < D.length), BkOk D[k]
instance (D : List Bk) : Decidable (DvOk D) := by unfold DvOk; infer_instance
theorem DvTo.zero (D : List Bk) : DvTo D 0 := fun k _ h => absurd h (Nat.not_lt_zero k)
theorem DvTo.succ {D : List Bk} {n : Nat} (h : DvTo D n) (hn : n < D.length) (h1 : BkOk D[n]) : DvTo D (n + 1) := fun k hk hkn => by
  by_cases he : k = n
  · subst he; exact h1
  · exact h k hk (by omega)
/-- How many pages stand full ahead of the first that is not. -/
def lead : List Pg → Nat
  | [] => 0
  | p :: ps => if p.full = true then lead ps + 1 else 0
theorem lead_le (ps : List Pg) : lead ps ≤ ps.length := by
  induction ps with
  | nil => simp [lead]
  | cons p ps ih => unfold lead; split <;> simp <;> omega
theorem lead_full : ∀ (ps : List Pg) (k : Nat) (h : k < ps.length), k < lead ps → ps[k].full = true
  | [], k, h, _ => by simp at h
  | p :: ps, 0, _, hk => by
    unfold lead at hk
    split at hk
    · assumption
    · omega
  | p :: ps, k + 1, h, hk => by
    unfold lead at hk
    split at hk
    · exact lead_full ps k (by simpa using h) (by omega)
    · omega
theorem lead_free : ∀ (ps : List Pg) (h : lead ps < ps.length), ps[lead ps].full = false
  | [], h => by simp at h
  | p :: ps, h => by
    by_cases hp : p.full = true
    · have e : lead (p :: ps) = lead ps + 1 := by simp [lead, hp]
      simp only [e, List.getElem_cons_succ]
      exact lead_free ps (by rw [e] at h; simpa using h)
    · have e : lead (p :: ps) = 0 := by simp [lead, hp]
      simp only [e, List.getElem_cons_zero]
      simpa using hp
/-- A page that is not full, all ahead of it full: that is where the lead ends. -/
theorem lead_eq {ps : List Pg} {n : Nat} (hn : n < ps.length) (h1 : ∀ k (h : k < ps.length), k < n → ps[k].full = true) (h2 : ps[n].full = false) : lead ps = n := by
  rcases Nat.lt_trichotomy (lead ps) n with h | h | h
  · have := lead_free ps (by omega)
    rw [h1 _ _ h] at this; cases this
  · exact h
  · have := lead_full ps n hn h
    rw [h2] at this; cases this
theorem lead_all {ps : List Pg} (h1 : ∀ k (h : k < ps.length), ps[k].full = true) : lead ps = ps.length := by
  rcases Nat.lt_or_ge (lead ps) ps.length with h | h
  · have := lead_free ps h
    rw [h1] at this; cases this
  · have := lead_le ps; omega
theorem PgsOk.back {ps : List Pg} (h : PgsOk ps) : ∀ (k : Nat) (hk : k < ps.length), ps[k].full = true → ∀ j (hj : j < ps.length), j ≤ k → ps[j].full = true
  | 0, hk, hf, j, hj, hjk => by
    have : j = 0 := by omega
    subst this; exact hf
  | k + 1, hk, hf, j, hj, hjk => by
    by_cases he : j = k + 1
    · subst he; exact hf
    · have h1 := (h (k + 1) hk).2 (by omega) hf
      rw [Nat.add_sub_cancel, List.getD_eq_getElem?_getD, List.getElem?_eq_getElem (by omega : k < ps.length), Option.getD_some] at h1
      exact PgsOk.back h k (by omega) h1 j hj (by omega)
theorem PgsOk.full_lt {ps : List Pg} (h : PgsOk ps) {k : Nat} (hk : k < ps.length) : ps[k].full = true ↔ k < lead ps := by
  constructor
  · intro hf
    rcases Nat.lt_or_ge k (lead ps) with h1 | h1
    · exact h1
    · have h2 := lead_free ps (by omega)
      rw [h.back k hk hf _ _ h1] at h2
      cases h2
  · exact lead_full ps k hk
/-- The number of the first page that is not written; -1 if all are, and for a block that is not valid. -/
def next (b : Bk) : Int := if BkOk b ∧ lead b.pages < b.pages.length then (lead b.pages : Int) else -1
/-- How many pages are written. -/
def written (ps : List Pg) : Nat := (ps.filter (·.full)).length
def newBlock (n : Int) : Bk := if 0 ≤ n ∧ n ≤ 100 then ⟨n, List.replicate 4 zPg⟩ else zBk
def writeBlock (b : Bk) (p : Pg) : Bk × Int := if BkOk b ∧ PgOk p ∧ p.full = true then (if lead b.pages < b.pages.length then (⟨b.wear, b.pages.set (lead b.pages) p⟩, (lead b.pages : Int)) else (b, -1)) else (zBk, -1)
def eraseBlock (b : Bk) : Bk × Bool := if BkOk b then (if b.wear = 100 then (b, false) else (newBlock (b.wear + 1), true)) else (zBk, false)
def newDevice (n : Int) : List Bk := if 1 ≤ n ∧ n ≤ 12 then List.replicate n.toNat (newBlock 0) else []
/-- The page with a number. -/
def pgAt (D : List Bk) (n : Nat) : Pg := (D.getD (n / 4) zBk).pages.getD (n % 4) zPg
def readPage (D : List Bk) (at_ : Int) : Pg := if DvOk D ∧ 0 ≤ at_ ∧ at_ < 4 * (D.length : Int) then pgAt D at_.toNat else zPg
def program (D : List Bk) (n : Int) (p : Pg) : List Bk × Int :=
  if DvOk D ∧ (0 ≤ n ∧ n < (D.length : Int)) ∧ PgOk p ∧ p.full = true then
    (if 0 ≤ (writeBlock (D.getD n.toNat zBk) p).2 then (D.set n.toNat (writeBlock (D.getD n.toNat zBk) p).1, 4 * n + (writeBlock (D.getD n.toNat zBk) p).2) else (D, -1))
  else ([], -1)
def eraseAt (D : List Bk) (n : Int) : List Bk × Bool :=
  if DvOk D ∧ (0 ≤ n ∧ n < (D.length : Int)) then (D.set n.toNat (eraseBlock (D.getD n.toNat zBk)).1, (eraseBlock (D.getD n.toNat zBk)).2) else ([], false)
def freeTo (D : List Bk) : Nat → Nat
  | 0 => 0
  | n + 1 => freeTo D n + (4 - written (D.getD n zBk).pages)
def HdOk (n : Nat) (h : Hd) : Prop := (-1 ≤ h.hot ∧ h.hot < n) ∧ (-1 ≤ h.warm ∧ h.warm < n) ∧ (-1 ≤ h.cold ∧ h.cold < n) ∧ (0 ≤ h.warm → h.warm ≠ h.hot) ∧ (0 ≤ h.cold → h.cold ≠ h.hot) ∧ (0 ≤ h.cold → h.cold ≠ h.warm)
instance (n : Nat) (h : Hd) : Decidable (HdOk n h) := by unfold HdOk; infer_instance
def HeadsOk (D : List Bk) (h : Hd) : Prop := DvOk D ∧ HdOk D.length h
instance (D : List Bk) (h : Hd) : Decidable (HeadsOk D h) := by unfold HeadsOk; infer_instance
def Hd.get (h : Hd) (heat : Int) : Int := if heat = 0 then h.hot else if heat = 1 then h.warm else h.cold
def Hd.put (h : Hd) (heat n : Int) : Hd := if heat = 0 then ⟨n, h.warm, h.cold⟩ else if heat = 1 then ⟨h.hot, n, h.cold⟩ else ⟨h.hot, h.warm, n⟩
def isHead (h : Hd) (n : Int) : Prop := n = h.hot ∨ n = h.warm ∨ n = h.cold
instance (h : Hd) (n : Int) : Decidable (isHead h n) := by unfold isHead; infer_instance
/-- The least of the first n numbers by W, of those that are good; the first of several. -/
def bestTo (good : Nat → Bool) (W : Nat → Int) : Nat → Int
  | 0 => -1
  | n + 1 => if good n = true ∧ (bestTo good W n < 0 ∨ W n < W (bestTo good W n).toNat) then (n : Int) else bestTo good W n
theorem bestTo_range (good : Nat → Bool) (W : Nat → Int) (n : Nat) : -1 ≤ bestTo good W n ∧ bestTo good W n < (n : Int) := by
  induction n with
  | zero => exact ⟨by simp [bestTo], by simp [bestTo]⟩
  | succ n ih => unfold bestTo; split <;> omega
theorem bestTo_good (good : Nat → Bool) (W : Nat → Int) (n : Nat) (h : 0 ≤ bestTo good W n) : good (bestTo good W n).toNat = true := by
  induction n with
  | zero => simp [bestTo] at h
  | succ n ih =>
    unfold bestTo at h ⊢
    split
    · rename_i h1; simpa using h1.1
    · rename_i h1
      rw [if_neg h1] at h
      exact ih h
def wearAt (D : List Bk) (k : Nat) : Int := (D.getD k zBk).wear
def freshGood (D : List Bk) (h : Hd) (k : Nat) : Bool := decide (lead (D.getD k zBk).pages = 0) && !decide (isHead h k)
def fresh (D : List Bk) (h : Hd) : Int := if HeadsOk D h then bestTo (freshGood D h) (wearAt D) D.length else -1
/-- A device, heads and a number behind a page that was written. -/
def appendPage (D : List Bk) (h : Hd) (heat : Int) (p : Pg) : List Bk × Hd × Int :=
  if HeadsOk D h ∧ (0 ≤ heat ∧ heat ≤ 2) ∧ PgOk p ∧ p.full = true then
    (if 0 ≤ h.get heat ∧ lead (D.getD (h.get heat).toNat zBk).pages < 4 then ((program D (h.get heat) p).1, h, (program D (h.get heat) p).2)
     else if fresh D h < 0 then (D, h, -1)
     else ((program D (fresh D h) p).1, h.put heat (fresh D h), (program D (fresh D h) p).2))
  else ([], ⟨0, 0, 0⟩, -1)
end Go.Proofs.Ytpiojofmflfkkaa
/- Devices in memory: what reads as one, and what a call has built. -/
namespace Go.Proofs.Ytpiojofmflfkkaa
open Go.RowKit
def pgs (ps : List Pg) : List Value := ps.flatMap pcells
theorem pgs_length (ps : List Pg) : (pgs ps).length = ps.length * 5 := flat_length pcells_length ps
theorem pgs_append (a b : List Pg) : pgs (a ++ b) = pgs a ++ pgs b := List.flatMap_append
/-- A page of a slice of pages. -/
theorem pgs_at {F : Nat → Prop} {w : World} {A : Option Addr} {ps : List Pg} (h : Rd F w A (pgs ps)) {k : Nat} (hk : k < ps.length) :
    ∃ b o, A = some ⟨b, o, none⟩ ∧ F b ∧ b < w.heap.size ∧ w.cell? ⟨b, o + k * 5, none⟩ = some (.bool ps[k].full) ∧ w.cell? ⟨b, o + k * 5 + 1, none⟩ = some (.int .i64 ps[k].file) ∧
      w.cell? ⟨b, o + k * 5 + 2, none⟩ = some (.int .i64 ps[k].place) ∧ w.cell? ⟨b, o + k * 5 + 3, none⟩ = some (.int .i64 ps[k].value) ∧ w.cell? ⟨b, o + k * 5 + 4, none⟩ = some (.int .i64 ps[k].stamp) := by
  obtain ⟨b, o, e, hf, hb, hc⟩ := Rd.flat pcells_length h hk (by omega)
  exact ⟨b, o, e, hf, hb, hc 0 _ rfl, hc 1 _ rfl, hc 2 _ rfl, hc 3 _ rfl, hc 4 _ rfl⟩
/-- The slice at A reads as the blocks D; all of it lies in memory of F. -/
def DevR (F : Nat → Prop) (w : World) (A : Option Addr) (D : List Bk) : Prop :=
  ∀ (k : Nat) (h : k < D.length), ∃ b o A' c, A = some ⟨b, o, none⟩ ∧ F b ∧ w.cell? ⟨b, o + k * 2, none⟩ = some (.int .i64 D[k].wear) ∧ w.cell? ⟨b, o + k * 2 + 1, none⟩ = some (.slice A' D[k].pages.length c) ∧
    Rd F w A' (pgs D[k].pages) ∧ D[k].pages.length ≤ c
section
variable {F G : Nat → Prop} {w w' : World} {A : Option Addr} {D : List Bk}
theorem DevR.mono (h : DevR F w A D) (hg : ∀ i, i < w.heap.size → F i → G i) : DevR G w A D := fun k hk => by
  obtain ⟨b, o, A', c, e, hf, h1, h2, hr, hc⟩ := h k hk
  exact ⟨b, o, A', c, e, hg _ (World.block_lt_of_cell? w _ h1) hf, h1, h2, hr.mono hg, hc⟩
theorem DevR.lt (h : DevR F w A D) : DevR (fun i => F i ∧ i < w.heap.size) w A D := h.mono fun _ hi hf => ⟨hf, hi⟩
theorem DevR.chg (h : DevR F w A D) (hc : Chg G w w') (hd : ∀ i, F i → ¬ G i) : DevR F w' A D := fun k hk => by
  obtain ⟨b, o, A', c, e, hf, h1, h2, hr, hcc⟩ := h k hk
  exact ⟨b, o, A', c, e, hf, hc.cell h1 (hd _ hf), hc.cell h2 (hd _ hf), hr.chg hc hd, hcc⟩
theorem DevR.new (h : DevR F w A D) (hc : Chg NoB w w') : DevR F w' A D := h.chg hc fun _ _ x => x
theorem DevR.nil (F : Nat → Prop) (w : World) (A : Option Addr) : DevR F w A [] := fun k h => by simp at h
end
/-- A block that a call has built: where its pages lie. -/
structure BkO where
  g : Nat
  c : Nat
  wear : Int
  ps : List Pg
  rest : List Value
def BkO.cells (r : BkO) : List Value := [.int .i64 r.wear, .slice (some ⟨r.g, 0, none⟩) r.ps.length r.c]
def BkO.bk (r : BkO) : Bk := ⟨r.wear, r.ps⟩
theorem BkO.cells_length (r : BkO) : r.cells.length = 2 := rfl
def BkO.ok (B E : Nat) (w : World) (r : BkO) : Prop := B ≤ r.g ∧ r.g < E ∧ Blk w r.g 80 (pgs r.ps ++ r.rest).toArray ∧ r.ps.length ≤ r.c
def BksO (B E : Nat) (w : World) (T : List BkO) : Prop := (∀ r ∈ T, r.ok B E w) ∧ (T.map (·.g)).Nodup
def bksOf (T : List BkO) : List Bk := T.map BkO.bk
def bcells (T : List BkO) : List Value := T.flatMap BkO.cells
def DevO (B E : Nat) (w : World) (A : Option Addr) (c : Nat) (T : List BkO) : Prop := OwnS B E w 67 A T.length c (bcells T) ∧ BksO B E w T
theorem ty_page_block : (80 : Nat) ≠ 67 := by decide
theorem bcells_length (T : List BkO) : (bcells T).length = T.length * 2 := flat_length BkO.cells_length T
theorem bcells_append (a b : List BkO) : bcells (a ++ b) = bcells a ++ bcells b := List.flatMap_append
theorem bcells_snoc (T : List BkO) (r : BkO) : bcells (T ++ [r]) = bcells T ++ r.cells := by rw [bcells_append]; simp [bcells]
theorem bksOf_length (T : List BkO) : (bksOf T).length = T.length := by simp [bksOf]
theorem bksOf_get (T : List BkO) (k : Nat) (h : k < (bksOf T).length) : (bksOf T)[k] = ⟨(T[k]'(by rwa [bksOf_length] at h)).wear, (T[k]'(by rwa [bksOf_length] at h)).ps⟩ := by simp [bksOf, BkO.bk]
section
variable {F : Nat → Prop} {w w' : World} {B E B' E' : Nat} {T : List BkO} {A : Option Addr} {c : Nat}
theorem BkO.ok.chg {r : BkO} (h : r.ok B E w) (hc : Chg F w w') (hf : ¬ F r.g) : r.ok B E w' := ⟨h.1, h.2.1, h.2.2.1.chg hc hf, h.2.2.2⟩
theorem BkO.ok.more {r : BkO} (h : r.ok B E w) (hB : B' ≤ B) (hE : E ≤ E') : r.ok B' E' w := ⟨Nat.le_trans hB h.1, Nat.lt_of_lt_of_le h.2.1 hE, h.2.2⟩
theorem BksO.nil (B E : Nat) (w : World) : BksO B E w [] := ⟨fun _ h => absurd h (by simp), List.nodup_nil⟩
theorem BksO.chg (h : BksO B E w T) (hc : Chg F w w') (hf : ∀ i, B ≤ i → i < E → ¬ F i) : BksO B E w' T := ⟨fun r hr => (h.1 r hr).chg hc (hf _ (h.1 r hr).1 (h.1 r hr).2.1), h.2⟩
theorem BksO.new (h : BksO B E w T) (hc : Chg NoB w w') : BksO B E w' T := h.chg hc fun _ _ _ x => x
/-- The blocks' own heads may turn: their pages lie elsewhere. -/
theorem BksO.head {g : Nat} {cs : Array Value} (h : BksO B E w T) (hg : Blk w g 67 cs) (hc : Chg (· = g) w w') : BksO B E w' T :=
  ⟨fun r hr => (h.1 r hr).chg hc fun he => by
    have h1 := (h.1 r hr).2.2.1
    rw [show r.g = g from he] at h1
    unfold Blk at h1 hg
    rw [h1] at hg
    injection hg with hg
    injection hg with _ hg
    exact ty_page_block hg, h.2⟩
theorem BksO.more (h : BksO B E w T) (hB : B' ≤ B) (hE : E ≤ E') : BksO B' E' w T := ⟨fun r hr => (h.1 r hr).more hB hE, h.2⟩
theorem BksO.snoc (h : BksO B E w T) {r : BkO} (hr : r.ok B E' w) (hE : E ≤ r.g) : BksO B E' w (T ++ [r]) := by
  refine ⟨fun q hq => ?_, ?_⟩
  · rcases List.mem_append.1 hq with h1 | h1
    · exact (h.1 q h1).more (Nat.le_refl _) (Nat.le_trans hE (Nat.le_of_lt hr.2.1))
    · simp at h1; subst h1; exact hr
  · rw [List.map_append, List.nodup_append]
    refine ⟨h.2, by simp, fun a ha b hb => ?_⟩
    simp at hb
    obtain ⟨q, hq, rfl⟩ := List.mem_map.1 ha
    have := (h.1 q hq).2.1
    omega
theorem BksO.set_ (h : BksO B E w T) {r : BkO} (k : Nat) (hr : r.ok B E' w) (hE : E ≤ r.g) : BksO B E' w (T.set k r) := by
  have hE' : E ≤ E' := Nat.le_trans hE (Nat.le_of_lt hr.2.1)
  refine ⟨fun q hq => ?_, ?_⟩
  · rcases List.mem_or_eq_of_mem_set hq with h1 | rfl
    · exact (h.1 q h1).more (Nat.le_refl _) hE'
    · exact hr
  · rw [List.map_set, List.nodup_iff_pairwise_ne, List.pairwise_iff_getElem]
    have hp := h.2
    rw [List.nodup_iff_pairwise_ne, List.pairwise_iff_getElem] at hp
    intro i j hi hj hij
    have hi' : i < T.length := by simpa using hi
    have hj' : j < T.length := by simpa using hj
    rw [List.getElem_set, List.getElem_set]
    have hlt : ∀ m (hm : m < T.length), (T.map (·.g))[m]'(by simpa using hm) < E := fun m hm => by
      rw [List.getElem_map]
      exact (h.1 _ (List.getElem_mem hm)).2.1
    have h1 := hp i j (by simpa using hi') (by simpa using hj') hij
    have h2 := hlt i hi'
    have h3 := hlt j hj'
    split <;> split <;> omega
theorem DevO.chg (h : DevO B E w A c T) (hc : Chg F w w') (hf : ∀ i, B ≤ i → i < E → ¬ F i) : DevO B E w' A c T := ⟨h.1.chg hc hf, h.2.chg hc hf⟩
theorem DevO.more (h : DevO B E w A c T) (hB : B' ≤ B) (hE : E ≤ E') : DevO B' E' w A c T := ⟨h.1.more hB hE, h.2.more hB hE⟩
theorem DevO.nil (B E : Nat) (w : World) (A : Option Addr) (c : Nat) : DevO B E w A c [] := ⟨OwnS.empty _ _ _ _ _ _, BksO.nil _ _ _⟩
theorem BkO.ok.rd {r : BkO} (h : r.ok B E w) : Rd (fun i => B ≤ i ∧ i < E) w (some ⟨r.g, 0, none⟩) (pgs r.ps) := fun k v hk => by
  have h1 := (h.2.2.1.rd) k v (by rw [List.getElem?_append_left (List.getElem?_eq_some_iff.1 hk).1]; exact hk)
  obtain ⟨ad, e, hf, hc⟩ := h1
  refine ⟨ad, e, ?_, hc⟩
  rw [hf]
  exact ⟨h.1, h.2.1⟩
theorem DevO.reads (h : DevO B E w A c T) : DevR (fun i => B ≤ i ∧ i < E) w A (bksOf T) := fun k hk => by
  have hk' : k < T.length := by rwa [bksOf_length] at hk
  obtain ⟨b, o, e, hf, _, hc⟩ := Rd.flat (enc := BkO.cells) BkO.cells_length h.1.rd hk' (by omega)
  have hok := h.2.1 T[k] (List.getElem_mem hk')
  rw [bksOf_get T k hk]
  exact ⟨b, o, _, _, e, hf, hc 0 _ rfl, hc 1 _ rfl, hok.rd, hok.2.2.2⟩
end
end Go.Proofs.Ytpiojofmflfkkaa
/- PageValid and BlockValid, of the program and of the reference. -/
namespace Go.Proofs.Ytpiojofmflfkkaa
open Go.RowKit
theorem bool_dec {b : Bool} {p : Prop} [Decidable p] (h : b = true ↔ p) : b = decide p := by rw [Bool.eq_iff_iff, decide_eq_true_iff]; exact h
abbrev pval (p : Pg) : Value := .agg #[.bool p.full, .int .i64 p.file, .int .i64 p.place, .int .i64 p.value, .int .i64 p.stamp]
abbrev pbox (p : Pg) : Obj := .cells #[.bool p.full, .int .i64 p.file, .int .i64 p.place, .int .i64 p.value, .int .i64 p.stamp] 80
theorem pgOk_no {p : Pg} (h : p.full = false) : PgOk p ↔ p.file = 0 ∧ p.place = 0 ∧ p.value = 0 ∧ p.stamp = 0 := by
  unfold PgOk; rw [h]; simp
theorem pgOk_yes {p : Pg} (h : p.full = true) : PgOk p ↔ (0 ≤ p.file ∧ p.file ≤ 7) ∧ (0 ≤ p.place ∧ p.place ≤ 5) ∧ (0 ≤ p.value ∧ p.value ≤ 9999) ∧ (1 ≤ p.stamp ∧ p.stamp ≤ 1000000) := by
  unfold PgOk; rw [h]; simp
set_option maxRecDepth 100000 in
set_option maxHeartbeats 1000000 in
theorem iPageValid_any (p : Pg) (w : World) :
    Calls Try.prog 129 #[pval p] w fun e w' => e = .returned (.bool (decide (PgOk p))) ∧ Chg NoB w w' := by
  obtain ⟨f, fi, pl, va, st⟩ := p
  cases f
  · go_enter Try.func129, Try.ntmps129
    go_wp2
    all_goals go_ret
    all_goals refine ⟨ret_bool (bool_dec ?_), (Chg.refl _ _).alloc _⟩
    all_goals rw [pgOk_no rfl]
    all_goals simp [*]
  · go_enter Try.func129, Try.ntmps129
    go_wp2
    all_goals go_ret
    all_goals refine ⟨ret_bool (bool_dec ?_), (Chg.refl _ _).alloc _⟩
    all_goals rw [pgOk_yes rfl]
    all_goals (simp <;> omega)
theorem iPageValid_t (p : Pg) (w : World) (h : PgOk p) : Calls Try.prog 129 #[pval p] w fun e w' => e = .returned (.bool true) ∧ Chg NoB w w' :=
  (iPageValid_any p w).mono fun e w' ⟨he, hw⟩ => ⟨by rw [he, decide_eq_true h], hw⟩
theorem iPageValid_f (p : Pg) (w : World) (h : ¬ PgOk p) : Calls Try.prog 129 #[pval p] w fun e w' => e = .returned (.bool false) ∧ Chg NoB w w' :=
  (iPageValid_any p w).mono fun e w' ⟨he, hw⟩ => ⟨by rw [he, decide_eq_false h], hw⟩
set_option maxRecDepth 100000 in
set_option maxHeartbeats 1000000 in
theorem sPageValid_any (p : Pg) (w : World) :
    Calls Try.prog 133 #[pval p] w fun e w' => e = .returned (.bool (decide (PgOk p))) ∧ Chg NoB w w' := by
  obtain ⟨f, fi, pl, va, st⟩ := p
  cases f
  · go_enter Try.func133, Try.ntmps133
    go_wp2
    all_goals go_ret
    all_goals refine ⟨ret_bool (bool_dec ?_), (Chg.refl _ _).alloc _⟩
    all_goals rw [pgOk_no rfl]
    all_goals simp [*]
  · go_enter Try.func133, Try.ntmps133
    go_wp2_with fail
    by_cases h1 : 0 ≤ fi ∧ fi ≤ 7
    case neg =>
      have H := Lib.hid h1
      clear h1
      refine (l1In_f _ _ _ _ H.out).mono ?_
      rintro e w' ⟨rfl, rfl⟩
      go_wp2
      go_ret
      exact ⟨ret_bool (decide_eq_false fun hh => H.out ((pgOk_yes rfl).1 hh).1).symm, (Chg.refl _ _).alloc _⟩
    have H1 := Lib.hid h1
    clear h1
    refine (l1In_t _ _ _ _ H1.out).mono ?_
    rintro e w' ⟨rfl, rfl⟩
    go_wp2_with fail
    by_cases h2 : 0 ≤ pl ∧ pl ≤ 5
    case neg =>
      have H := Lib.hid h2
      clear h2
      refine (l1In_f _ _ _ _ H.out).mono ?_
      rintro e w' ⟨rfl, rfl⟩
      go_wp2
      go_ret
      exact ⟨ret_bool (decide_eq_false fun hh => H.out ((pgOk_yes rfl).1 hh).2.1).symm, (Chg.refl _ _).alloc _⟩
    have H2 := Lib.hid h2
    clear h2
    refine (l1In_t _ _ _ _ H2.out).mono ?_
    rintro e w' ⟨rfl, rfl⟩
    go_wp2_with fail
    by_cases h3 : 0 ≤ va ∧ va ≤ 9999
    case neg =>
      have H := Lib.hid h3
      clear h3
      refine (l1In_f _ _ _ _ H.out).mono ?_
      rintro e w' ⟨rfl, rfl⟩
      go_wp2
      go_ret
      exact ⟨ret_bool (decide_eq_false fun hh => H.out ((pgOk_yes rfl).1 hh).2.2.1).symm, (Chg.refl _ _).alloc _⟩
    have H3 := Lib.hid h3
    clear h3
    refine (l1In_t _ _ _ _ H3.out).mono ?_
    rintro e w' ⟨rfl, rfl⟩
    go_wp2_with fail
    by_cases h4 : 1 ≤ st ∧ st ≤ 1000000
    case neg =>
      have H := Lib.hid h4
      clear h4
      refine (l1In_f _ _ _ _ H.out).mono ?_
      rintro e w' ⟨rfl, rfl⟩
      go_wp2
      go_ret
      exact ⟨ret_bool (decide_eq_false fun hh => H.out ((pgOk_yes rfl).1 hh).2.2.2).symm, (Chg.refl _ _).alloc _⟩
    have H4 := Lib.hid h4
    clear h4
    refine (l1In_t _ _ _ _ H4.out).mono ?_
    rintro e w' ⟨rfl, rfl⟩
    go_wp2
    go_ret
    exact ⟨ret_bool (decide_eq_true ((pgOk_yes rfl).2 ⟨H1.out, H2.out, H3.out, H4.out⟩)).symm, (Chg.refl _ _).alloc _⟩
theorem sPageValid_t (p : Pg) (w : World) (h : PgOk p) : Calls Try.prog 133 #[pval p] w fun e w' => e = .returned (.bool true) ∧ Chg NoB w w' :=
  (sPageValid_any p w).mono fun e w' ⟨he, hw⟩ => ⟨by rw [he, decide_eq_true h], hw⟩
theorem sPageValid_f (p : Pg) (w : World) (h : ¬ PgOk p) : Calls Try.prog 133 #[pval p] w fun e w' => e = .returned (.bool false) ∧ Chg NoB w w' :=
  (sPageValid_any p w).mono fun e w' ⟨he, hw⟩ => ⟨by rw [he, decide_eq_false h], hw⟩
end Go.Proofs.Ytpiojofmflfkkaa
/- BlockValid of the program. -/
namespace Go.Proofs.Ytpiojofmflfkkaa
open Go.RowKit
theorem bkOk_mk {we : Int} {ps : List Pg} (h1 : 0 ≤ we) (h2 : we ≤ 100) (h3 : ps.length = 4) (h4 : PgsOk ps) : BkOk ⟨we, ps⟩ := ⟨⟨h1, h2⟩, h3, h4⟩
theorem getD_pred {ps : List Pg} {j : Nat} (h : j < ps.length) : ps.getD (j + 1 - 1) zPg = ps[j] := by
  rw [Nat.add_sub_cancel, List.getD_eq_getElem?_getD, List.getElem?_eq_getElem h]; rfl
set_option maxRecDepth 100000 in
set_option maxHeartbeats 2000000 in
theorem iBlockValid_any (F : Nat → Prop) (A : Option Addr) (c : Nat) (b : Bk) (w : World) (h : Rd F w A (pgs b.pages)) :
    Calls Try.prog 68 #[.agg #[.int .i64 b.wear, .slice A b.pages.length c]] w fun e w' => e = .returned (.bool (decide (BkOk b))) ∧ Chg NoB w w' := by
  obtain ⟨we, ps⟩ := b
  simp only at h ⊢
  have hca := (Chg.refl NoB w).alloc (.cells #[.int .i64 we, .slice A ps.length c] 67)
  have HB := Lib.hid (Blk.new w 67 #[.int .i64 we, .slice A ps.length c])
  have HC := Lib.hid hca
  have HR := Lib.hid (h.new hca)
  clear hca h
  by_cases h0 : 0 ≤ we
  case neg =>
    go_enter Try.func68, Try.ntmps68
    go_wp2
    go_ret
    exact ⟨ret_bool (decide_eq_false fun hh => by have h : 0 ≤ we := hh.1.1; omega).symm, HC.out⟩
  by_cases h1 : we ≤ 100
  case neg =>
    go_enter Try.func68, Try.ntmps68
    go_wp2
    go_ret
    exact ⟨ret_bool (decide_eq_false fun hh => by have h : we ≤ 100 := hh.1.2; omega).symm, HC.out⟩
  by_cases h4 : ps.length = 4
  case neg =>
    have h4' : ((ps.length : Int) != 4) = true := by rw [bne_iff_ne]; omega
    go_enter Try.func68, Try.ntmps68
    go_wp2
    go_ret
    exact ⟨ret_bool (decide_eq_false fun hh => h4 hh.2.1).symm, HC.out⟩
  have H4 := Lib.hid h4
  have HW := Lib.hid (fun h4 => bkOk_mk h0 h1 H4.out h4)
  rw [h4] at HB HC HR ⊢
  clear h4
  go_enter Try.func68, Try.ntmps68
  go_wp2
  go_loopw [22] (fun i wr => ∃ k : Nat, k ≤ 4 ∧ i = .int .i64 k ∧ Chg NoB w wr ∧ Blk wr w.heap.size 67 #[.int .i64 we, .slice A 4 c] ∧ Rd F wr A (pgs ps) ∧ Hid (PgsTo ps k)) (fun i _ => 4 - (intOf i).toNat)
  case atStart => exact ⟨0, Nat.zero_le _, rfl, HC.out, HB.out, HR.out, Lib.hid (PgsTo.zero _)⟩
  case round =>
    obtain ⟨k, hk4, rfl, hch, hb, hr, hto⟩ := hrel
    by_cases hlt : k < 4
    · have hk : k < ps.length := by have := H4.out; omega
      obtain ⟨bb, o, rfl, hf, hbl, c0, c1, c2, c3, c4⟩ := pgs_at hr hk
      have hi0 : (0 : Int) ≤ (k : Int) := Int.natCast_nonneg _
      have hi1 : (k : Int) < 4 := by omega
      have HCH := Lib.hid hch
      have HBK := Lib.hid hb
      have HRD := Lib.hid hr
      clear hch hb hr
      go_wp2_with fail
      by_cases hp : PgOk ps[k]
      case neg =>
        have HP := Lib.hid hp
        clear hp
        refine (iPageValid_f ps[k] _ HP.out).mono ?_
        rintro e w1 ⟨rfl, hc1⟩
        have HCC := Lib.hid ((HCH.out.alloc _).trans hc1)
        clear hc1
        go_wp2
        go_ret
        exact ⟨ret_bool (decide_eq_false fun hh => HP.out (hh.2.2 k hk).1).symm, HCC.out⟩
      have HP := Lib.hid hp
      clear hp
      refine (iPageValid_t ps[k] _ HP.out).mono ?_
      rintro e w1 ⟨rfl, hc1⟩
      have hc2 := ((Chg.refl NoB wr).alloc (pbox ps[k])).trans hc1
      have HX := Lib.hid ((Blk.new wr 80 #[.bool ps[k].full, .int .i64 ps[k].file, .int .i64 ps[k].place, .int .i64 ps[k].value, .int .i64 ps[k].stamp]).chg hc1 (fun x => x))
      have HCC := Lib.hid (HCH.out.trans hc2)
      have HBB := Lib.hid (HBK.out.chg hc2 (fun x => x))
      have HRR := Lib.hid (HRD.out.new hc2)
      have x0 : w1.cell? ⟨wr.heap.size, 0, none⟩ = some (.bool ps[k].full) := (HX.out.cell _).trans rfl
      have z1 : w1.cell? ⟨w.heap.size, 1, none⟩ = some (.slice (some ⟨bb, o, none⟩) 4 c) := (HBB.out.cell _).trans rfl
      clear hc1 hc2 c0 c1 c2 c3 c4
      rcases k with _ | j
      · go_wp2
        go_roundw
        case rel => exact ⟨1, by omega, by go_num, HCC.out, HBB.out, HRR.out, Lib.hid (hto.out.succ hk HP.out (fun h => by omega))⟩
        case measure => simp [intOf]
      · have hj : j < ps.length := by omega
        obtain ⟨bb', o', e1, hf', hbl', d0, -⟩ := pgs_at HRR.out hj
        cases e1
        have HG := Lib.hid (getD_pred hj)
        by_cases hfull : ps[j + 1].full = true
        · by_cases hprev : ps[j].full = true
          · have HF := Lib.hid hprev
            rw [hprev] at d0
            rw [hfull] at x0
            clear hfull hprev
            go_wp2
            go_roundw
            case rel => exact ⟨j + 1 + 1, by omega, by go_num, HCC.out, HBB.out, HRR.out, Lib.hid (hto.out.succ hk HP.out (fun _ _ => by rw [HG.out]; exact HF.out))⟩
            case measure => simp [intOf]; omega
          · have hprev' : ps[j].full = false := by simpa using hprev
            have HF := Lib.hid hprev
            have HF2 := Lib.hid hfull
            rw [hprev'] at d0
            rw [hfull] at x0
            clear hfull hprev hprev'
            go_wp2
            go_ret
            exact ⟨ret_bool (decide_eq_false fun hh => HF.out (by rw [← HG.out]; exact (hh.2.2 (j + 1) hk).2 (by omega) HF2.out)).symm, HCC.out⟩
        · have hfull' : ps[j + 1].full = false := by simpa using hfull
          have HF := Lib.hid hfull
          rw [hfull'] at x0
          clear hfull hfull'
          go_wp2
          go_roundw
          case rel => exact ⟨j + 1 + 1, by omega, by go_num, HCC.out, HBB.out, HRR.out, Lib.hid (hto.out.succ hk HP.out (fun _ h => absurd h HF.out))⟩
          case measure => simp [intOf]; omega
    · have HCH := Lib.hid hch
      have HEND := Lib.hid (HW.out (hto.out.all (by have := H4.out; omega)))
      clear hch hb hr
      go_wp2
      go_ret
      exact ⟨ret_bool (decide_eq_true HEND.out).symm, HCH.out⟩
theorem iBlockValid_t (F : Nat → Prop) (A : Option Addr) (c : Nat) (b : Bk) (w : World) (h : Rd F w A (pgs b.pages)) (hb : BkOk b) :
    Calls Try.prog 68 #[.agg #[.int .i64 b.wear, .slice A b.pages.length c]] w fun e w' => e = .returned (.bool true) ∧ Chg NoB w w' :=
  (iBlockValid_any F A c b w h).mono fun e w' ⟨he, hw⟩ => ⟨by rw [he, decide_eq_true hb], hw⟩
theorem iBlockValid_f (F : Nat → Prop) (A : Option Addr) (c : Nat) (b : Bk) (w : World) (h : Rd F w A (pgs b.pages)) (hb : ¬ BkOk b) :
    Calls Try.prog 68 #[.agg #[.int .i64 b.wear, .slice A b.pages.length c]] w fun e w' => e = .returned (.bool false) ∧ Chg NoB w w' :=
  (iBlockValid_any F A c b w h).mono fun e w' ⟨he, hw⟩ => ⟨by rw [he, decide_eq_false hb], hw⟩
end Go.Proofs.Ytpiojofmflfkkaa
/- BlockValid of the reference. -/
namespace Go.Proofs.Ytpiojofmflfkkaa
open Go.RowKit
set_option maxRecDepth 100000 in
set_option maxHeartbeats 2000000 in
theorem sBlockValid_any (F : Nat → Prop) (A : Option Addr) (c : Nat) (b : Bk) (w : World) (h : Rd F w A (pgs b.pages)) (hl : b.pages.length ≤ 9223372036854775807) :
    Calls Try.prog 126 #[.agg #[.int .i64 b.wear, .slice A b.pages.length c]] w fun e w' => e = .returned (.bool (decide (BkOk b))) ∧ Chg NoB w w' := by
  obtain ⟨we, ps⟩ := b
  simp only at h hl ⊢
  have hca := (Chg.refl NoB w).alloc (.cells #[.int .i64 we, .slice A ps.length c] 67)
  have HB := Lib.hid (Blk.new w 67 #[.int .i64 we, .slice A ps.length c])
  have HC := Lib.hid hca
  have HR := Lib.hid (h.new hca)
  clear hca h
  go_enter Try.func126, Try.ntmps126
  go_wp2
  go_loopw [3] (fun i wr => ∃ k : Nat, k ≤ ps.length ∧ i = .int .i64 k ∧ Chg NoB w wr ∧ Blk wr w.heap.size 67 #[.int .i64 we, .slice A ps.length c] ∧ Rd F wr A (pgs ps) ∧ Hid (PgsTo ps k)) (fun i _ => ps.length - (intOf i).toNat)
  case atStart => exact ⟨0, Nat.zero_le _, rfl, HC.out, HB.out, HR.out, Lib.hid (PgsTo.zero _)⟩
  case round =>
    obtain ⟨k, hk4, rfl, hch, hb, hr, hto⟩ := hrel
    have z1 : wr.cell? ⟨w.heap.size, 1, none⟩ = some (.slice A ps.length c) := (hb.cell _).trans rfl
    by_cases hk : k < ps.length
    · obtain ⟨bb, o, rfl, hf, hbl, c0, c1, c2, c3, c4⟩ := pgs_at hr hk
      have hi0 : (0 : Int) ≤ (k : Int) := Int.natCast_nonneg _
      have hi1 : (k : Int) < (ps.length : Int) := by omega
      have HCH := Lib.hid hch
      have HBK := Lib.hid hb
      have HRD := Lib.hid hr
      clear hch hb hr
      go_wp2_with fail
      by_cases hp : PgOk ps[k]
      case neg =>
        have HP := Lib.hid hp
        clear hp
        refine (sPageValid_f ps[k] _ HP.out).mono ?_
        rintro e w1 ⟨rfl, hc1⟩
        have HCC := Lib.hid (HCH.out.trans hc1)
        clear hc1
        go_wp2
        go_ret
        exact ⟨ret_bool (decide_eq_false fun hh => HP.out (hh.2.2 k hk).1).symm, HCC.out⟩
      have HP := Lib.hid hp
      clear hp
      refine (sPageValid_t ps[k] _ HP.out).mono ?_
      rintro e w1 ⟨rfl, hc1⟩
      have HCC := Lib.hid (HCH.out.trans hc1)
      have HBB := Lib.hid (HBK.out.chg hc1 (fun x => x))
      have HRR := Lib.hid (HRD.out.new hc1)
      have x0 : w1.cell? ⟨bb, o + k * 5, none⟩ = some (.bool ps[k].full) := hc1.cell c0 (fun x => x)
      have z1 : w1.cell? ⟨w.heap.size, 1, none⟩ = some (.slice (some ⟨bb, o, none⟩) ps.length c) := (HBB.out.cell _).trans rfl
      clear hc1 c0 c1 c2 c3 c4
      rcases k with _ | j
      · go_wp2
        go_roundw
        case rel => exact ⟨1, by omega, by go_num, HCC.out, HBB.out, HRR.out, Lib.hid (hto.out.succ hk HP.out (fun h => by omega))⟩
        case measure => simp [intOf]; omega
      · have hj : j < ps.length := by omega
        have hj1 : (j : Int) < (ps.length : Int) := by omega
        obtain ⟨bb', o', e1, hf', hbl', d0, -⟩ := pgs_at HRR.out hj
        cases e1
        have HG := Lib.hid (getD_pred hj)
        by_cases hfull : ps[j + 1].full = true
        · by_cases hprev : ps[j].full = true
          · have HF := Lib.hid hprev
            rw [hprev] at d0
            rw [hfull] at x0
            clear hfull hprev
            go_wp2
            go_roundw
            case rel => exact ⟨j + 1 + 1, by omega, by go_num, HCC.out, HBB.out, HRR.out, Lib.hid (hto.out.succ hk HP.out (fun _ _ => by rw [HG.out]; exact HF.out))⟩
            case measure => simp [intOf]; omega
          · have hprev' : ps[j].full = false := by simpa using hprev
            have HF := Lib.hid hprev
            have HF2 := Lib.hid hfull
            rw [hprev'] at d0
            rw [hfull] at x0
            clear hfull hprev hprev'
            go_wp2
            go_ret
            exact ⟨ret_bool (decide_eq_false fun hh => HF.out (by rw [← HG.out]; exact (hh.2.2 (j + 1) hk).2 (by omega) HF2.out)).symm, HCC.out⟩
        · have hfull' : ps[j + 1].full = false := by simpa using hfull
          have HF := Lib.hid hfull
          rw [hfull'] at x0
          clear hfull hfull'
          go_wp2
          go_roundw
          case rel => exact ⟨j + 1 + 1, by omega, by go_num, HCC.out, HBB.out, HRR.out, Lib.hid (hto.out.succ hk HP.out (fun _ h => absurd h HF.out))⟩
          case measure => simp [intOf]; omega
    · have z0 : wr.cell? ⟨w.heap.size, 0, none⟩ = some (.int .i64 we) := (hb.cell _).trans rfl
      have HCH := Lib.hid hch
      have HEND := Lib.hid (hto.out.all (by omega))
      clear hch hb hr
      go_wp2_with fail
      by_cases hw : 0 ≤ we ∧ we ≤ 100
      · have HW := Lib.hid hw
        clear hw
        refine (l1In_t _ _ _ _ HW.out).mono ?_
        rintro e w1 ⟨rfl, rfl⟩
        by_cases h4 : ps.length = 4
        · have H4 := Lib.hid h4
          have h4' : ((ps.length : Int) == 4) = true := by rw [beq_iff_eq]; omega
          clear h4
          go_wp2
          go_ret
          exact ⟨ret_bool (decide_eq_true ⟨HW.out, H4.out, HEND.out⟩).symm, HCH.out⟩
        · have H4 := Lib.hid h4
          have h4' : ((ps.length : Int) == 4) = false := by rw [beq_eq_false_iff_ne]; omega
          clear h4
          go_wp2
          go_ret
          exact ⟨ret_bool (decide_eq_false fun hh => H4.out hh.2.1).symm, HCH.out⟩
      · have HW := Lib.hid hw
        clear hw
        refine (l1In_f _ _ _ _ HW.out).mono ?_
        rintro e w1 ⟨rfl, rfl⟩
        go_wp2
        go_ret
        exact ⟨ret_bool (decide_eq_false fun hh => HW.out hh.1).symm, HCH.out⟩
theorem sBlockValid_t (F : Nat → Prop) (A : Option Addr) (c : Nat) (b : Bk) (w : World) (h : Rd F w A (pgs b.pages)) (hb : BkOk b) :
    Calls Try.prog 126 #[.agg #[.int .i64 b.wear, .slice A b.pages.length c]] w fun e w' => e = .returned (.bool true) ∧ Chg NoB w w' :=
  (sBlockValid_any F A c b w h (by rw [hb.2.1]; omega)).mono fun e w' ⟨he, hw⟩ => ⟨by rw [he, decide_eq_true hb], hw⟩
theorem sBlockValid_f (F : Nat → Prop) (A : Option Addr) (c : Nat) (b : Bk) (w : World) (h : Rd F w A (pgs b.pages)) (hl : b.pages.length ≤ 9223372036854775807) (hb : ¬ BkOk b) :
    Calls Try.prog 126 #[.agg #[.int .i64 b.wear, .slice A b.pages.length c]] w fun e w' => e = .returned (.bool false) ∧ Chg NoB w w' :=
  (sBlockValid_any F A c b w h hl).mono fun e w' ⟨he, hw⟩ => ⟨by rw [he, decide_eq_false hb], hw⟩
end Go.Proofs.Ytpiojofmflfkkaa
/- DeviceValid of the program and of the reference. -/
namespace Go.Proofs.Ytpiojofmflfkkaa
open Go.RowKit
theorem DvTo.all {D : List Bk} {n : Nat} (h : DvTo D n) (hn : D.length ≤ n) : ∀ k (h : k < D.length), BkOk D[k] := fun k hk => h k hk (by omega)
set_option maxRecDepth 100000 in
set_option maxHeartbeats 1000000 in
theorem iDeviceValid_any (F : Nat → Prop) (A : Option Addr) (c : Nat) (D : List Bk) (w : World) (h : DevR F w A D) :
    Calls Try.prog 15 #[.slice A D.length c] w fun e w' => e = .returned (.bool (decide (DvOk D))) ∧ Chg NoB w w' := by
  by_cases h1 : 1 ≤ D.length
  case neg =>
    go_enter Try.func15, Try.ntmps15
    go_wp2
    go_ret
    exact ⟨ret_bool (decide_eq_false fun hh => by have := hh.1.1; omega).symm, Chg.refl _ _⟩
  by_cases h2 : D.length ≤ 12
  case neg =>
    go_enter Try.func15, Try.ntmps15
    go_wp2
    go_ret
    exact ⟨ret_bool (decide_eq_false fun hh => by have := hh.1.2; omega).symm, Chg.refl _ _⟩
  have HR := Lib.hid h
  clear h
  go_enter Try.func15, Try.ntmps15
  go_wp2
  go_loopw [15] (fun i wr => ∃ k : Nat, k ≤ D.length ∧ i = .int .i64 k ∧ Chg NoB w wr ∧ Hid (DvTo D k)) (fun i _ => D.length - (intOf i).toNat)
  case atStart => exact ⟨0, Nat.zero_le _, rfl, Chg.refl _ _, Lib.hid (DvTo.zero _)⟩
  case round =>
    obtain ⟨k, hkl, rfl, hch, hto⟩ := hrel
    by_cases hk : k < D.length
    · obtain ⟨bb, o, A', c', rfl, hf, c0, c1, hr, hcc⟩ := (HR.out.new hch) k hk
      have hi0 : (0 : Int) ≤ (k : Int) := Int.natCast_nonneg _
      have hi1 : (k : Int) < (D.length : Int) := by omega
      have HCH := Lib.hid hch
      have HRD := Lib.hid hr
      clear hch hr
      go_wp2_with fail
      have HRA := HRD.out.new ((Chg.refl NoB wr).alloc (.cells #[.int .i64 D[k].wear, .slice A' D[k].pages.length c'] 67))
      by_cases hb : BkOk D[k]
      · have HB := Lib.hid hb
        clear hb
        refine (iBlockValid_t _ _ _ D[k] _ HRA HB.out).mono ?_
        rintro e w1 ⟨rfl, hc1⟩
        have HCC := Lib.hid ((HCH.out.alloc _).trans hc1)
        clear hc1 HRA
        go_wp2
        go_roundw
        case rel => exact ⟨k + 1, by omega, by go_num, HCC.out, Lib.hid (hto.out.succ hk HB.out)⟩
        case measure => simp [intOf]; omega
      · have HB := Lib.hid hb
        clear hb
        refine (iBlockValid_f _ _ _ D[k] _ HRA HB.out).mono ?_
        rintro e w1 ⟨rfl, hc1⟩
        have HCC := Lib.hid ((HCH.out.alloc _).trans hc1)
        clear hc1 HRA
        go_wp2
        go_ret
        exact ⟨ret_bool (decide_eq_false fun hh => HB.out (hh.2 k hk)).symm, HCC.out⟩
    · have HCH := Lib.hid hch
      have HE := Lib.hid (show DvOk D from ⟨⟨h1, h2⟩, hto.out.all (by omega)⟩)
      clear hch
      go_wp2
      go_ret
      exact ⟨ret_bool (decide_eq_true HE.out).symm, HCH.out⟩
theorem iDeviceValid_t (F : Nat → Prop) (A : Option Addr) (c : Nat) (D : List Bk) (w : World) (h : DevR F w A D) (hd : DvOk D) :
    Calls Try.prog 15 #[.slice A D.length c] w fun e w' => e = .returned (.bool true) ∧ Chg NoB w w' :=
  (iDeviceValid_any F A c D w h).mono fun e w' ⟨he, hw⟩ => ⟨by rw [he, decide_eq_true hd], hw⟩
theorem iDeviceValid_f (F : Nat → Prop) (A : Option Addr) (c : Nat) (D : List Bk) (w : World) (h : DevR F w A D) (hd : ¬ DvOk D) :
    Calls Try.prog 15 #[.slice A D.length c] w fun e w' => e = .returned (.bool false) ∧ Chg NoB w w' :=
  (iDeviceValid_any F A c D w h).mono fun e w' ⟨he, hw⟩ => ⟨by rw [he, decide_eq_false hd], hw⟩
/-- No list of a device is longer than a slice can be. -/
def Small (D : List Bk) : Prop := D.length ≤ 9223372036854775807 ∧ ∀ k (h : k < D.length), D[k].pages.length ≤ 9223372036854775807
theorem DvOk.small {D : List Bk} (h : DvOk D) : Small D := ⟨by have := h.1.2; omega, fun k hk => by have := (h.2 k hk).2.1; omega⟩
set_option maxRecDepth 100000 in
set_option maxHeartbeats 1000000 in
theorem sDeviceValid_any (F : Nat → Prop) (A : Option Addr) (c : Nat) (D : List Bk) (w : World) (h : DevR F w A D) (hs : Small D) :
    Calls Try.prog 65 #[.slice A D.length c] w fun e w' => e = .returned (.bool (decide (DvOk D))) ∧ Chg NoB w w' := by
  have HR := Lib.hid h
  have HS := Lib.hid hs.2
  have hs1 := hs.1
  clear h hs
  go_enter Try.func65, Try.ntmps65
  go_wp2
  go_loopw [3] (fun i wr => ∃ k : Nat, k ≤ D.length ∧ i = .int .i64 k ∧ Chg NoB w wr ∧ Hid (DvTo D k)) (fun i _ => D.length - (intOf i).toNat)
  case atStart => exact ⟨0, Nat.zero_le _, rfl, Chg.refl _ _, Lib.hid (DvTo.zero _)⟩
  case round =>
    obtain ⟨k, hkl, rfl, hch, hto⟩ := hrel
    by_cases hk : k < D.length
    · obtain ⟨bb, o, A', c', rfl, hf, c0, c1, hr, hcc⟩ := (HR.out.new hch) k hk
      have hi0 : (0 : Int) ≤ (k : Int) := Int.natCast_nonneg _
      have hi1 : (k : Int) < (D.length : Int) := by omega
      have HCH := Lib.hid hch
      have HRD := Lib.hid hr
      clear hch hr
      go_wp2_with fail
      by_cases hb : BkOk D[k]
      · have HB := Lib.hid hb
        clear hb
        refine (sBlockValid_t _ _ _ D[k] _ HRD.out HB.out).mono ?_
        rintro e w1 ⟨rfl, hc1⟩
        have HCC := Lib.hid (HCH.out.trans hc1)
        clear hc1
        go_wp2
        go_roundw
        case rel => exact ⟨k + 1, by omega, by go_num, HCC.out, Lib.hid (hto.out.succ hk HB.out)⟩
        case measure => simp [intOf]; omega
      · have HB := Lib.hid hb
        clear hb
        refine (sBlockValid_f _ _ _ D[k] _ HRD.out (HS.out k hk) HB.out).mono ?_
        rintro e w1 ⟨rfl, hc1⟩
        have HCC := Lib.hid (HCH.out.trans hc1)
        clear hc1
        go_wp2
        go_ret
        exact ⟨ret_bool (decide_eq_false fun hh => HB.out (hh.2 k hk)).symm, HCC.out⟩
    · have HCH := Lib.hid hch
      have HE := Lib.hid (hto.out.all (show D.length ≤ k by omega))
      clear hch
      go_wp2_with fail
      by_cases hl : 1 ≤ (D.length : Int) ∧ (D.length : Int) ≤ 12
      · have HL := Lib.hid hl
        clear hl
        refine (l1In_t _ _ _ _ HL.out).mono ?_
        rintro e w1 ⟨rfl, rfl⟩
        go_wp2
        go_ret
        exact ⟨ret_bool (decide_eq_true ⟨by have := HL.out; omega, HE.out⟩).symm, HCH.out⟩
      · have HL := Lib.hid hl
        clear hl
        refine (l1In_f _ _ _ _ HL.out).mono ?_
        rintro e w1 ⟨rfl, rfl⟩
        go_wp2
        go_ret
        exact ⟨ret_bool (decide_eq_false fun hh => HL.out (by have := hh.1; omega)).symm, HCH.out⟩
theorem sDeviceValid_t (F : Nat → Prop) (A : Option Addr) (c : Nat) (D : List Bk) (w : World) (h : DevR F w A D) (hd : DvOk D) :
    Calls Try.prog 65 #[.slice A D.length c] w fun e w' => e = .returned (.bool true) ∧ Chg NoB w w' :=
  (sDeviceValid_any F A c D w h hd.small).mono fun e w' ⟨he, hw⟩ => ⟨by rw [he, decide_eq_true hd], hw⟩
theorem sDeviceValid_f (F : Nat → Prop) (A : Option Addr) (c : Nat) (D : List Bk) (w : World) (h : DevR F w A D) (hs : Small D) (hd : ¬ DvOk D) :
    Calls Try.prog 65 #[.slice A D.length c] w fun e w' => e = .returned (.bool false) ∧ Chg NoB w w' :=
  (sDeviceValid_any F A c D w h hs).mono fun e w' ⟨he, hw⟩ => ⟨by rw [he, decide_eq_false hd], hw⟩
end Go.Proofs.Ytpiojofmflfkkaa
/- The laws' helpers on devices: copies, sizes, comparisons. -/
namespace Go.Proofs.Ytpiojofmflfkkaa
open Go.RowKit
theorem info_page : (Try.prog.info? 80).map (fun i => (i.zero, i.size, i.bytes)) = some (some (.agg #[.bool false, .int .i64 0, .int .i64 0, .int .i64 0, .int .i64 0]), 5, 40) := by kernel_rfl
theorem info_block : (Try.prog.info? 67).map (fun i => (i.zero, i.size, i.bytes)) = some (some (.agg #[.int .i64 0, .slice none 0 0]), 2, 32) := by kernel_rfl
theorem Blk.room5 {w : World} {g k : Nat} {t : TypeId} {A R : List Value} {z0 z1 z2 z3 z4 : Value} (h : Blk w g t (A ++ z0 :: z1 :: z2 :: z3 :: z4 :: R).toArray) (hk : A.length = k) :
    w.cell? ⟨g, k, none⟩ = some z0 ∧ w.cell? ⟨g, k + 1, none⟩ = some z1 ∧ w.cell? ⟨g, k + 2, none⟩ = some z2 ∧ w.cell? ⟨g, k + 3, none⟩ = some z3 ∧ w.cell? ⟨g, k + 4, none⟩ = some z4 :=
  ⟨h.room hk, Blk.roomAt (B := [z0]) h hk rfl, Blk.roomAt (B := [z0, z1]) h hk rfl, Blk.roomAt (B := [z0, z1, z2]) h hk rfl, Blk.roomAt (B := [z0, z1, z2, z3]) h hk rfl⟩
theorem Blk.room2 {w : World} {g k : Nat} {t : TypeId} {A R : List Value} {z0 z1 : Value} (h : Blk w g t (A ++ z0 :: z1 :: R).toArray) (hk : A.length = k) :
    w.cell? ⟨g, k, none⟩ = some z0 ∧ w.cell? ⟨g, k + 1, none⟩ = some z1 :=
  ⟨h.room hk, Blk.roomAt (B := [z0]) h hk rfl⟩
def pagesTo (D : List Bk) (k : Nat) : Nat := D.length + ((D.take k).map fun b => b.pages.length).sum
def devSize (D : List Bk) : Nat := D.length + (D.map fun b => b.pages.length).sum
theorem pagesTo_succ (D : List Bk) (k : Nat) (h : k < D.length) : pagesTo D (k + 1) = pagesTo D k + D[k].pages.length := by
  unfold pagesTo; rw [List.take_succ_eq_append_getElem h, List.map_append, List.sum_append]; simp; omega
theorem pagesTo_le (D : List Bk) (k : Nat) : pagesTo D k ≤ devSize D := by
  unfold pagesTo devSize
  have : (D.map fun b => b.pages.length).sum = ((D.take k).map fun b => b.pages.length).sum + ((D.drop k).map fun b => b.pages.length).sum := by
    rw [← List.sum_append, ← List.map_append, List.take_append_drop]
  omega
theorem devSize_page (D : List Bk) (k : Nat) (h : k < D.length) : D[k].pages.length ≤ devSize D := by
  have := pagesTo_succ D k h
  have := pagesTo_le D (k + 1)
  omega
theorem devSize_len (D : List Bk) : D.length ≤ devSize D := by unfold devSize; omega
end Go.Proofs.Ytpiojofmflfkkaa
/- WearTotal and WearSpread of the program and of the reference. -/
namespace Go.Proofs.Ytpiojofmflfkkaa
open Go.RowKit
theorem wearAt_eq {D : List Bk} {k : Nat} (h : k < D.length) : wearAt D k = D[k].wear := by
  unfold wearAt; rw [List.getD_eq_getElem?_getD, List.getElem?_eq_getElem h]; rfl
end Go.Proofs.Ytpiojofmflfkkaa
/- BlockNext, writtenPages, FreePages. -/
namespace Go.Proofs.Ytpiojofmflfkkaa
open Go.RowKit
/-- The first n pages are full. -/
def FullTo (ps : List Pg) (n : Nat) : Prop := ∀ k (h : k < ps.length), k < n → ps[k].full = true
theorem FullTo.zero (ps : List Pg) : FullTo ps 0 := fun k _ h => absurd h (Nat.not_lt_zero k)
theorem FullTo.succ {ps : List Pg} {n : Nat} (h : FullTo ps n) (hn : n < ps.length) (h1 : ps[n].full = true) : FullTo ps (n + 1) := fun k hk hkn => by
  by_cases he : k = n
  · subst he; exact h1
  · exact h k hk (by omega)
theorem next_at {b : Bk} (hb : BkOk b) {n : Nat} (hn : n < b.pages.length) (h : FullTo b.pages n) (h2 : b.pages[n].full = false) : next b = (n : Int) := by
  have := lead_eq hn h h2
  unfold next
  rw [this, if_pos ⟨hb, hn⟩]
theorem next_none {b : Bk} {n : Nat} (hn : b.pages.length ≤ n) (h : FullTo b.pages n) : next b = -1 := by
  have := lead_all (ps := b.pages) (fun k hk => h k hk (by omega))
  unfold next
  rw [if_neg (by omega)]
theorem next_bad {b : Bk} (hb : ¬ BkOk b) : next b = -1 := if_neg fun h => hb h.1
set_option maxRecDepth 100000 in
set_option maxHeartbeats 1000000 in
theorem iBlockNext_any (F : Nat → Prop) (A : Option Addr) (c : Nat) (b : Bk) (w : World) (h : Rd F w A (pgs b.pages)) :
    Calls Try.prog 39 #[.agg #[.int .i64 b.wear, .slice A b.pages.length c]] w fun e w' => e = .returned (.int .i64 (next b)) ∧ Chg NoB w w' := by
  have hca := (Chg.refl NoB w).alloc (.cells #[.int .i64 b.wear, .slice A b.pages.length c] 67)
  have HB := Lib.hid (Blk.new w 67 #[.int .i64 b.wear, .slice A b.pages.length c])
  have HC := Lib.hid hca
  have HR := Lib.hid (h.new hca)
  clear hca h
  by_cases hd : BkOk b
  case neg =>
    have HD := Lib.hid hd
    clear hd
    go_enter Try.func39, Try.ntmps39
    go_wp2_with fail
    refine (iBlockValid_f _ A c b _ HR.out HD.out).mono ?_
    rintro e w1 ⟨rfl, hc1⟩
    have HCC := Lib.hid (HC.out.trans hc1)
    clear hc1
    go_wp2
    go_ret
    exact ⟨ret_int (next_bad HD.out).symm, HCC.out⟩
  have HD := Lib.hid hd
  have h4 := hd.2.1
  have H4 := Lib.hid h4
  clear h4 hd
  go_enter Try.func39, Try.ntmps39
  go_wp2_with fail
  refine (iBlockValid_t _ A c b _ HR.out HD.out).mono ?_
  rintro e w1 ⟨rfl, hc1⟩
  have HCC := Lib.hid (HC.out.trans hc1)
  have hb1 := HB.out.chg hc1 (fun x => x)
  have HRR := Lib.hid (HR.out.new hc1)
  rw [H4.out] at hb1 ⊢
  have z1 : w1.cell? ⟨w.heap.size, 1, none⟩ = some (.slice A 4 c) := (hb1.cell _).trans rfl
  clear hc1 hb1
  go_wp2
  go_loopw [11] (fun i wr => ∃ k : Nat, k ≤ 4 ∧ i = .int .i64 k ∧ Chg NoB w wr ∧ Rd F wr A (pgs b.pages) ∧ Hid (FullTo b.pages k)) (fun i _ => 4 - (intOf i).toNat)
  case atStart => exact ⟨0, Nat.zero_le _, rfl, HCC.out, HRR.out, Lib.hid (FullTo.zero _)⟩
  case round =>
    obtain ⟨k, hk4, rfl, hch, hr, hto⟩ := hrel
    by_cases hlt : k < 4
    · have hk : k < b.pages.length := by have := H4.out; omega
      obtain ⟨bb, o, rfl, hf, hbl, c0, c1, c2, c3, c4⟩ := pgs_at hr hk
      have hi0 : (0 : Int) ≤ (k : Int) := Int.natCast_nonneg _
      have hi1 : (k : Int) < 4 := by omega
      have HCH : ∀ q, Hid (Chg NoB w (wr.alloc q)) := fun q => Lib.hid (hch.alloc q)
      have HRD : ∀ q, Hid (Rd F (wr.alloc q) (some ⟨bb, o, none⟩) (pgs b.pages)) := fun q => Lib.hid (hr.new ((Chg.refl NoB wr).alloc q))
      clear hch hr
      by_cases hfull : b.pages[k].full = true
      · have HF := Lib.hid (hto.out.succ hk hfull)
        have hfb : b.pages[k].full = true := hfull
        rw [hfb] at c0
        clear hfull hfb
        go_wp2
        go_roundw
        case rel => exact ⟨k + 1, by omega, by go_num, (HCH _).out, (HRD _).out, Lib.hid HF.out⟩
        case measure => simp [intOf]; omega
      · have hfb : b.pages[k].full = false := by simpa using hfull
        have HF := Lib.hid (next_at HD.out hk hto.out hfb)
        rw [hfb] at c0
        clear hfull hfb
        go_wp2
        go_ret
        exact ⟨ret_int HF.out.symm, (HCH _).out⟩
    · have HCH := Lib.hid hch
      have HE := Lib.hid (next_none (b := b) (n := k) (by have := H4.out; omega) hto.out)
      clear hch hr
      go_wp2
      go_ret
      exact ⟨ret_int HE.out.symm, HCH.out⟩
set_option maxRecDepth 100000 in
set_option maxHeartbeats 1000000 in
theorem sBlockNext_any (F : Nat → Prop) (A : Option Addr) (c : Nat) (b : Bk) (w : World) (h : Rd F w A (pgs b.pages)) (hl : b.pages.length ≤ 9223372036854775807) :
    Calls Try.prog 135 #[.agg #[.int .i64 b.wear, .slice A b.pages.length c]] w fun e w' => e = .returned (.int .i64 (next b)) ∧ Chg NoB w w' := by
  have hca := (Chg.refl NoB w).alloc (.cells #[.int .i64 b.wear, .slice A b.pages.length c] 67)
  have HB := Lib.hid (Blk.new w 67 #[.int .i64 b.wear, .slice A b.pages.length c])
  have HC := Lib.hid hca
  have HR := Lib.hid (h.new hca)
  clear hca h
  go_enter Try.func135, Try.ntmps135
  go_wp2
  go_loopw [3] (fun i wr => ∃ k : Nat, k ≤ b.pages.length ∧ i = .int .i64 k ∧ Chg NoB w wr ∧ Rd F wr A (pgs b.pages) ∧ Blk wr w.heap.size 67 #[.int .i64 b.wear, .slice A b.pages.length c] ∧ Hid (FullTo b.pages k)) (fun i _ => b.pages.length - (intOf i).toNat)
  case atStart => exact ⟨0, Nat.zero_le _, rfl, HC.out, HR.out, HB.out, Lib.hid (FullTo.zero _)⟩
  case round =>
    obtain ⟨k, hkl, rfl, hch, hr, hb, hto⟩ := hrel
    have z0 : wr.cell? ⟨w.heap.size, 0, none⟩ = some (.int .i64 b.wear) := (hb.cell _).trans rfl
    have z1 : wr.cell? ⟨w.heap.size, 1, none⟩ = some (.slice A b.pages.length c) := (hb.cell _).trans rfl
    by_cases hk : k < b.pages.length
    · have hi0 : (0 : Int) ≤ (k : Int) := Int.natCast_nonneg _
      have hi1 : (k : Int) < (b.pages.length : Int) := by omega
      have HCH := Lib.hid hch
      have HRD := Lib.hid hr
      have HBK := Lib.hid hb
      clear hch hr hb
      go_wp2_with fail
      by_cases hd : BkOk b
      · have HD := Lib.hid hd
        clear hd
        refine (sBlockValid_t _ A c b _ HRD.out HD.out).mono ?_
        rintro e w1 ⟨rfl, hc1⟩
        have HCC := Lib.hid (HCH.out.trans hc1)
        have HRR := Lib.hid (HRD.out.new hc1)
        have HBB := Lib.hid (HBK.out.chg hc1 (fun x => x))
        have z1 : w1.cell? ⟨w.heap.size, 1, none⟩ = some (.slice A b.pages.length c) := (HBB.out.cell _).trans rfl
        obtain ⟨bb, o, rfl, hf, hbl, c0, -⟩ := pgs_at HRR.out hk
        clear hc1
        by_cases hfull : b.pages[k].full = true
        · have HF := Lib.hid (hto.out.succ hk hfull)
          rw [hfull] at c0
          clear hfull
          go_wp2
          go_roundw
          case rel => exact ⟨k + 1, by omega, by go_num, HCC.out, HRR.out, HBB.out, Lib.hid HF.out⟩
          case measure => simp [intOf]; omega
        · have hfb : b.pages[k].full = false := by simpa using hfull
          have HF := Lib.hid (next_at HD.out hk hto.out hfb)
          rw [hfb] at c0
          clear hfull hfb
          go_wp2
          go_ret
          exact ⟨ret_int HF.out.symm, HCC.out⟩
      · have HD := Lib.hid hd
        clear hd
        refine (sBlockValid_f _ A c b _ HRD.out hl HD.out).mono ?_
        rintro e w1 ⟨rfl, hc1⟩
        have HCC := Lib.hid (HCH.out.trans hc1)
        clear hc1
        go_wp2
        go_ret
        exact ⟨ret_int (next_bad HD.out).symm, HCC.out⟩
    · have HCH := Lib.hid hch
      have HE := Lib.hid (next_none (b := b) (n := k) (by omega) hto.out)
      clear hch hr hb
      go_wp2
      go_ret
      exact ⟨ret_int HE.out.symm, HCH.out⟩
theorem getD_at {D : List Bk} {k : Nat} (h : k < D.length) : D.getD k zBk = D[k] := by
  rw [List.getD_eq_getElem?_getD, List.getElem?_eq_getElem h]; rfl
end Go.Proofs.Ytpiojofmflfkkaa
/- pageAt, ReadPage. -/
namespace Go.Proofs.Ytpiojofmflfkkaa
open Go.RowKit
theorem chg5 {F : Nat → Prop} {w W : World} {g : Nat} {a b c d e : Value} (h : Chg F w W) (hg : F g ∨ w.heap.size ≤ g) :
    Chg F w (((((W.setCell ⟨g, 0, none⟩ a).setCell ⟨g, 1, none⟩ b).setCell ⟨g, 2, none⟩ c).setCell ⟨g, 3, none⟩ d).setCell ⟨g, 4, none⟩ e) :=
  ((((h.setCell (p := ⟨g, 0, none⟩) hg _).setCell (p := ⟨g, 1, none⟩) hg _).setCell (p := ⟨g, 2, none⟩) hg _).setCell (p := ⟨g, 3, none⟩) hg _).setCell (p := ⟨g, 4, none⟩) hg _
/-- Where the page with a number lies. -/
theorem dev_page {F : Nat → Prop} {w : World} {A : Option Addr} {D : List Bk} (h : DevR F w A D) (hd : DvOk D) {n : Nat} (hn : n < 4 * D.length) :
    ∃ (q r bb o b2 o2 c2 : Nat), (n : Int) / 4 = (q : Int) ∧ (n : Int) % 4 = (r : Int) ∧ q < D.length ∧ r < 4 ∧ A = some ⟨bb, o, none⟩ ∧ F bb ∧ w.cell? ⟨bb, o + q * 2 + 1, none⟩ = some (.slice (some ⟨b2, o2, none⟩) 4 c2) ∧ F b2 ∧
      w.cell? ⟨b2, o2 + r * 5, none⟩ = some (.bool (pgAt D n).full) ∧ w.cell? ⟨b2, o2 + r * 5 + 1, none⟩ = some (.int .i64 (pgAt D n).file) ∧ w.cell? ⟨b2, o2 + r * 5 + 2, none⟩ = some (.int .i64 (pgAt D n).place) ∧
      w.cell? ⟨b2, o2 + r * 5 + 3, none⟩ = some (.int .i64 (pgAt D n).value) ∧ w.cell? ⟨b2, o2 + r * 5 + 4, none⟩ = some (.int .i64 (pgAt D n).stamp) := by
  have hq : n / 4 < D.length := by omega
  obtain ⟨bb, o, A', c', rfl, hf, c0, c1, hr, hcc⟩ := h (n / 4) hq
  have h4 : D[n / 4].pages.length = 4 := (hd.2 _ hq).2.1
  have hr4 : n % 4 < D[n / 4].pages.length := by omega
  obtain ⟨b2, o2, rfl, hf2, hb2, d0, d1, d2, d3, d4⟩ := pgs_at hr hr4
  have e : pgAt D n = D[n / 4].pages[n % 4] := by
    unfold pgAt
    rw [getD_at hq, List.getD_eq_getElem?_getD, List.getElem?_eq_getElem hr4]; rfl
  rw [h4] at c1
  rw [e]
  exact ⟨n / 4, n % 4, bb, o, b2, o2, c', by omega, by omega, hq, by omega, rfl, hf, c1, hf2, d0, d1, d2, d3, d4⟩
set_option maxRecDepth 100000 in
set_option maxHeartbeats 1000000 in
theorem pageAt_any (F : Nat → Prop) (A : Option Addr) (c : Nat) (D : List Bk) (n : Nat) (w : World) (h : DevR F w A D) (hd : DvOk D) (hn : n < 4 * D.length) :
    Calls Try.prog 72 #[.slice A D.length c, .int .i64 n] w fun e w' => e = .returned (pval (pgAt D n)) ∧ Chg NoB w w' := by
  have h2 := hd.1.2
  obtain ⟨q, r, bb, o, b2, o2, c2, hq, hr, hql, hr4, rfl, hf, c1, hf2, d0, d1, d2, d3, d4⟩ := dev_page (h.new ((Chg.refl NoB w).alloc (.cells #[.bool false, .int .i64 0, .int .i64 0, .int .i64 0, .int .i64 0] 80))) hd hn
  have hi0 : (0 : Int) ≤ (n : Int) := Int.natCast_nonneg _
  have hi1 : (n : Int) < 48 := by omega
  have hq0 : (0 : Int) ≤ (q : Int) := Int.natCast_nonneg _
  have hq1 : (q : Int) < (D.length : Int) := by omega
  have hr0 : (0 : Int) ≤ (r : Int) := Int.natCast_nonneg _
  have hr1 : (r : Int) < 4 := by omega
  clear h hd
  go_enter Try.func72, Try.ntmps72
  go_wp2
  exact bodyPost_ret (v := pval (pgAt D n)) (by simp [results, Try.results72, go_sem]) rfl ⟨rfl, (Chg.refl _ _).alloc _⟩
abbrev z5 : Array Value := #[.bool false, .int .i64 0, .int .i64 0, .int .i64 0, .int .i64 0]
theorem readPage_no {D : List Bk} {n : Int} (h : ¬ (DvOk D ∧ 0 ≤ n ∧ n < 4 * (D.length : Int))) : readPage D n = zPg := if_neg h
theorem readPage_yes {D : List Bk} {n : Nat} (h : DvOk D) (hn : n < 4 * D.length) : readPage D (n : Int) = pgAt D n := by
  unfold readPage
  rw [if_pos ⟨h, by omega, by omega⟩, Int.toNat_natCast]
set_option maxRecDepth 100000 in
set_option maxHeartbeats 1000000 in
theorem iReadPage_any (F : Nat → Prop) (A : Option Addr) (c : Nat) (D : List Bk) (n : Int) (w : World) (h : DevR F w A D) :
    Calls Try.prog 47 #[.slice A D.length c, .int .i64 n] w fun e w' => e = .returned (.tuple #[pval (readPage D n), .bool (readPage D n).full]) ∧ Chg NoB w w' := by
  have hca := (Chg.refl NoB w).alloc (.cells #[.bool false, .int .i64 0, .int .i64 0, .int .i64 0, .int .i64 0] 80)
  have HB := Lib.hid (Blk.new w 80 #[.bool false, .int .i64 0, .int .i64 0, .int .i64 0, .int .i64 0])
  have HC := Lib.hid hca
  have HR := Lib.hid (h.new hca)
  clear hca h
  by_cases hd : DvOk D
  case neg =>
    have HD := Lib.hid hd
    clear hd
    go_enter Try.func47, Try.ntmps47
    go_wp2_with fail
    refine (iDeviceValid_f _ A c D _ HR.out HD.out).mono ?_
    rintro e w1 ⟨rfl, hc1⟩
    have HCC := Lib.hid (HC.out.trans hc1)
    have hb := HB.out.chg hc1 (fun x => x)
    have x0 : w1.cell? ⟨w.heap.size, 0, none⟩ = some (.bool false) := (hb.cell _).trans rfl
    have f0 := hb.frozen 0
    have x1 : w1.cell? ⟨w.heap.size, 1, none⟩ = some (.int .i64 0) := (hb.cell _).trans rfl
    have f1 := hb.frozen 1
    have x2 : w1.cell? ⟨w.heap.size, 2, none⟩ = some (.int .i64 0) := (hb.cell _).trans rfl
    have f2 := hb.frozen 2
    have x3 : w1.cell? ⟨w.heap.size, 3, none⟩ = some (.int .i64 0) := (hb.cell _).trans rfl
    have f3 := hb.frozen 3
    have x4 : w1.cell? ⟨w.heap.size, 4, none⟩ = some (.int .i64 0) := (hb.cell _).trans rfl
    have f4 := hb.frozen 4
    clear hc1 hb
    go_wp2
    refine bodyPost_ret (v := .tuple #[pval zPg, .bool false]) (by simp [results, Try.results47, go_sem, zPg, *]) rfl ?_
    rw [readPage_no fun hh => HD.out hh.1]
    exact ⟨rfl, chg5 HCC.out (.inr (Nat.le_refl _))⟩
  have h2 := hd.1.2
  have HD := Lib.hid hd
  clear hd
  go_enter Try.func47, Try.ntmps47
  go_wp2_with fail
  refine (iDeviceValid_t _ A c D _ HR.out HD.out).mono ?_
  rintro e w1 ⟨rfl, hc1⟩
  have HCC := Lib.hid (HC.out.trans hc1)
  have hb := HB.out.chg hc1 (fun x => x)
  have HRR := Lib.hid (HR.out.new hc1)
  have x0 : w1.cell? ⟨w.heap.size, 0, none⟩ = some (.bool false) := (hb.cell _).trans rfl
  have f0 := hb.frozen 0
  have x1 : w1.cell? ⟨w.heap.size, 1, none⟩ = some (.int .i64 0) := (hb.cell _).trans rfl
  have f1 := hb.frozen 1
  have x2 : w1.cell? ⟨w.heap.size, 2, none⟩ = some (.int .i64 0) := (hb.cell _).trans rfl
  have f2 := hb.frozen 2
  have x3 : w1.cell? ⟨w.heap.size, 3, none⟩ = some (.int .i64 0) := (hb.cell _).trans rfl
  have f3 := hb.frozen 3
  have x4 : w1.cell? ⟨w.heap.size, 4, none⟩ = some (.int .i64 0) := (hb.cell _).trans rfl
  have f4 := hb.frozen 4
  have HB2 := Lib.hid hb
  clear hc1 hb
  by_cases hn0 : 0 ≤ n
  case neg =>
    have HN := Lib.hid hn0
    go_wp2
    refine bodyPost_ret (v := .tuple #[pval zPg, .bool false]) (by simp [results, Try.results47, go_sem, zPg, *]) rfl ?_
    rw [readPage_no fun hh => by have := HN.out; have := hh.2.1; omega]
    exact ⟨rfl, chg5 HCC.out (.inr (Nat.le_refl _))⟩
  by_cases hn1 : n < 4 * (D.length : Int)
  case neg =>
    have HN := Lib.hid hn1
    have hge : (D.length : Int) * 4 ≤ n := by omega
    clear hn1
    go_wp2
    refine bodyPost_ret (v := .tuple #[pval zPg, .bool false]) (by simp [results, Try.results47, go_sem, zPg, *]) rfl ?_
    rw [readPage_no fun hh => by have := HN.out; have := hh.2.2; omega]
    exact ⟨rfl, chg5 HCC.out (.inr (Nat.le_refl _))⟩
  obtain ⟨k, rfl⟩ := Int.eq_ofNat_of_zero_le hn0
  have hk : k < 4 * D.length := by omega
  have HP := Lib.hid (readPage_yes HD.out hk)
  obtain ⟨q, r, bb, o, b2, o2, c2, hq, hr, hql, hr4, rfl, hf, c1, hf2, d0, d1, d2, d3, d4⟩ := dev_page HRR.out HD.out hk
  have hi1 : (k : Int) < (D.length : Int) * 4 := by omega
  have hi2 : (k : Int) < 48 := by omega
  have hq0 : (0 : Int) ≤ (q : Int) := Int.natCast_nonneg _
  have hq1 : (q : Int) < (D.length : Int) := by omega
  have hr0 : (0 : Int) ≤ (r : Int) := Int.natCast_nonneg _
  have hr1 : (r : Int) < 4 := by omega
  have hne1 : w.heap.size ≠ w1.heap.size := Nat.ne_of_lt HB2.out.lt
  have hne2 : w1.heap.size ≠ w.heap.size := Ne.symm hne1
  have HB2 := Lib.hid ((HB2.out).chg ((Chg.refl NoB w1).alloc (pbox (pgAt D k))) (fun x => x))
  have HP2 := Lib.hid (Blk.new w1 80 #[.bool (pgAt D k).full, .int .i64 (pgAt D k).file, .int .i64 (pgAt D k).place, .int .i64 (pgAt D k).value, .int .i64 (pgAt D k).stamp])
  have HC2 := Lib.hid (HCC.out.alloc (pbox (pgAt D k)))
  clear hn1
  go_wp2
  obtain ⟨w2, hw2⟩ : ∃ w2, w1.alloc (.cells #[.bool (pgAt D k).full, .int .i64 (pgAt D k).file, .int .i64 (pgAt D k).place, .int .i64 (pgAt D k).value, .int .i64 (pgAt D k).stamp] 80) = w2 := ⟨_, rfl⟩
  have hb2 := HB2.out
  have hp2 := HP2.out
  have hc2 := HC2.out
  rw [hw2] at hb2 hp2 hc2 ⊢
  have HC3 := Lib.hid hc2
  clear d0 d1 d2 d3 d4 x0 x1 x2 x3 x4 f0 f1 f2 f3 f4 c1 HB2 HP2 HC2 hw2 hc2
  have x0 : w2.cell? ⟨w.heap.size, 0, none⟩ = some (.bool false) := (hb2.cell _).trans rfl
  have f0 := hb2.frozen 0
  have x1 : w2.cell? ⟨w.heap.size, 1, none⟩ = some (.int .i64 0) := (hb2.cell _).trans rfl
  have f1 := hb2.frozen 1
  have x2 : w2.cell? ⟨w.heap.size, 2, none⟩ = some (.int .i64 0) := (hb2.cell _).trans rfl
  have f2 := hb2.frozen 2
  have x3 : w2.cell? ⟨w.heap.size, 3, none⟩ = some (.int .i64 0) := (hb2.cell _).trans rfl
  have f3 := hb2.frozen 3
  have x4 : w2.cell? ⟨w.heap.size, 4, none⟩ = some (.int .i64 0) := (hb2.cell _).trans rfl
  have f4 := hb2.frozen 4
  have y0 : w2.cell? ⟨w1.heap.size, 0, none⟩ = some (.bool (pgAt D k).full) := (hp2.cell _).trans rfl
  have y1 : w2.cell? ⟨w1.heap.size, 1, none⟩ = some (.int .i64 (pgAt D k).file) := (hp2.cell _).trans rfl
  have y2 : w2.cell? ⟨w1.heap.size, 2, none⟩ = some (.int .i64 (pgAt D k).place) := (hp2.cell _).trans rfl
  have y3 : w2.cell? ⟨w1.heap.size, 3, none⟩ = some (.int .i64 (pgAt D k).value) := (hp2.cell _).trans rfl
  have y4 : w2.cell? ⟨w1.heap.size, 4, none⟩ = some (.int .i64 (pgAt D k).stamp) := (hp2.cell _).trans rfl
  clear hb2 hp2
  go_region
  go_wp2
  refine bodyPost_ret (v := .tuple #[pval (pgAt D k), .bool (pgAt D k).full]) (by simp [results, Try.results47, go_sem, *]) rfl ?_
  rw [HP.out]
  exact ⟨rfl, (chg5 HC3.out (.inr (Nat.le_refl _))).drew⟩
set_option maxRecDepth 100000 in
set_option maxHeartbeats 1000000 in
theorem sReadPage_any (F : Nat → Prop) (A : Option Addr) (c : Nat) (D : List Bk) (n : Int) (w : World) (h : DevR F w A D) (hs : Small D) :
    Calls Try.prog 111 #[.slice A D.length c, .int .i64 n] w fun e w' => e = .returned (.tuple #[pval (readPage D n), .bool (readPage D n).full]) ∧ Chg NoB w w' := by
  have hca := (Chg.refl NoB w).alloc (.cells #[.bool false, .int .i64 0, .int .i64 0, .int .i64 0, .int .i64 0] 80)
  have HB := Lib.hid (Blk.new w 80 #[.bool false, .int .i64 0, .int .i64 0, .int .i64 0, .int .i64 0])
  have HC := Lib.hid hca
  have HR := Lib.hid (h.new hca)
  clear hca h
  by_cases hd : DvOk D
  case neg =>
    have HD := Lib.hid hd
    clear hd
    go_enter Try.func111, Try.ntmps111
    go_wp2_with fail
    refine (sDeviceValid_f _ A c D _ HR.out hs HD.out).mono ?_
    rintro e w1 ⟨rfl, hc1⟩
    have HCC := Lib.hid (HC.out.trans hc1)
    have hb := HB.out.chg hc1 (fun x => x)
    have x0 : w1.cell? ⟨w.heap.size, 0, none⟩ = some (.bool false) := (hb.cell _).trans rfl
    have f0 := hb.frozen 0
    have x1 : w1.cell? ⟨w.heap.size, 1, none⟩ = some (.int .i64 0) := (hb.cell _).trans rfl
    have f1 := hb.frozen 1
    have x2 : w1.cell? ⟨w.heap.size, 2, none⟩ = some (.int .i64 0) := (hb.cell _).trans rfl
    have f2 := hb.frozen 2
    have x3 : w1.cell? ⟨w.heap.size, 3, none⟩ = some (.int .i64 0) := (hb.cell _).trans rfl
    have f3 := hb.frozen 3
    have x4 : w1.cell? ⟨w.heap.size, 4, none⟩ = some (.int .i64 0) := (hb.cell _).trans rfl
    have f4 := hb.frozen 4
    clear hc1 hb
    go_wp2
    refine bodyPost_ret (v := .tuple #[pval zPg, .bool false]) (by simp [results, Try.results111, go_sem, zPg, *]) rfl ?_
    rw [readPage_no fun hh => HD.out hh.1]
    exact ⟨rfl, chg5 HCC.out (.inr (Nat.le_refl _))⟩
  have h2 := hd.1.2
  have HD := Lib.hid hd
  clear hd
  go_enter Try.func111, Try.ntmps111
  go_wp2_with fail
  refine (sDeviceValid_t _ A c D _ HR.out HD.out).mono ?_
  rintro e w1 ⟨rfl, hc1⟩
  have HCC := Lib.hid (HC.out.trans hc1)
  have hb := HB.out.chg hc1 (fun x => x)
  have HRR := Lib.hid (HR.out.new hc1)
  have x0 : w1.cell? ⟨w.heap.size, 0, none⟩ = some (.bool false) := (hb.cell _).trans rfl
  have f0 := hb.frozen 0
  have x1 : w1.cell? ⟨w.heap.size, 1, none⟩ = some (.int .i64 0) := (hb.cell _).trans rfl
  have f1 := hb.frozen 1
  have x2 : w1.cell? ⟨w.heap.size, 2, none⟩ = some (.int .i64 0) := (hb.cell _).trans rfl
  have f2 := hb.frozen 2
  have x3 : w1.cell? ⟨w.heap.size, 3, none⟩ = some (.int .i64 0) := (hb.cell _).trans rfl
  have f3 := hb.frozen 3
  have x4 : w1.cell? ⟨w.heap.size, 4, none⟩ = some (.int .i64 0) := (hb.cell _).trans rfl
  have f4 := hb.frozen 4
  have HB2 := Lib.hid hb
  clear hc1 hb
  go_wp2_with fail
  by_cases hn : 0 ≤ n ∧ n ≤ 4 * (D.length : Int) - 1
  case neg =>
    have HN := Lib.hid hn
    clear hn
    refine (l1In_f _ _ _ _ HN.out).mono ?_
    rintro e w2 ⟨rfl, rfl⟩
    go_wp2
    refine bodyPost_ret (v := .tuple #[pval zPg, .bool false]) (by simp [results, Try.results111, go_sem, zPg, *]) rfl ?_
    rw [readPage_no fun hh => HN.out ⟨hh.2.1, by have := hh.2.2; omega⟩]
    exact ⟨rfl, chg5 HCC.out (.inr (Nat.le_refl _))⟩
  have HN := Lib.hid hn
  refine (l1In_t _ _ _ _ HN.out).mono ?_
  rintro e w2 ⟨rfl, rfl⟩
  obtain ⟨hn0, hn1⟩ := hn
  obtain ⟨k, rfl⟩ := Int.eq_ofNat_of_zero_le hn0
  have hk : k < 4 * D.length := by omega
  have HP := Lib.hid (readPage_yes HD.out hk)
  obtain ⟨q, r, bb, o, b2, o2, c2, hq, hr, hql, hr4, rfl, hf, c1, hf2, d0, d1, d2, d3, d4⟩ := dev_page HRR.out HD.out hk
  have hi1 : (k : Int) < (D.length : Int) * 4 := by omega
  have hi2 : (k : Int) < 48 := by omega
  have hq0 : (0 : Int) ≤ (q : Int) := Int.natCast_nonneg _
  have hq1 : (q : Int) < (D.length : Int) := by omega
  have hr0 : (0 : Int) ≤ (r : Int) := Int.natCast_nonneg _
  have hr1 : (r : Int) < 4 := by omega
  have hne1 : w.heap.size ≠ w1.heap.size := Nat.ne_of_lt HB2.out.lt
  have hne2 : w1.heap.size ≠ w.heap.size := Ne.symm hne1
  have HB2 := Lib.hid ((HB2.out).chg ((Chg.refl NoB w1).alloc (pbox (pgAt D k))) (fun x => x))
  have HP2 := Lib.hid (Blk.new w1 80 #[.bool (pgAt D k).full, .int .i64 (pgAt D k).file, .int .i64 (pgAt D k).place, .int .i64 (pgAt D k).value, .int .i64 (pgAt D k).stamp])
  have HC2 := Lib.hid (HCC.out.alloc (pbox (pgAt D k)))
  clear hn1
  go_wp2
  obtain ⟨w2, hw2⟩ : ∃ w2, w1.alloc (.cells #[.bool (pgAt D k).full, .int .i64 (pgAt D k).file, .int .i64 (pgAt D k).place, .int .i64 (pgAt D k).value, .int .i64 (pgAt D k).stamp] 80) = w2 := ⟨_, rfl⟩
  have hb2 := HB2.out
  have hp2 := HP2.out
  have hc2 := HC2.out
  rw [hw2] at hb2 hp2 hc2 ⊢
  have HC3 := Lib.hid hc2
  clear d0 d1 d2 d3 d4 x0 x1 x2 x3 x4 f0 f1 f2 f3 f4 c1 HB2 HP2 HC2 hw2 hc2
  have x0 : w2.cell? ⟨w.heap.size, 0, none⟩ = some (.bool false) := (hb2.cell _).trans rfl
  have f0 := hb2.frozen 0
  have x1 : w2.cell? ⟨w.heap.size, 1, none⟩ = some (.int .i64 0) := (hb2.cell _).trans rfl
  have f1 := hb2.frozen 1
  have x2 : w2.cell? ⟨w.heap.size, 2, none⟩ = some (.int .i64 0) := (hb2.cell _).trans rfl
  have f2 := hb2.frozen 2
  have x3 : w2.cell? ⟨w.heap.size, 3, none⟩ = some (.int .i64 0) := (hb2.cell _).trans rfl
  have f3 := hb2.frozen 3
  have x4 : w2.cell? ⟨w.heap.size, 4, none⟩ = some (.int .i64 0) := (hb2.cell _).trans rfl
  have f4 := hb2.frozen 4
  have y0 : w2.cell? ⟨w1.heap.size, 0, none⟩ = some (.bool (pgAt D k).full) := (hp2.cell _).trans rfl
  have y1 : w2.cell? ⟨w1.heap.size, 1, none⟩ = some (.int .i64 (pgAt D k).file) := (hp2.cell _).trans rfl
  have y2 : w2.cell? ⟨w1.heap.size, 2, none⟩ = some (.int .i64 (pgAt D k).place) := (hp2.cell _).trans rfl
  have y3 : w2.cell? ⟨w1.heap.size, 3, none⟩ = some (.int .i64 (pgAt D k).value) := (hp2.cell _).trans rfl
  have y4 : w2.cell? ⟨w1.heap.size, 4, none⟩ = some (.int .i64 (pgAt D k).stamp) := (hp2.cell _).trans rfl
  clear hb2 hp2
  go_region
  go_wp2
  refine bodyPost_ret (v := .tuple #[pval (pgAt D k), .bool (pgAt D k).full]) (by simp [results, Try.results111, go_sem, *]) rfl ?_
  rw [HP.out]
  exact ⟨rfl, (chg5 HC3.out (.inr (Nat.le_refl _))).drew⟩
end Go.Proofs.Ytpiojofmflfkkaa
/- LastStamp of the program and of the reference. -/
namespace Go.Proofs.Ytpiojofmflfkkaa
open Go.RowKit
theorem pgAt_eq {D : List Bk} {q r : Nat} (hq : q < D.length) (hr : r < D[q].pages.length) (h4 : r < 4) : pgAt D (4 * q + r) = D[q].pages[r] := by
  unfold pgAt
  have e1 : (4 * q + r) / 4 = q := by omega
  have e2 : (4 * q + r) % 4 = r := by omega
  rw [e1, e2, getD_at hq, List.getD_eq_getElem?_getD, List.getElem?_eq_getElem hr]; rfl
theorem pgAt_ok {D : List Bk} (hd : DvOk D) {n : Nat} (hn : n < 4 * D.length) : PgOk (pgAt D n) := by
  have hq : n / 4 < D.length := by omega
  have h4 : D[n / 4].pages.length = 4 := (hd.2 _ hq).2.1
  have h := pgAt_eq (D := D) (q := n / 4) (r := n % 4) hq (by omega) (by omega)
  have e : 4 * (n / 4) + n % 4 = n := by omega
  rw [e] at h
  rw [h]
  exact ((hd.2 _ hq).2.2 (n % 4) (by omega)).1
end Go.Proofs.Ytpiojofmflfkkaa
/- Heads: isHead, HeadsValid. -/
namespace Go.Proofs.Ytpiojofmflfkkaa
open Go.RowKit
theorem one_round {P : Program} {c : Code} {Q : Exit → Act → World → Prop} {n : Nat} {a : Act} {w : World} (h : c.wp P (Exit.then (Code.rounds P c Q n) Q) a w) : Code.rounds P c Q (n + 1) a w := h
abbrev hval (h : Hd) : Value := .agg #[.int .i64 h.hot, .int .i64 h.warm, .int .i64 h.cold]
theorem isHead_any (h : Hd) (n : Int) (w : World) :
    Calls Try.prog 86 #[hval h, .int .i64 n] w fun e w' => e = .returned (.bool (decide (isHead h n))) ∧ Chg NoB w w' := by
  obtain ⟨a, b, c⟩ := h
  go_enter Try.func86, Try.ntmps86
  by_cases h1 : n = a
  · have h1' : (n == a) = true := by simpa using h1
    have H := Lib.hid h1
    clear h1
    go_wp2
    go_ret
    exact ⟨ret_bool (decide_eq_true (.inl H.out)).symm, (Chg.refl _ _).alloc _⟩
  have h1' : (n == a) = false := by simpa using h1
  have H1 := Lib.hid h1
  clear h1
  by_cases h2 : n = b
  · have h2' : (n == b) = true := by simpa using h2
    have H := Lib.hid h2
    clear h2
    go_wp2
    go_ret
    exact ⟨ret_bool (decide_eq_true (.inr (.inl H.out))).symm, (Chg.refl _ _).alloc _⟩
  have h2' : (n == b) = false := by simpa using h2
  have H2 := Lib.hid h2
  clear h2
  go_wp2
  go_ret
  refine ⟨ret_bool (bool_dec ?_), (Chg.refl _ _).alloc _⟩
  unfold isHead
  simp only [beq_iff_eq]
  exact ⟨fun hh => .inr (.inr hh), fun hh => hh.elim (fun h => absurd h H1.out) (fun h => h.elim (fun h => absurd h H2.out) id)⟩
set_option maxRecDepth 100000 in
set_option maxHeartbeats 1000000 in
theorem iHeadsValid_any (F : Nat → Prop) (A : Option Addr) (c : Nat) (D : List Bk) (h : Hd) (w : World) (hr : DevR F w A D) :
    Calls Try.prog 38 #[.slice A D.length c, hval h] w fun e w' => e = .returned (.bool (decide (HeadsOk D h))) ∧ Chg NoB w w' := by
  obtain ⟨x, y, z⟩ := h
  have hca := (Chg.refl NoB w).alloc (.cells #[.int .i64 x, .int .i64 y, .int .i64 z] 46)
  have HB := Lib.hid (Blk.new w 46 #[.int .i64 x, .int .i64 y, .int .i64 z])
  have HC := Lib.hid hca
  have HR := Lib.hid (hr.new hca)
  clear hca hr
  by_cases hd : DvOk D
  case neg =>
    have HD := Lib.hid hd
    clear hd
    go_enter Try.func38, Try.ntmps38
    go_wp2_with fail
    refine (iDeviceValid_f _ A c D _ HR.out HD.out).mono ?_
    rintro e w1 ⟨rfl, hc1⟩
    have HCC := Lib.hid (HC.out.trans hc1)
    clear hc1
    go_wp2
    go_ret
    exact ⟨ret_bool (decide_eq_false fun hh => HD.out hh.1).symm, HCC.out⟩
  have HD := Lib.hid hd
  have h1 := hd.1.1
  have h2 := hd.1.2
  clear hd
  go_enter Try.func38, Try.ntmps38
  go_wp2_with fail
  refine (iDeviceValid_t _ A c D _ HR.out HD.out).mono ?_
  rintro e w1 ⟨rfl, hc1⟩
  have HCC := Lib.hid (HC.out.trans hc1)
  have hb := HB.out.chg hc1 (fun x => x)
  have x0 : w1.cell? ⟨w.heap.size, 0, none⟩ = some (.int .i64 x) := (hb.cell _).trans rfl
  have x1 : w1.cell? ⟨w.heap.size, 1, none⟩ = some (.int .i64 y) := (hb.cell _).trans rfl
  have x2 : w1.cell? ⟨w.heap.size, 2, none⟩ = some (.int .i64 z) := (hb.cell _).trans rfl
  clear hc1 hb
  --LEAVES
  have i0 : ∀ w, (Instr.index 134 (.agg #[.int .i64 x, .int .i64 y, .int .i64 z]) (.int .i64 0)).run Try.prog w = .ok (.int .i64 x) w := fun _ => by kernel_rfl
  have i1 : ∀ w, (Instr.index 134 (.agg #[.int .i64 x, .int .i64 y, .int .i64 z]) (.int .i64 1)).run Try.prog w = .ok (.int .i64 y) w := fun _ => by kernel_rfl
  have i2 : ∀ w, (Instr.index 134 (.agg #[.int .i64 x, .int .i64 y, .int .i64 z]) (.int .i64 2)).run Try.prog w = .ok (.int .i64 z) w := fun _ => by kernel_rfl
  by_cases a0 : -1 ≤ x
  case neg =>
    have HO : Hid (¬ HdOk D.length ⟨x, y, z⟩) := Lib.hid (fun hh => by obtain ⟨⟨p1, p2⟩, ⟨p3, p4⟩, ⟨p5, p6⟩, p7, p8, p9⟩ := hh; simp only at p1 p2 p3 p4 p5 p6 p7 p8 p9; omega)
    go_wp2
    refine wp_loop_rounds 4 ?_
    repeat (first | (refine one_round ?_; go_wp2) | (refine wp_loop_rounds 3 ?_; refine one_round ?_; go_wp2))
    go_ret
    exact ⟨ret_bool (decide_eq_false fun hh => HO.out hh.2).symm, HCC.out.alloc _⟩
  by_cases a1 : x < (D.length : Int)
  case neg =>
    have HO : Hid (¬ HdOk D.length ⟨x, y, z⟩) := Lib.hid (fun hh => by obtain ⟨⟨p1, p2⟩, ⟨p3, p4⟩, ⟨p5, p6⟩, p7, p8, p9⟩ := hh; simp only at p1 p2 p3 p4 p5 p6 p7 p8 p9; omega)
    go_wp2
    refine wp_loop_rounds 4 ?_
    repeat (first | (refine one_round ?_; go_wp2) | (refine wp_loop_rounds 3 ?_; refine one_round ?_; go_wp2))
    go_ret
    exact ⟨ret_bool (decide_eq_false fun hh => HO.out hh.2).symm, HCC.out.alloc _⟩
  by_cases b0 : -1 ≤ y
  case neg =>
    have HO : Hid (¬ HdOk D.length ⟨x, y, z⟩) := Lib.hid (fun hh => by obtain ⟨⟨p1, p2⟩, ⟨p3, p4⟩, ⟨p5, p6⟩, p7, p8, p9⟩ := hh; simp only at p1 p2 p3 p4 p5 p6 p7 p8 p9; omega)
    go_wp2
    refine wp_loop_rounds 4 ?_
    repeat (first | (refine one_round ?_; go_wp2) | (refine wp_loop_rounds 3 ?_; refine one_round ?_; go_wp2))
    go_ret
    exact ⟨ret_bool (decide_eq_false fun hh => HO.out hh.2).symm, HCC.out.alloc _⟩
  by_cases b1 : y < (D.length : Int)
  case neg =>
    have HO : Hid (¬ HdOk D.length ⟨x, y, z⟩) := Lib.hid (fun hh => by obtain ⟨⟨p1, p2⟩, ⟨p3, p4⟩, ⟨p5, p6⟩, p7, p8, p9⟩ := hh; simp only at p1 p2 p3 p4 p5 p6 p7 p8 p9; omega)
    go_wp2
    refine wp_loop_rounds 4 ?_
    repeat (first | (refine one_round ?_; go_wp2) | (refine wp_loop_rounds 3 ?_; refine one_round ?_; go_wp2))
    go_ret
    exact ⟨ret_bool (decide_eq_false fun hh => HO.out hh.2).symm, HCC.out.alloc _⟩
  by_cases b2 : 0 ≤ y
  case neg =>
    by_cases c0 : -1 ≤ z
    case neg =>
      have HO : Hid (¬ HdOk D.length ⟨x, y, z⟩) := Lib.hid (fun hh => by obtain ⟨⟨p1, p2⟩, ⟨p3, p4⟩, ⟨p5, p6⟩, p7, p8, p9⟩ := hh; simp only at p1 p2 p3 p4 p5 p6 p7 p8 p9; omega)
      go_wp2
      refine wp_loop_rounds 4 ?_
      repeat (first | (refine one_round ?_; go_wp2) | (refine wp_loop_rounds 3 ?_; refine one_round ?_; go_wp2))
      go_ret
      exact ⟨ret_bool (decide_eq_false fun hh => HO.out hh.2).symm, HCC.out.alloc _⟩
    by_cases c1 : z < (D.length : Int)
    case neg =>
      have HO : Hid (¬ HdOk D.length ⟨x, y, z⟩) := Lib.hid (fun hh => by obtain ⟨⟨p1, p2⟩, ⟨p3, p4⟩, ⟨p5, p6⟩, p7, p8, p9⟩ := hh; simp only at p1 p2 p3 p4 p5 p6 p7 p8 p9; omega)
      go_wp2
      refine wp_loop_rounds 4 ?_
      repeat (first | (refine one_round ?_; go_wp2) | (refine wp_loop_rounds 3 ?_; refine one_round ?_; go_wp2))
      go_ret
      exact ⟨ret_bool (decide_eq_false fun hh => HO.out hh.2).symm, HCC.out.alloc _⟩
    by_cases c2 : 0 ≤ z
    case neg =>
      have HO : Hid (HdOk D.length ⟨x, y, z⟩) := Lib.hid ⟨⟨a0, a1⟩, ⟨b0, b1⟩, ⟨c0, c1⟩, fun h => absurd h b2, fun h => absurd h c2, fun h => absurd h c2⟩
      go_wp2
      refine wp_loop_rounds 4 ?_
      repeat (first | (refine one_round ?_; go_wp2) | (refine wp_loop_rounds 3 ?_; refine one_round ?_; go_wp2))
      go_ret
      exact ⟨ret_bool (decide_eq_true ⟨HD.out, HO.out⟩).symm, HCC.out.alloc _⟩
    by_cases c3 : z = x
    case pos =>
      have c3' : (z == x) = true := by simpa using c3
      have C3 := Lib.hid c3
      have HO : Hid (¬ HdOk D.length ⟨x, y, z⟩) := Lib.hid (fun hh => by obtain ⟨⟨p1, p2⟩, ⟨p3, p4⟩, ⟨p5, p6⟩, p7, p8, p9⟩ := hh; simp only at p1 p2 p3 p4 p5 p6 p7 p8 p9; omega)
      clear c3
      go_wp2
      refine wp_loop_rounds 4 ?_
      repeat (first | (refine one_round ?_; go_wp2) | (refine wp_loop_rounds 3 ?_; refine one_round ?_; go_wp2))
      go_ret
      exact ⟨ret_bool (decide_eq_false fun hh => HO.out hh.2).symm, HCC.out.alloc _⟩
    have c3' : (z == x) = false := by simpa using c3
    have C3 := Lib.hid c3
    clear c3
    by_cases c4 : z = y
    case pos =>
      have c4' : (z == y) = true := by simpa using c4
      have C4 := Lib.hid c4
      have HO : Hid (¬ HdOk D.length ⟨x, y, z⟩) := Lib.hid (fun hh => by obtain ⟨⟨p1, p2⟩, ⟨p3, p4⟩, ⟨p5, p6⟩, p7, p8, p9⟩ := hh; simp only at p1 p2 p3 p4 p5 p6 p7 p8 p9; omega)
      clear c4
      go_wp2
      refine wp_loop_rounds 4 ?_
      repeat (first | (refine one_round ?_; go_wp2) | (refine wp_loop_rounds 3 ?_; refine one_round ?_; go_wp2))
      go_ret
      exact ⟨ret_bool (decide_eq_false fun hh => HO.out hh.2).symm, HCC.out.alloc _⟩
    have c4' : (z == y) = false := by simpa using c4
    have C4 := Lib.hid c4
    clear c4
    have HO : Hid (HdOk D.length ⟨x, y, z⟩) := Lib.hid ⟨⟨a0, a1⟩, ⟨b0, b1⟩, ⟨c0, c1⟩, fun h => absurd h b2, fun _ => C3.out, fun _ => C4.out⟩
    go_wp2
    refine wp_loop_rounds 4 ?_
    repeat (first | (refine one_round ?_; go_wp2) | (refine wp_loop_rounds 3 ?_; refine one_round ?_; go_wp2))
    go_ret
    exact ⟨ret_bool (decide_eq_true ⟨HD.out, HO.out⟩).symm, HCC.out.alloc _⟩
  by_cases b3 : y = x
  case pos =>
    have b3' : (y == x) = true := by simpa using b3
    have HO : Hid (¬ HdOk D.length ⟨x, y, z⟩) := Lib.hid (fun hh => by obtain ⟨⟨p1, p2⟩, ⟨p3, p4⟩, ⟨p5, p6⟩, p7, p8, p9⟩ := hh; simp only at p1 p2 p3 p4 p5 p6 p7 p8 p9; omega)
    clear b3
    go_wp2
    refine wp_loop_rounds 4 ?_
    repeat (first | (refine one_round ?_; go_wp2) | (refine wp_loop_rounds 3 ?_; refine one_round ?_; go_wp2))
    go_ret
    exact ⟨ret_bool (decide_eq_false fun hh => HO.out hh.2).symm, HCC.out.alloc _⟩
  have b3' : (y == x) = false := by simpa using b3
  have B3 := Lib.hid b3
  clear b3
  by_cases c0 : -1 ≤ z
  case neg =>
    have HO : Hid (¬ HdOk D.length ⟨x, y, z⟩) := Lib.hid (fun hh => by obtain ⟨⟨p1, p2⟩, ⟨p3, p4⟩, ⟨p5, p6⟩, p7, p8, p9⟩ := hh; simp only at p1 p2 p3 p4 p5 p6 p7 p8 p9; omega)
    go_wp2
    refine wp_loop_rounds 4 ?_
    repeat (first | (refine one_round ?_; go_wp2) | (refine wp_loop_rounds 3 ?_; refine one_round ?_; go_wp2))
    go_ret
    exact ⟨ret_bool (decide_eq_false fun hh => HO.out hh.2).symm, HCC.out.alloc _⟩
  by_cases c1 : z < (D.length : Int)
  case neg =>
    have HO : Hid (¬ HdOk D.length ⟨x, y, z⟩) := Lib.hid (fun hh => by obtain ⟨⟨p1, p2⟩, ⟨p3, p4⟩, ⟨p5, p6⟩, p7, p8, p9⟩ := hh; simp only at p1 p2 p3 p4 p5 p6 p7 p8 p9; omega)
    go_wp2
    refine wp_loop_rounds 4 ?_
    repeat (first | (refine one_round ?_; go_wp2) | (refine wp_loop_rounds 3 ?_; refine one_round ?_; go_wp2))
    go_ret
    exact ⟨ret_bool (decide_eq_false fun hh => HO.out hh.2).symm, HCC.out.alloc _⟩
  by_cases c2 : 0 ≤ z
  case neg =>
    have HO : Hid (HdOk D.length ⟨x, y, z⟩) := Lib.hid ⟨⟨a0, a1⟩, ⟨b0, b1⟩, ⟨c0, c1⟩, fun _ => B3.out, fun h => absurd h c2, fun h => absurd h c2⟩
    go_wp2
    refine wp_loop_rounds 4 ?_
    repeat (first | (refine one_round ?_; go_wp2) | (refine wp_loop_rounds 3 ?_; refine one_round ?_; go_wp2))
    go_ret
    exact ⟨ret_bool (decide_eq_true ⟨HD.out, HO.out⟩).symm, HCC.out.alloc _⟩
  by_cases c3 : z = x
  case pos =>
    have c3' : (z == x) = true := by simpa using c3
    have C3 := Lib.hid c3
    have HO : Hid (¬ HdOk D.length ⟨x, y, z⟩) := Lib.hid (fun hh => by obtain ⟨⟨p1, p2⟩, ⟨p3, p4⟩, ⟨p5, p6⟩, p7, p8, p9⟩ := hh; simp only at p1 p2 p3 p4 p5 p6 p7 p8 p9; omega)
    clear c3
    go_wp2
    refine wp_loop_rounds 4 ?_
    repeat (first | (refine one_round ?_; go_wp2) | (refine wp_loop_rounds 3 ?_; refine one_round ?_; go_wp2))
    go_ret
    exact ⟨ret_bool (decide_eq_false fun hh => HO.out hh.2).symm, HCC.out.alloc _⟩
  have c3' : (z == x) = false := by simpa using c3
  have C3 := Lib.hid c3
  clear c3
  by_cases c4 : z = y
  case pos =>
    have c4' : (z == y) = true := by simpa using c4
    have C4 := Lib.hid c4
    have HO : Hid (¬ HdOk D.length ⟨x, y, z⟩) := Lib.hid (fun hh => by obtain ⟨⟨p1, p2⟩, ⟨p3, p4⟩, ⟨p5, p6⟩, p7, p8, p9⟩ := hh; simp only at p1 p2 p3 p4 p5 p6 p7 p8 p9; omega)
    clear c4
    go_wp2
    refine wp_loop_rounds 4 ?_
    repeat (first | (refine one_round ?_; go_wp2) | (refine wp_loop_rounds 3 ?_; refine one_round ?_; go_wp2))
    go_ret
    exact ⟨ret_bool (decide_eq_false fun hh => HO.out hh.2).symm, HCC.out.alloc _⟩
  have c4' : (z == y) = false := by simpa using c4
  have C4 := Lib.hid c4
  clear c4
  have HO : Hid (HdOk D.length ⟨x, y, z⟩) := Lib.hid ⟨⟨a0, a1⟩, ⟨b0, b1⟩, ⟨c0, c1⟩, fun _ => B3.out, fun _ => C3.out, fun _ => C4.out⟩
  go_wp2
  refine wp_loop_rounds 4 ?_
  repeat (first | (refine one_round ?_; go_wp2) | (refine wp_loop_rounds 3 ?_; refine one_round ?_; go_wp2))
  go_ret
  exact ⟨ret_bool (decide_eq_true ⟨HD.out, HO.out⟩).symm, HCC.out.alloc _⟩
end Go.Proofs.Ytpiojofmflfkkaa
/- Heads: HeadsValid of the reference. -/
namespace Go.Proofs.Ytpiojofmflfkkaa
open Go.RowKit
set_option maxRecDepth 100000 in
set_option maxHeartbeats 4000000 in
theorem sHeadsValid_any (F : Nat → Prop) (A : Option Addr) (c : Nat) (D : List Bk) (h : Hd) (w : World) (hr : DevR F w A D) (hs : Small D) :
    Calls Try.prog 75 #[.slice A D.length c, hval h] w fun e w' => e = .returned (.bool (decide (HeadsOk D h))) ∧ Chg NoB w w' := by
  obtain ⟨x, y, z⟩ := h
  have hlen := hs.1
  have HS := Lib.hid hs
  have HR := Lib.hid hr
  clear hs hr
  by_cases xr : -1 ≤ x ∧ x ≤ (D.length : Int) - 1
  case neg =>
    have XR := Lib.hid xr
    clear xr
    have HO : Hid (¬ HdOk D.length ⟨x, y, z⟩) := Lib.hid (fun hh => by obtain ⟨⟨p1, p2⟩, ⟨p3, p4⟩, ⟨p5, p6⟩, p7, p8, p9⟩ := hh; simp only at p1 p2 p3 p4 p5 p6 p7 p8 p9; have := XR.out; omega)
    go_enter Try.func75, Try.ntmps75
    go_wp2_with (first | (go_at_call 77; (with_reducible refine (l1In_f x _ _ _ XR.out).mono ?_); rintro e w' ⟨rfl, rfl⟩))
    refine wp_loop_rounds 4 ?_
    repeat (first | (refine one_round ?_; go_wp2_with (first | (go_at_call 77; (with_reducible refine (l1In_f x _ _ _ XR.out).mono ?_); rintro e w' ⟨rfl, rfl⟩))) | (refine wp_loop_rounds 3 ?_; refine one_round ?_; go_wp2_with (first | (go_at_call 77; (with_reducible refine (l1In_f x _ _ _ XR.out).mono ?_); rintro e w' ⟨rfl, rfl⟩))) | (go_quiet (fail); go_wp2_with (first | (go_at_call 77; (with_reducible refine (l1In_f x _ _ _ XR.out).mono ?_); rintro e w' ⟨rfl, rfl⟩))))
    go_ret
    exact ⟨ret_bool (decide_eq_false fun hh => HO.out hh.2).symm, (by repeat (first | exact Chg.refl _ _ | refine Chg.drewN ?_ _ | refine Chg.drew ?_ | refine Chg.alloc ?_ _))⟩
  have XR := Lib.hid xr
  clear xr
  by_cases yr : -1 ≤ y ∧ y ≤ (D.length : Int) - 1
  case neg =>
    have YR := Lib.hid yr
    clear yr
    have HO : Hid (¬ HdOk D.length ⟨x, y, z⟩) := Lib.hid (fun hh => by obtain ⟨⟨p1, p2⟩, ⟨p3, p4⟩, ⟨p5, p6⟩, p7, p8, p9⟩ := hh; simp only at p1 p2 p3 p4 p5 p6 p7 p8 p9; have := XR.out; have := YR.out; omega)
    go_enter Try.func75, Try.ntmps75
    go_wp2_with (first | (go_at_call 77; (with_reducible refine (l1In_t x _ _ _ XR.out).mono ?_); rintro e w' ⟨rfl, rfl⟩) | (go_at_call 77; (with_reducible refine (l1In_f y _ _ _ YR.out).mono ?_); rintro e w' ⟨rfl, rfl⟩))
    refine wp_loop_rounds 4 ?_
    repeat (first | (refine one_round ?_; go_wp2_with (first | (go_at_call 77; (with_reducible refine (l1In_t x _ _ _ XR.out).mono ?_); rintro e w' ⟨rfl, rfl⟩) | (go_at_call 77; (with_reducible refine (l1In_f y _ _ _ YR.out).mono ?_); rintro e w' ⟨rfl, rfl⟩))) | (refine wp_loop_rounds 3 ?_; refine one_round ?_; go_wp2_with (first | (go_at_call 77; (with_reducible refine (l1In_t x _ _ _ XR.out).mono ?_); rintro e w' ⟨rfl, rfl⟩) | (go_at_call 77; (with_reducible refine (l1In_f y _ _ _ YR.out).mono ?_); rintro e w' ⟨rfl, rfl⟩))) | (go_quiet (fail); go_wp2_with (first | (go_at_call 77; (with_reducible refine (l1In_t x _ _ _ XR.out).mono ?_); rintro e w' ⟨rfl, rfl⟩) | (go_at_call 77; (with_reducible refine (l1In_f y _ _ _ YR.out).mono ?_); rintro e w' ⟨rfl, rfl⟩))))
    go_ret
    exact ⟨ret_bool (decide_eq_false fun hh => HO.out hh.2).symm, (by repeat (first | exact Chg.refl _ _ | refine Chg.drewN ?_ _ | refine Chg.drew ?_ | refine Chg.alloc ?_ _))⟩
  have YR := Lib.hid yr
  clear yr
  by_cases b : x = y
  case pos =>
    have b' : (x == y) = true := by simpa using b
    by_cases bn : 0 ≤ y
    case pos =>
      have HO : Hid (¬ HdOk D.length ⟨x, y, z⟩) := Lib.hid (fun hh => by obtain ⟨⟨p1, p2⟩, ⟨p3, p4⟩, ⟨p5, p6⟩, p7, p8, p9⟩ := hh; simp only at p1 p2 p3 p4 p5 p6 p7 p8 p9; have := XR.out; have := YR.out; omega)
      clear b
      go_enter Try.func75, Try.ntmps75
      go_wp2_with (first | (go_at_call 77; (with_reducible refine (l1In_t x _ _ _ XR.out).mono ?_); rintro e w' ⟨rfl, rfl⟩) | (go_at_call 77; (with_reducible refine (l1In_t y _ _ _ YR.out).mono ?_); rintro e w' ⟨rfl, rfl⟩))
      refine wp_loop_rounds 4 ?_
      repeat (first | (refine one_round ?_; go_wp2_with (first | (go_at_call 77; (with_reducible refine (l1In_t x _ _ _ XR.out).mono ?_); rintro e w' ⟨rfl, rfl⟩) | (go_at_call 77; (with_reducible refine (l1In_t y _ _ _ YR.out).mono ?_); rintro e w' ⟨rfl, rfl⟩))) | (refine wp_loop_rounds 3 ?_; refine one_round ?_; go_wp2_with (first | (go_at_call 77; (with_reducible refine (l1In_t x _ _ _ XR.out).mono ?_); rintro e w' ⟨rfl, rfl⟩) | (go_at_call 77; (with_reducible refine (l1In_t y _ _ _ YR.out).mono ?_); rintro e w' ⟨rfl, rfl⟩))) | (go_quiet (fail); go_wp2_with (first | (go_at_call 77; (with_reducible refine (l1In_t x _ _ _ XR.out).mono ?_); rintro e w' ⟨rfl, rfl⟩) | (go_at_call 77; (with_reducible refine (l1In_t y _ _ _ YR.out).mono ?_); rintro e w' ⟨rfl, rfl⟩))))
      go_ret
      exact ⟨ret_bool (decide_eq_false fun hh => HO.out hh.2).symm, (by repeat (first | exact Chg.refl _ _ | refine Chg.drewN ?_ _ | refine Chg.drew ?_ | refine Chg.alloc ?_ _))⟩
    clear b
    by_cases zr : -1 ≤ z ∧ z ≤ (D.length : Int) - 1
    case neg =>
      have ZR := Lib.hid zr
      clear zr
      have HO : Hid (¬ HdOk D.length ⟨x, y, z⟩) := Lib.hid (fun hh => by obtain ⟨⟨p1, p2⟩, ⟨p3, p4⟩, ⟨p5, p6⟩, p7, p8, p9⟩ := hh; simp only at p1 p2 p3 p4 p5 p6 p7 p8 p9; have := XR.out; have := YR.out; have := ZR.out; omega)
      go_enter Try.func75, Try.ntmps75
      go_wp2_with (first | (go_at_call 77; (with_reducible refine (l1In_t x _ _ _ XR.out).mono ?_); rintro e w' ⟨rfl, rfl⟩) | (go_at_call 77; (with_reducible refine (l1In_t y _ _ _ YR.out).mono ?_); rintro e w' ⟨rfl, rfl⟩) | (go_at_call 77; (with_reducible refine (l1In_f z _ _ _ ZR.out).mono ?_); rintro e w' ⟨rfl, rfl⟩))
      refine wp_loop_rounds 4 ?_
      repeat (first | (refine one_round ?_; go_wp2_with (first | (go_at_call 77; (with_reducible refine (l1In_t x _ _ _ XR.out).mono ?_); rintro e w' ⟨rfl, rfl⟩) | (go_at_call 77; (with_reducible refine (l1In_t y _ _ _ YR.out).mono ?_); rintro e w' ⟨rfl, rfl⟩) | (go_at_call 77; (with_reducible refine (l1In_f z _ _ _ ZR.out).mono ?_); rintro e w' ⟨rfl, rfl⟩))) | (refine wp_loop_rounds 3 ?_; refine one_round ?_; go_wp2_with (first | (go_at_call 77; (with_reducible refine (l1In_t x _ _ _ XR.out).mono ?_); rintro e w' ⟨rfl, rfl⟩) | (go_at_call 77; (with_reducible refine (l1In_t y _ _ _ YR.out).mono ?_); rintro e w' ⟨rfl, rfl⟩) | (go_at_call 77; (with_reducible refine (l1In_f z _ _ _ ZR.out).mono ?_); rintro e w' ⟨rfl, rfl⟩))) | (go_quiet (fail); go_wp2_with (first | (go_at_call 77; (with_reducible refine (l1In_t x _ _ _ XR.out).mono ?_); rintro e w' ⟨rfl, rfl⟩) | (go_at_call 77; (with_reducible refine (l1In_t y _ _ _ YR.out).mono ?_); rintro e w' ⟨rfl, rfl⟩) | (go_at_call 77; (with_reducible refine (l1In_f z _ _ _ ZR.out).mono ?_); rintro e w' ⟨rfl, rfl⟩))))
      go_ret
      exact ⟨ret_bool (decide_eq_false fun hh => HO.out hh.2).symm, (by repeat (first | exact Chg.refl _ _ | refine Chg.drewN ?_ _ | refine Chg.drew ?_ | refine Chg.alloc ?_ _))⟩
    have ZR := Lib.hid zr
    clear zr
    by_cases c : x = z
    case pos =>
      have c' : (x == z) = true := by simpa using c
      by_cases cn : 0 ≤ z
      case pos =>
        have HO : Hid (¬ HdOk D.length ⟨x, y, z⟩) := Lib.hid (fun hh => by obtain ⟨⟨p1, p2⟩, ⟨p3, p4⟩, ⟨p5, p6⟩, p7, p8, p9⟩ := hh; simp only at p1 p2 p3 p4 p5 p6 p7 p8 p9; have := XR.out; have := YR.out; have := ZR.out; omega)
        clear c
        go_enter Try.func75, Try.ntmps75
        go_wp2_with (first | (go_at_call 77; (with_reducible refine (l1In_t x _ _ _ XR.out).mono ?_); rintro e w' ⟨rfl, rfl⟩) | (go_at_call 77; (with_reducible refine (l1In_t y _ _ _ YR.out).mono ?_); rintro e w' ⟨rfl, rfl⟩) | (go_at_call 77; (with_reducible refine (l1In_t z _ _ _ ZR.out).mono ?_); rintro e w' ⟨rfl, rfl⟩))
        refine wp_loop_rounds 4 ?_
        repeat (first | (refine one_round ?_; go_wp2_with (first | (go_at_call 77; (with_reducible refine (l1In_t x _ _ _ XR.out).mono ?_); rintro e w' ⟨rfl, rfl⟩) | (go_at_call 77; (with_reducible refine (l1In_t y _ _ _ YR.out).mono ?_); rintro e w' ⟨rfl, rfl⟩) | (go_at_call 77; (with_reducible refine (l1In_t z _ _ _ ZR.out).mono ?_); rintro e w' ⟨rfl, rfl⟩))) | (refine wp_loop_rounds 3 ?_; refine one_round ?_; go_wp2_with (first | (go_at_call 77; (with_reducible refine (l1In_t x _ _ _ XR.out).mono ?_); rintro e w' ⟨rfl, rfl⟩) | (go_at_call 77; (with_reducible refine (l1In_t y _ _ _ YR.out).mono ?_); rintro e w' ⟨rfl, rfl⟩) | (go_at_call 77; (with_reducible refine (l1In_t z _ _ _ ZR.out).mono ?_); rintro e w' ⟨rfl, rfl⟩))) | (go_quiet (fail); go_wp2_with (first | (go_at_call 77; (with_reducible refine (l1In_t x _ _ _ XR.out).mono ?_); rintro e w' ⟨rfl, rfl⟩) | (go_at_call 77; (with_reducible refine (l1In_t y _ _ _ YR.out).mono ?_); rintro e w' ⟨rfl, rfl⟩) | (go_at_call 77; (with_reducible refine (l1In_t z _ _ _ ZR.out).mono ?_); rintro e w' ⟨rfl, rfl⟩))))
        go_ret
        exact ⟨ret_bool (decide_eq_false fun hh => HO.out hh.2).symm, (by repeat (first | exact Chg.refl _ _ | refine Chg.drewN ?_ _ | refine Chg.drew ?_ | refine Chg.alloc ?_ _))⟩
      clear c
      by_cases d : y = z
      case pos =>
        have d' : (y == z) = true := by simpa using d
        by_cases dn : 0 ≤ z
        case pos => exact absurd dn cn
        clear d
        have HO : Hid (HdOk D.length ⟨x, y, z⟩) := Lib.hid ⟨by have := XR.out; simp only; omega, by have := YR.out; simp only; omega, by have := ZR.out; simp only; omega, fun h => absurd h bn, fun h => absurd h cn, fun h => absurd h dn⟩
        go_enter Try.func75, Try.ntmps75
        go_wp2_with (first | (go_at_call 77; (with_reducible refine (l1In_t x _ _ _ XR.out).mono ?_); rintro e w' ⟨rfl, rfl⟩) | (go_at_call 77; (with_reducible refine (l1In_t y _ _ _ YR.out).mono ?_); rintro e w' ⟨rfl, rfl⟩) | (go_at_call 77; (with_reducible refine (l1In_t z _ _ _ ZR.out).mono ?_); rintro e w' ⟨rfl, rfl⟩))
        refine wp_loop_rounds 4 ?_
        repeat (first | (refine one_round ?_; go_wp2_with (first | (go_at_call 77; (with_reducible refine (l1In_t x _ _ _ XR.out).mono ?_); rintro e w' ⟨rfl, rfl⟩) | (go_at_call 77; (with_reducible refine (l1In_t y _ _ _ YR.out).mono ?_); rintro e w' ⟨rfl, rfl⟩) | (go_at_call 77; (with_reducible refine (l1In_t z _ _ _ ZR.out).mono ?_); rintro e w' ⟨rfl, rfl⟩))) | (refine wp_loop_rounds 3 ?_; refine one_round ?_; go_wp2_with (first | (go_at_call 77; (with_reducible refine (l1In_t x _ _ _ XR.out).mono ?_); rintro e w' ⟨rfl, rfl⟩) | (go_at_call 77; (with_reducible refine (l1In_t y _ _ _ YR.out).mono ?_); rintro e w' ⟨rfl, rfl⟩) | (go_at_call 77; (with_reducible refine (l1In_t z _ _ _ ZR.out).mono ?_); rintro e w' ⟨rfl, rfl⟩))) | (go_quiet (fail); go_wp2_with (first | (go_at_call 77; (with_reducible refine (l1In_t x _ _ _ XR.out).mono ?_); rintro e w' ⟨rfl, rfl⟩) | (go_at_call 77; (with_reducible refine (l1In_t y _ _ _ YR.out).mono ?_); rintro e w' ⟨rfl, rfl⟩) | (go_at_call 77; (with_reducible refine (l1In_t z _ _ _ ZR.out).mono ?_); rintro e w' ⟨rfl, rfl⟩))))
        refine (sDeviceValid_any _ A c D _ (HR.out.new (by repeat (first | exact Chg.refl _ _ | refine Chg.drewN ?_ _ | refine Chg.drew ?_ | refine Chg.alloc ?_ _))) HS.out).mono ?_
        rintro e w2 ⟨rfl, hc2⟩
        have HC2 := Lib.hid (show Chg NoB w w2 from Chg.trans (by repeat (first | exact Chg.refl _ _ | refine Chg.drewN ?_ _ | refine Chg.drew ?_ | refine Chg.alloc ?_ _)) hc2)
        clear hc2
        go_wp2
        go_ret
        exact ⟨ret_bool (bool_dec (by rw [decide_eq_true_iff]; exact ⟨fun hh => ⟨hh, HO.out⟩, fun hh => hh.1⟩)), HC2.out⟩
      have d' : (y == z) = false := by simpa using d
      have DH := Lib.hid d
      clear d
      have HO : Hid (HdOk D.length ⟨x, y, z⟩) := Lib.hid ⟨by have := XR.out; simp only; omega, by have := YR.out; simp only; omega, by have := ZR.out; simp only; omega, fun h => absurd h bn, fun h => absurd h cn, fun _ h => DH.out h.symm⟩
      go_enter Try.func75, Try.ntmps75
      go_wp2_with (first | (go_at_call 77; (with_reducible refine (l1In_t x _ _ _ XR.out).mono ?_); rintro e w' ⟨rfl, rfl⟩) | (go_at_call 77; (with_reducible refine (l1In_t y _ _ _ YR.out).mono ?_); rintro e w' ⟨rfl, rfl⟩) | (go_at_call 77; (with_reducible refine (l1In_t z _ _ _ ZR.out).mono ?_); rintro e w' ⟨rfl, rfl⟩))
      refine wp_loop_rounds 4 ?_
      repeat (first | (refine one_round ?_; go_wp2_with (first | (go_at_call 77; (with_reducible refine (l1In_t x _ _ _ XR.out).mono ?_); rintro e w' ⟨rfl, rfl⟩) | (go_at_call 77; (with_reducible refine (l1In_t y _ _ _ YR.out).mono ?_); rintro e w' ⟨rfl, rfl⟩) | (go_at_call 77; (with_reducible refine (l1In_t z _ _ _ ZR.out).mono ?_); rintro e w' ⟨rfl, rfl⟩))) | (refine wp_loop_rounds 3 ?_; refine one_round ?_; go_wp2_with (first | (go_at_call 77; (with_reducible refine (l1In_t x _ _ _ XR.out).mono ?_); rintro e w' ⟨rfl, rfl⟩) | (go_at_call 77; (with_reducible refine (l1In_t y _ _ _ YR.out).mono ?_); rintro e w' ⟨rfl, rfl⟩) | (go_at_call 77; (with_reducible refine (l1In_t z _ _ _ ZR.out).mono ?_); rintro e w' ⟨rfl, rfl⟩))) | (go_quiet (fail); go_wp2_with (first | (go_at_call 77; (with_reducible refine (l1In_t x _ _ _ XR.out).mono ?_); rintro e w' ⟨rfl, rfl⟩) | (go_at_call 77; (with_reducible refine (l1In_t y _ _ _ YR.out).mono ?_); rintro e w' ⟨rfl, rfl⟩) | (go_at_call 77; (with_reducible refine (l1In_t z _ _ _ ZR.out).mono ?_); rintro e w' ⟨rfl, rfl⟩))))
      refine (sDeviceValid_any _ A c D _ (HR.out.new (by repeat (first | exact Chg.refl _ _ | refine Chg.drewN ?_ _ | refine Chg.drew ?_ | refine Chg.alloc ?_ _))) HS.out).mono ?_
      rintro e w2 ⟨rfl, hc2⟩
      have HC2 := Lib.hid (show Chg NoB w w2 from Chg.trans (by repeat (first | exact Chg.refl _ _ | refine Chg.drewN ?_ _ | refine Chg.drew ?_ | refine Chg.alloc ?_ _)) hc2)
      clear hc2
      go_wp2
      go_ret
      exact ⟨ret_bool (bool_dec (by rw [decide_eq_true_iff]; exact ⟨fun hh => ⟨hh, HO.out⟩, fun hh => hh.1⟩)), HC2.out⟩
    have c' : (x == z) = false := by simpa using c
    have CH := Lib.hid c
    clear c
    by_cases d : y = z
    case pos =>
      have d' : (y == z) = true := by simpa using d
      by_cases dn : 0 ≤ z
      case pos =>
        have HO : Hid (¬ HdOk D.length ⟨x, y, z⟩) := Lib.hid (fun hh => by obtain ⟨⟨p1, p2⟩, ⟨p3, p4⟩, ⟨p5, p6⟩, p7, p8, p9⟩ := hh; simp only at p1 p2 p3 p4 p5 p6 p7 p8 p9; have := XR.out; have := YR.out; have := ZR.out; omega)
        clear d
        go_enter Try.func75, Try.ntmps75
        go_wp2_with (first | (go_at_call 77; (with_reducible refine (l1In_t x _ _ _ XR.out).mono ?_); rintro e w' ⟨rfl, rfl⟩) | (go_at_call 77; (with_reducible refine (l1In_t y _ _ _ YR.out).mono ?_); rintro e w' ⟨rfl, rfl⟩) | (go_at_call 77; (with_reducible refine (l1In_t z _ _ _ ZR.out).mono ?_); rintro e w' ⟨rfl, rfl⟩))
        refine wp_loop_rounds 4 ?_
        repeat (first | (refine one_round ?_; go_wp2_with (first | (go_at_call 77; (with_reducible refine (l1In_t x _ _ _ XR.out).mono ?_); rintro e w' ⟨rfl, rfl⟩) | (go_at_call 77; (with_reducible refine (l1In_t y _ _ _ YR.out).mono ?_); rintro e w' ⟨rfl, rfl⟩) | (go_at_call 77; (with_reducible refine (l1In_t z _ _ _ ZR.out).mono ?_); rintro e w' ⟨rfl, rfl⟩))) | (refine wp_loop_rounds 3 ?_; refine one_round ?_; go_wp2_with (first | (go_at_call 77; (with_reducible refine (l1In_t x _ _ _ XR.out).mono ?_); rintro e w' ⟨rfl, rfl⟩) | (go_at_call 77; (with_reducible refine (l1In_t y _ _ _ YR.out).mono ?_); rintro e w' ⟨rfl, rfl⟩) | (go_at_call 77; (with_reducible refine (l1In_t z _ _ _ ZR.out).mono ?_); rintro e w' ⟨rfl, rfl⟩))) | (go_quiet (fail); go_wp2_with (first | (go_at_call 77; (with_reducible refine (l1In_t x _ _ _ XR.out).mono ?_); rintro e w' ⟨rfl, rfl⟩) | (go_at_call 77; (with_reducible refine (l1In_t y _ _ _ YR.out).mono ?_); rintro e w' ⟨rfl, rfl⟩) | (go_at_call 77; (with_reducible refine (l1In_t z _ _ _ ZR.out).mono ?_); rintro e w' ⟨rfl, rfl⟩))))
        go_ret
        exact ⟨ret_bool (decide_eq_false fun hh => HO.out hh.2).symm, (by repeat (first | exact Chg.refl _ _ | refine Chg.drewN ?_ _ | refine Chg.drew ?_ | refine Chg.alloc ?_ _))⟩
      clear d
      have HO : Hid (HdOk D.length ⟨x, y, z⟩) := Lib.hid ⟨by have := XR.out; simp only; omega, by have := YR.out; simp only; omega, by have := ZR.out; simp only; omega, fun h => absurd h bn, fun _ h => CH.out h.symm, fun h => absurd h dn⟩
      go_enter Try.func75, Try.ntmps75
      go_wp2_with (first | (go_at_call 77; (with_reducible refine (l1In_t x _ _ _ XR.out).mono ?_); rintro e w' ⟨rfl, rfl⟩) | (go_at_call 77; (with_reducible refine (l1In_t y _ _ _ YR.out).mono ?_); rintro e w' ⟨rfl, rfl⟩) | (go_at_call 77; (with_reducible refine (l1In_t z _ _ _ ZR.out).mono ?_); rintro e w' ⟨rfl, rfl⟩))
      refine wp_loop_rounds 4 ?_
      repeat (first | (refine one_round ?_; go_wp2_with (first | (go_at_call 77; (with_reducible refine (l1In_t x _ _ _ XR.out).mono ?_); rintro e w' ⟨rfl, rfl⟩) | (go_at_call 77; (with_reducible refine (l1In_t y _ _ _ YR.out).mono ?_); rintro e w' ⟨rfl, rfl⟩) | (go_at_call 77; (with_reducible refine (l1In_t z _ _ _ ZR.out).mono ?_); rintro e w' ⟨rfl, rfl⟩))) | (refine wp_loop_rounds 3 ?_; refine one_round ?_; go_wp2_with (first | (go_at_call 77; (with_reducible refine (l1In_t x _ _ _ XR.out).mono ?_); rintro e w' ⟨rfl, rfl⟩) | (go_at_call 77; (with_reducible refine (l1In_t y _ _ _ YR.out).mono ?_); rintro e w' ⟨rfl, rfl⟩) | (go_at_call 77; (with_reducible refine (l1In_t z _ _ _ ZR.out).mono ?_); rintro e w' ⟨rfl, rfl⟩))) | (go_quiet (fail); go_wp2_with (first | (go_at_call 77; (with_reducible refine (l1In_t x _ _ _ XR.out).mono ?_); rintro e w' ⟨rfl, rfl⟩) | (go_at_call 77; (with_reducible refine (l1In_t y _ _ _ YR.out).mono ?_); rintro e w' ⟨rfl, rfl⟩) | (go_at_call 77; (with_reducible refine (l1In_t z _ _ _ ZR.out).mono ?_); rintro e w' ⟨rfl, rfl⟩))))
      refine (sDeviceValid_any _ A c D _ (HR.out.new (by repeat (first | exact Chg.refl _ _ | refine Chg.drewN ?_ _ | refine Chg.drew ?_ | refine Chg.alloc ?_ _))) HS.out).mono ?_
      rintro e w2 ⟨rfl, hc2⟩
      have HC2 := Lib.hid (show Chg NoB w w2 from Chg.trans (by repeat (first | exact Chg.refl _ _ | refine Chg.drewN ?_ _ | refine Chg.drew ?_ | refine Chg.alloc ?_ _)) hc2)
      clear hc2
      go_wp2
      go_ret
      exact ⟨ret_bool (bool_dec (by rw [decide_eq_true_iff]; exact ⟨fun hh => ⟨hh, HO.out⟩, fun hh => hh.1⟩)), HC2.out⟩
    have d' : (y == z) = false := by simpa using d
    have DH := Lib.hid d
    clear d
    have HO : Hid (HdOk D.length ⟨x, y, z⟩) := Lib.hid ⟨by have := XR.out; simp only; omega, by have := YR.out; simp only; omega, by have := ZR.out; simp only; omega, fun h => absurd h bn, fun _ h => CH.out h.symm, fun _ h => DH.out h.symm⟩
    go_enter Try.func75, Try.ntmps75
    go_wp2_with (first | (go_at_call 77; (with_reducible refine (l1In_t x _ _ _ XR.out).mono ?_); rintro e w' ⟨rfl, rfl⟩) | (go_at_call 77; (with_reducible refine (l1In_t y _ _ _ YR.out).mono ?_); rintro e w' ⟨rfl, rfl⟩) | (go_at_call 77; (with_reducible refine (l1In_t z _ _ _ ZR.out).mono ?_); rintro e w' ⟨rfl, rfl⟩))
    refine wp_loop_rounds 4 ?_
    repeat (first | (refine one_round ?_; go_wp2_with (first | (go_at_call 77; (with_reducible refine (l1In_t x _ _ _ XR.out).mono ?_); rintro e w' ⟨rfl, rfl⟩) | (go_at_call 77; (with_reducible refine (l1In_t y _ _ _ YR.out).mono ?_); rintro e w' ⟨rfl, rfl⟩) | (go_at_call 77; (with_reducible refine (l1In_t z _ _ _ ZR.out).mono ?_); rintro e w' ⟨rfl, rfl⟩))) | (refine wp_loop_rounds 3 ?_; refine one_round ?_; go_wp2_with (first | (go_at_call 77; (with_reducible refine (l1In_t x _ _ _ XR.out).mono ?_); rintro e w' ⟨rfl, rfl⟩) | (go_at_call 77; (with_reducible refine (l1In_t y _ _ _ YR.out).mono ?_); rintro e w' ⟨rfl, rfl⟩) | (go_at_call 77; (with_reducible refine (l1In_t z _ _ _ ZR.out).mono ?_); rintro e w' ⟨rfl, rfl⟩))) | (go_quiet (fail); go_wp2_with (first | (go_at_call 77; (with_reducible refine (l1In_t x _ _ _ XR.out).mono ?_); rintro e w' ⟨rfl, rfl⟩) | (go_at_call 77; (with_reducible refine (l1In_t y _ _ _ YR.out).mono ?_); rintro e w' ⟨rfl, rfl⟩) | (go_at_call 77; (with_reducible refine (l1In_t z _ _ _ ZR.out).mono ?_); rintro e w' ⟨rfl, rfl⟩))))
    refine (sDeviceValid_any _ A c D _ (HR.out.new (by repeat (first | exact Chg.refl _ _ | refine Chg.drewN ?_ _ | refine Chg.drew ?_ | refine Chg.alloc ?_ _))) HS.out).mono ?_
    rintro e w2 ⟨rfl, hc2⟩
    have HC2 := Lib.hid (show Chg NoB w w2 from Chg.trans (by repeat (first | exact Chg.refl _ _ | refine Chg.drewN ?_ _ | refine Chg.drew ?_ | refine Chg.alloc ?_ _)) hc2)
    clear hc2
    go_wp2
    go_ret
    exact ⟨ret_bool (bool_dec (by rw [decide_eq_true_iff]; exact ⟨fun hh => ⟨hh, HO.out⟩, fun hh => hh.1⟩)), HC2.out⟩
  have b' : (x == y) = false := by simpa using b
  have BH := Lib.hid b
  clear b
  by_cases zr : -1 ≤ z ∧ z ≤ (D.length : Int) - 1
  case neg =>
    have ZR := Lib.hid zr
    clear zr
    have HO : Hid (¬ HdOk D.length ⟨x, y, z⟩) := Lib.hid (fun hh => by obtain ⟨⟨p1, p2⟩, ⟨p3, p4⟩, ⟨p5, p6⟩, p7, p8, p9⟩ := hh; simp only at p1 p2 p3 p4 p5 p6 p7 p8 p9; have := XR.out; have := YR.out; have := ZR.out; omega)
    go_enter Try.func75, Try.ntmps75
    go_wp2_with (first | (go_at_call 77; (with_reducible refine (l1In_t x _ _ _ XR.out).mono ?_); rintro e w' ⟨rfl, rfl⟩) | (go_at_call 77; (with_reducible refine (l1In_t y _ _ _ YR.out).mono ?_); rintro e w' ⟨rfl, rfl⟩) | (go_at_call 77; (with_reducible refine (l1In_f z _ _ _ ZR.out).mono ?_); rintro e w' ⟨rfl, rfl⟩))
    refine wp_loop_rounds 4 ?_
    repeat (first | (refine one_round ?_; go_wp2_with (first | (go_at_call 77; (with_reducible refine (l1In_t x _ _ _ XR.out).mono ?_); rintro e w' ⟨rfl, rfl⟩) | (go_at_call 77; (with_reducible refine (l1In_t y _ _ _ YR.out).mono ?_); rintro e w' ⟨rfl, rfl⟩) | (go_at_call 77; (with_reducible refine (l1In_f z _ _ _ ZR.out).mono ?_); rintro e w' ⟨rfl, rfl⟩))) | (refine wp_loop_rounds 3 ?_; refine one_round ?_; go_wp2_with (first | (go_at_call 77; (with_reducible refine (l1In_t x _ _ _ XR.out).mono ?_); rintro e w' ⟨rfl, rfl⟩) | (go_at_call 77; (with_reducible refine (l1In_t y _ _ _ YR.out).mono ?_); rintro e w' ⟨rfl, rfl⟩) | (go_at_call 77; (with_reducible refine (l1In_f z _ _ _ ZR.out).mono ?_); rintro e w' ⟨rfl, rfl⟩))) | (go_quiet (fail); go_wp2_with (first | (go_at_call 77; (with_reducible refine (l1In_t x _ _ _ XR.out).mono ?_); rintro e w' ⟨rfl, rfl⟩) | (go_at_call 77; (with_reducible refine (l1In_t y _ _ _ YR.out).mono ?_); rintro e w' ⟨rfl, rfl⟩) | (go_at_call 77; (with_reducible refine (l1In_f z _ _ _ ZR.out).mono ?_); rintro e w' ⟨rfl, rfl⟩))))
    go_ret
    exact ⟨ret_bool (decide_eq_false fun hh => HO.out hh.2).symm, (by repeat (first | exact Chg.refl _ _ | refine Chg.drewN ?_ _ | refine Chg.drew ?_ | refine Chg.alloc ?_ _))⟩
  have ZR := Lib.hid zr
  clear zr
  by_cases c : x = z
  case pos =>
    have c' : (x == z) = true := by simpa using c
    by_cases cn : 0 ≤ z
    case pos =>
      have HO : Hid (¬ HdOk D.length ⟨x, y, z⟩) := Lib.hid (fun hh => by obtain ⟨⟨p1, p2⟩, ⟨p3, p4⟩, ⟨p5, p6⟩, p7, p8, p9⟩ := hh; simp only at p1 p2 p3 p4 p5 p6 p7 p8 p9; have := XR.out; have := YR.out; have := ZR.out; omega)
      clear c
      go_enter Try.func75, Try.ntmps75
      go_wp2_with (first | (go_at_call 77; (with_reducible refine (l1In_t x _ _ _ XR.out).mono ?_); rintro e w' ⟨rfl, rfl⟩) | (go_at_call 77; (with_reducible refine (l1In_t y _ _ _ YR.out).mono ?_); rintro e w' ⟨rfl, rfl⟩) | (go_at_call 77; (with_reducible refine (l1In_t z _ _ _ ZR.out).mono ?_); rintro e w' ⟨rfl, rfl⟩))
      refine wp_loop_rounds 4 ?_
      repeat (first | (refine one_round ?_; go_wp2_with (first | (go_at_call 77; (with_reducible refine (l1In_t x _ _ _ XR.out).mono ?_); rintro e w' ⟨rfl, rfl⟩) | (go_at_call 77; (with_reducible refine (l1In_t y _ _ _ YR.out).mono ?_); rintro e w' ⟨rfl, rfl⟩) | (go_at_call 77; (with_reducible refine (l1In_t z _ _ _ ZR.out).mono ?_); rintro e w' ⟨rfl, rfl⟩))) | (refine wp_loop_rounds 3 ?_; refine one_round ?_; go_wp2_with (first | (go_at_call 77; (with_reducible refine (l1In_t x _ _ _ XR.out).mono ?_); rintro e w' ⟨rfl, rfl⟩) | (go_at_call 77; (with_reducible refine (l1In_t y _ _ _ YR.out).mono ?_); rintro e w' ⟨rfl, rfl⟩) | (go_at_call 77; (with_reducible refine (l1In_t z _ _ _ ZR.out).mono ?_); rintro e w' ⟨rfl, rfl⟩))) | (go_quiet (fail); go_wp2_with (first | (go_at_call 77; (with_reducible refine (l1In_t x _ _ _ XR.out).mono ?_); rintro e w' ⟨rfl, rfl⟩) | (go_at_call 77; (with_reducible refine (l1In_t y _ _ _ YR.out).mono ?_); rintro e w' ⟨rfl, rfl⟩) | (go_at_call 77; (with_reducible refine (l1In_t z _ _ _ ZR.out).mono ?_); rintro e w' ⟨rfl, rfl⟩))))
      go_ret
      exact ⟨ret_bool (decide_eq_false fun hh => HO.out hh.2).symm, (by repeat (first | exact Chg.refl _ _ | refine Chg.drewN ?_ _ | refine Chg.drew ?_ | refine Chg.alloc ?_ _))⟩
    clear c
    by_cases d : y = z
    case pos =>
      have d' : (y == z) = true := by simpa using d
      by_cases dn : 0 ≤ z
      case pos => exact absurd dn cn
      clear d
      have HO : Hid (HdOk D.length ⟨x, y, z⟩) := Lib.hid ⟨by have := XR.out; simp only; omega, by have := YR.out; simp only; omega, by have := ZR.out; simp only; omega, fun _ h => BH.out h.symm, fun h => absurd h cn, fun h => absurd h dn⟩
      go_enter Try.func75, Try.ntmps75
      go_wp2_with (first | (go_at_call 77; (with_reducible refine (l1In_t x _ _ _ XR.out).mono ?_); rintro e w' ⟨rfl, rfl⟩) | (go_at_call 77; (with_reducible refine (l1In_t y _ _ _ YR.out).mono ?_); rintro e w' ⟨rfl, rfl⟩) | (go_at_call 77; (with_reducible refine (l1In_t z _ _ _ ZR.out).mono ?_); rintro e w' ⟨rfl, rfl⟩))
      refine wp_loop_rounds 4 ?_
      repeat (first | (refine one_round ?_; go_wp2_with (first | (go_at_call 77; (with_reducible refine (l1In_t x _ _ _ XR.out).mono ?_); rintro e w' ⟨rfl, rfl⟩) | (go_at_call 77; (with_reducible refine (l1In_t y _ _ _ YR.out).mono ?_); rintro e w' ⟨rfl, rfl⟩) | (go_at_call 77; (with_reducible refine (l1In_t z _ _ _ ZR.out).mono ?_); rintro e w' ⟨rfl, rfl⟩))) | (refine wp_loop_rounds 3 ?_; refine one_round ?_; go_wp2_with (first | (go_at_call 77; (with_reducible refine (l1In_t x _ _ _ XR.out).mono ?_); rintro e w' ⟨rfl, rfl⟩) | (go_at_call 77; (with_reducible refine (l1In_t y _ _ _ YR.out).mono ?_); rintro e w' ⟨rfl, rfl⟩) | (go_at_call 77; (with_reducible refine (l1In_t z _ _ _ ZR.out).mono ?_); rintro e w' ⟨rfl, rfl⟩))) | (go_quiet (fail); go_wp2_with (first | (go_at_call 77; (with_reducible refine (l1In_t x _ _ _ XR.out).mono ?_); rintro e w' ⟨rfl, rfl⟩) | (go_at_call 77; (with_reducible refine (l1In_t y _ _ _ YR.out).mono ?_); rintro e w' ⟨rfl, rfl⟩) | (go_at_call 77; (with_reducible refine (l1In_t z _ _ _ ZR.out).mono ?_); rintro e w' ⟨rfl, rfl⟩))))
      refine (sDeviceValid_any _ A c D _ (HR.out.new (by repeat (first | exact Chg.refl _ _ | refine Chg.drewN ?_ _ | refine Chg.drew ?_ | refine Chg.alloc ?_ _))) HS.out).mono ?_
      rintro e w2 ⟨rfl, hc2⟩
      have HC2 := Lib.hid (show Chg NoB w w2 from Chg.trans (by repeat (first | exact Chg.refl _ _ | refine Chg.drewN ?_ _ | refine Chg.drew ?_ | refine Chg.alloc ?_ _)) hc2)
      clear hc2
      go_wp2
      go_ret
      exact ⟨ret_bool (bool_dec (by rw [decide_eq_true_iff]; exact ⟨fun hh => ⟨hh, HO.out⟩, fun hh => hh.1⟩)), HC2.out⟩
    have d' : (y == z) = false := by simpa using d
    have DH := Lib.hid d
    clear d
    have HO : Hid (HdOk D.length ⟨x, y, z⟩) := Lib.hid ⟨by have := XR.out; simp only; omega, by have := YR.out; simp only; omega, by have := ZR.out; simp only; omega, fun _ h => BH.out h.symm, fun h => absurd h cn, fun _ h => DH.out h.symm⟩
    go_enter Try.func75, Try.ntmps75
    go_wp2_with (first | (go_at_call 77; (with_reducible refine (l1In_t x _ _ _ XR.out).mono ?_); rintro e w' ⟨rfl, rfl⟩) | (go_at_call 77; (with_reducible refine (l1In_t y _ _ _ YR.out).mono ?_); rintro e w' ⟨rfl, rfl⟩) | (go_at_call 77; (with_reducible refine (l1In_t z _ _ _ ZR.out).mono ?_); rintro e w' ⟨rfl, rfl⟩))
    refine wp_loop_rounds 4 ?_
    repeat (first | (refine one_round ?_; go_wp2_with (first | (go_at_call 77; (with_reducible refine (l1In_t x _ _ _ XR.out).mono ?_); rintro e w' ⟨rfl, rfl⟩) | (go_at_call 77; (with_reducible refine (l1In_t y _ _ _ YR.out).mono ?_); rintro e w' ⟨rfl, rfl⟩) | (go_at_call 77; (with_reducible refine (l1In_t z _ _ _ ZR.out).mono ?_); rintro e w' ⟨rfl, rfl⟩))) | (refine wp_loop_rounds 3 ?_; refine one_round ?_; go_wp2_with (first | (go_at_call 77; (with_reducible refine (l1In_t x _ _ _ XR.out).mono ?_); rintro e w' ⟨rfl, rfl⟩) | (go_at_call 77; (with_reducible refine (l1In_t y _ _ _ YR.out).mono ?_); rintro e w' ⟨rfl, rfl⟩) | (go_at_call 77; (with_reducible refine (l1In_t z _ _ _ ZR.out).mono ?_); rintro e w' ⟨rfl, rfl⟩))) | (go_quiet (fail); go_wp2_with (first | (go_at_call 77; (with_reducible refine (l1In_t x _ _ _ XR.out).mono ?_); rintro e w' ⟨rfl, rfl⟩) | (go_at_call 77; (with_reducible refine (l1In_t y _ _ _ YR.out).mono ?_); rintro e w' ⟨rfl, rfl⟩) | (go_at_call 77; (with_reducible refine (l1In_t z _ _ _ ZR.out).mono ?_); rintro e w' ⟨rfl, rfl⟩))))
    refine (sDeviceValid_any _ A c D _ (HR.out.new (by repeat (first | exact Chg.refl _ _ | refine Chg.drewN ?_ _ | refine Chg.drew ?_ | refine Chg.alloc ?_ _))) HS.out).mono ?_
    rintro e w2 ⟨rfl, hc2⟩
    have HC2 := Lib.hid (show Chg NoB w w2 from Chg.trans (by repeat (first | exact Chg.refl _ _ | refine Chg.drewN ?_ _ | refine Chg.drew ?_ | refine Chg.alloc ?_ _)) hc2)
    clear hc2
    go_wp2
    go_ret
    exact ⟨ret_bool (bool_dec (by rw [decide_eq_true_iff]; exact ⟨fun hh => ⟨hh, HO.out⟩, fun hh => hh.1⟩)), HC2.out⟩
  have c' : (x == z) = false := by simpa using c
  have CH := Lib.hid c
  clear c
  by_cases d : y = z
  case pos =>
    have d' : (y == z) = true := by simpa using d
    by_cases dn : 0 ≤ z
    case pos =>
      have HO : Hid (¬ HdOk D.length ⟨x, y, z⟩) := Lib.hid (fun hh => by obtain ⟨⟨p1, p2⟩, ⟨p3, p4⟩, ⟨p5, p6⟩, p7, p8, p9⟩ := hh; simp only at p1 p2 p3 p4 p5 p6 p7 p8 p9; have := XR.out; have := YR.out; have := ZR.out; omega)
      clear d
      go_enter Try.func75, Try.ntmps75
      go_wp2_with (first | (go_at_call 77; (with_reducible refine (l1In_t x _ _ _ XR.out).mono ?_); rintro e w' ⟨rfl, rfl⟩) | (go_at_call 77; (with_reducible refine (l1In_t y _ _ _ YR.out).mono ?_); rintro e w' ⟨rfl, rfl⟩) | (go_at_call 77; (with_reducible refine (l1In_t z _ _ _ ZR.out).mono ?_); rintro e w' ⟨rfl, rfl⟩))
      refine wp_loop_rounds 4 ?_
      repeat (first | (refine one_round ?_; go_wp2_with (first | (go_at_call 77; (with_reducible refine (l1In_t x _ _ _ XR.out).mono ?_); rintro e w' ⟨rfl, rfl⟩) | (go_at_call 77; (with_reducible refine (l1In_t y _ _ _ YR.out).mono ?_); rintro e w' ⟨rfl, rfl⟩) | (go_at_call 77; (with_reducible refine (l1In_t z _ _ _ ZR.out).mono ?_); rintro e w' ⟨rfl, rfl⟩))) | (refine wp_loop_rounds 3 ?_; refine one_round ?_; go_wp2_with (first | (go_at_call 77; (with_reducible refine (l1In_t x _ _ _ XR.out).mono ?_); rintro e w' ⟨rfl, rfl⟩) | (go_at_call 77; (with_reducible refine (l1In_t y _ _ _ YR.out).mono ?_); rintro e w' ⟨rfl, rfl⟩) | (go_at_call 77; (with_reducible refine (l1In_t z _ _ _ ZR.out).mono ?_); rintro e w' ⟨rfl, rfl⟩))) | (go_quiet (fail); go_wp2_with (first | (go_at_call 77; (with_reducible refine (l1In_t x _ _ _ XR.out).mono ?_); rintro e w' ⟨rfl, rfl⟩) | (go_at_call 77; (with_reducible refine (l1In_t y _ _ _ YR.out).mono ?_); rintro e w' ⟨rfl, rfl⟩) | (go_at_call 77; (with_reducible refine (l1In_t z _ _ _ ZR.out).mono ?_); rintro e w' ⟨rfl, rfl⟩))))
      go_ret
      exact ⟨ret_bool (decide_eq_false fun hh => HO.out hh.2).symm, (by repeat (first | exact Chg.refl _ _ | refine Chg.drewN ?_ _ | refine Chg.drew ?_ | refine Chg.alloc ?_ _))⟩
    clear d
    have HO : Hid (HdOk D.length ⟨x, y, z⟩) := Lib.hid ⟨by have := XR.out; simp only; omega, by have := YR.out; simp only; omega, by have := ZR.out; simp only; omega, fun _ h => BH.out h.symm, fun _ h => CH.out h.symm, fun h => absurd h dn⟩
    go_enter Try.func75, Try.ntmps75
    go_wp2_with (first | (go_at_call 77; (with_reducible refine (l1In_t x _ _ _ XR.out).mono ?_); rintro e w' ⟨rfl, rfl⟩) | (go_at_call 77; (with_reducible refine (l1In_t y _ _ _ YR.out).mono ?_); rintro e w' ⟨rfl, rfl⟩) | (go_at_call 77; (with_reducible refine (l1In_t z _ _ _ ZR.out).mono ?_); rintro e w' ⟨rfl, rfl⟩))
    refine wp_loop_rounds 4 ?_
    repeat (first | (refine one_round ?_; go_wp2_with (first | (go_at_call 77; (with_reducible refine (l1In_t x _ _ _ XR.out).mono ?_); rintro e w' ⟨rfl, rfl⟩) | (go_at_call 77; (with_reducible refine (l1In_t y _ _ _ YR.out).mono ?_); rintro e w' ⟨rfl, rfl⟩) | (go_at_call 77; (with_reducible refine (l1In_t z _ _ _ ZR.out).mono ?_); rintro e w' ⟨rfl, rfl⟩))) | (refine wp_loop_rounds 3 ?_; refine one_round ?_; go_wp2_with (first | (go_at_call 77; (with_reducible refine (l1In_t x _ _ _ XR.out).mono ?_); rintro e w' ⟨rfl, rfl⟩) | (go_at_call 77; (with_reducible refine (l1In_t y _ _ _ YR.out).mono ?_); rintro e w' ⟨rfl, rfl⟩) | (go_at_call 77; (with_reducible refine (l1In_t z _ _ _ ZR.out).mono ?_); rintro e w' ⟨rfl, rfl⟩))) | (go_quiet (fail); go_wp2_with (first | (go_at_call 77; (with_reducible refine (l1In_t x _ _ _ XR.out).mono ?_); rintro e w' ⟨rfl, rfl⟩) | (go_at_call 77; (with_reducible refine (l1In_t y _ _ _ YR.out).mono ?_); rintro e w' ⟨rfl, rfl⟩) | (go_at_call 77; (with_reducible refine (l1In_t z _ _ _ ZR.out).mono ?_); rintro e w' ⟨rfl, rfl⟩))))
    refine (sDeviceValid_any _ A c D _ (HR.out.new (by repeat (first | exact Chg.refl _ _ | refine Chg.drewN ?_ _ | refine Chg.drew ?_ | refine Chg.alloc ?_ _))) HS.out).mono ?_
    rintro e w2 ⟨rfl, hc2⟩
    have HC2 := Lib.hid (show Chg NoB w w2 from Chg.trans (by repeat (first | exact Chg.refl _ _ | refine Chg.drewN ?_ _ | refine Chg.drew ?_ | refine Chg.alloc ?_ _)) hc2)
    clear hc2
    go_wp2
    go_ret
    exact ⟨ret_bool (bool_dec (by rw [decide_eq_true_iff]; exact ⟨fun hh => ⟨hh, HO.out⟩, fun hh => hh.1⟩)), HC2.out⟩
  have d' : (y == z) = false := by simpa using d
  have DH := Lib.hid d
  clear d
  have HO : Hid (HdOk D.length ⟨x, y, z⟩) := Lib.hid ⟨by have := XR.out; simp only; omega, by have := YR.out; simp only; omega, by have := ZR.out; simp only; omega, fun _ h => BH.out h.symm, fun _ h => CH.out h.symm, fun _ h => DH.out h.symm⟩
  go_enter Try.func75, Try.ntmps75
  go_wp2_with (first | (go_at_call 77; (with_reducible refine (l1In_t x _ _ _ XR.out).mono ?_); rintro e w' ⟨rfl, rfl⟩) | (go_at_call 77; (with_reducible refine (l1In_t y _ _ _ YR.out).mono ?_); rintro e w' ⟨rfl, rfl⟩) | (go_at_call 77; (with_reducible refine (l1In_t z _ _ _ ZR.out).mono ?_); rintro e w' ⟨rfl, rfl⟩))
  refine wp_loop_rounds 4 ?_
  repeat (first | (refine one_round ?_; go_wp2_with (first | (go_at_call 77; (with_reducible refine (l1In_t x _ _ _ XR.out).mono ?_); rintro e w' ⟨rfl, rfl⟩) | (go_at_call 77; (with_reducible refine (l1In_t y _ _ _ YR.out).mono ?_); rintro e w' ⟨rfl, rfl⟩) | (go_at_call 77; (with_reducible refine (l1In_t z _ _ _ ZR.out).mono ?_); rintro e w' ⟨rfl, rfl⟩))) | (refine wp_loop_rounds 3 ?_; refine one_round ?_; go_wp2_with (first | (go_at_call 77; (with_reducible refine (l1In_t x _ _ _ XR.out).mono ?_); rintro e w' ⟨rfl, rfl⟩) | (go_at_call 77; (with_reducible refine (l1In_t y _ _ _ YR.out).mono ?_); rintro e w' ⟨rfl, rfl⟩) | (go_at_call 77; (with_reducible refine (l1In_t z _ _ _ ZR.out).mono ?_); rintro e w' ⟨rfl, rfl⟩))) | (go_quiet (fail); go_wp2_with (first | (go_at_call 77; (with_reducible refine (l1In_t x _ _ _ XR.out).mono ?_); rintro e w' ⟨rfl, rfl⟩) | (go_at_call 77; (with_reducible refine (l1In_t y _ _ _ YR.out).mono ?_); rintro e w' ⟨rfl, rfl⟩) | (go_at_call 77; (with_reducible refine (l1In_t z _ _ _ ZR.out).mono ?_); rintro e w' ⟨rfl, rfl⟩))))
  refine (sDeviceValid_any _ A c D _ (HR.out.new (by repeat (first | exact Chg.refl _ _ | refine Chg.drewN ?_ _ | refine Chg.drew ?_ | refine Chg.alloc ?_ _))) HS.out).mono ?_
  rintro e w2 ⟨rfl, hc2⟩
  have HC2 := Lib.hid (show Chg NoB w w2 from Chg.trans (by repeat (first | exact Chg.refl _ _ | refine Chg.drewN ?_ _ | refine Chg.drew ?_ | refine Chg.alloc ?_ _)) hc2)
  clear hc2
  go_wp2
  go_ret
  exact ⟨ret_bool (bool_dec (by rw [decide_eq_true_iff]; exact ⟨fun hh => ⟨hh, HO.out⟩, fun hh => hh.1⟩)), HC2.out⟩
end Go.Proofs.Ytpiojofmflfkkaa
/- The laws' comparisons of devices. -/
namespace Go.Proofs.Ytpiojofmflfkkaa
open Go.RowKit
set_option maxRecDepth 100000 in
set_option maxHeartbeats 1000000 in
theorem eqPage_t (p : Pg) (w : World) : Calls Try.prog 163 #[pval p, pval p] w fun e w' => e = .returned (.bool true) ∧ Chg NoB w w' := by
  obtain ⟨f, fi, pl, va, st⟩ := p
  have h1 : (fi != fi) = false := by simp
  have h2 : (pl != pl) = false := by simp
  have h3 : (va != va) = false := by simp
  have h4 : (st != st) = false := by simp
  cases f
  all_goals go_enter Try.func163, Try.ntmps163
  all_goals go_wp2
  all_goals go_ret
  all_goals exact ⟨rfl, ((Chg.refl _ _).alloc _).alloc _⟩
set_option maxRecDepth 100000 in
set_option maxHeartbeats 2000000 in
theorem eqPageS_t (F G : Nat → Prop) (A B : Option Addr) (c d : Nat) (ps : List Pg) (w : World) (h : Rd F w A (pgs ps)) (h' : Rd G w B (pgs ps)) (hl : ps.length ≤ 9223372036854775807) :
    Calls Try.prog 146 #[.slice A ps.length c, .slice B ps.length d] w fun e w' => e = .returned (.bool true) ∧ Chg NoB w w' := by
  have hne : ((ps.length : Int) != (ps.length : Int)) = false := by simp
  have HR := Lib.hid h
  have HR' := Lib.hid h'
  clear h h'
  go_enter Try.func146, Try.ntmps146
  go_wp2
  go_loopw [5] (fun i wr => ∃ k : Nat, k ≤ ps.length ∧ i = .int .i64 k ∧ Chg NoB w wr) (fun i _ => ps.length - (intOf i).toNat)
  case atStart => exact ⟨0, Nat.zero_le _, rfl, Chg.refl _ _⟩
  case round =>
    obtain ⟨k, hkl, rfl, hch⟩ := hrel
    by_cases hk : k < ps.length
    · obtain ⟨b1, o1, rfl, -, -, c0, c1, c2, c3, c4⟩ := pgs_at (HR.out.new hch) hk
      obtain ⟨b2, o2, rfl, -, -, d0, d1, d2, d3, d4⟩ := pgs_at (HR'.out.new hch) hk
      have hi0 : (0 : Int) ≤ (k : Int) := Int.natCast_nonneg _
      have hi1 : (k : Int) < (ps.length : Int) := by omega
      have HCH := Lib.hid hch
      clear hch
      go_wp2
      refine wp_region_ro (gl := []) (WInv := fun _ _ w5 => Chg NoB wr w5) (R := Chg NoB) (Post := PV [some (.slice (some ⟨b1, o1, none⟩) ps.length c), some (.int .i64 (k : Int)), some (.pointer (some ⟨b1, o1 + k * 5, none⟩)), some (.agg #[.bool ps[k].full, .int .i64 ps[k].file, .int .i64 ps[k].place, .int .i64 ps[k].value, .int .i64 ps[k].stamp]), some (.slice (some ⟨b2, o2, none⟩) ps.length d), some (.int .i64 (k : Int)), some (.pointer (some ⟨b2, o2 + k * 5, none⟩)), some (.agg #[.bool ps[k].full, .int .i64 ps[k].file, .int .i64 ps[k].place, .int .i64 ps[k].value, .int .i64 ps[k].stamp]), some (.bool true), some (.bool false)]) (by kernel_rfl) (by kernel_rfl) (pv_guard (by intro p hp; cases hp)) (fun _ _ _ _ h _ _ => h) (fun _ _ _ _ h _ => h) (Chg.refl _ _).drew ⟨?_, ?_, ?_, ?_, ?_, ?_, ?_, ?_, ?_, ?_, trivial⟩ ?_
      · rintro kc m a w5 hkc hch hm hn
        obtain ⟨e1, -⟩ := hn
        replace e1 : a.tmps[0]?.getD undef = .slice (some ⟨b1, o1, none⟩) ps.length c := e1
        exact rg_val (v := .slice (some ⟨b1, o1, none⟩) ps.length c) (by simp [execOp, go_sem, e1]) rfl hch (Chg.refl _ _) rfl
      · rintro kc m a w5 hkc hch hm hn
        obtain ⟨e1, -⟩ := hn
        replace e1 : a.tmps[5]?.getD undef = .int .i64 (k : Int) := e1
        exact rg_val (v := .int .i64 (k : Int)) (by simp [execOp, go_sem, e1]) rfl hch (Chg.refl _ _) rfl
      · rintro kc m a w5 hkc hch hm hn
        obtain ⟨⟨_, e1, _, rfl⟩, ⟨_, e2, _, rfl⟩, -⟩ := hn
        exact rg_val (v := .pointer (some ⟨b1, o1 + k * 5, none⟩)) (by simp [execOp, go_sem, e1, e2]; exact fun hh => absurd hh (by omega)) rfl hch (Chg.refl _ _) rfl
      · rintro kc m a w5 hkc hch hm hn
        obtain ⟨⟨_, e1, _, rfl⟩, -⟩ := hn
        have c0 := Chg.cell hch c0 (fun x => x)
        have c1 := Chg.cell hch c1 (fun x => x)
        have c2 := Chg.cell hch c2 (fun x => x)
        have c3 := Chg.cell hch c3 (fun x => x)
        have c4 := Chg.cell hch c4 (fun x => x)
        exact rg_val (v := .agg #[.bool ps[k].full, .int .i64 ps[k].file, .int .i64 ps[k].place, .int .i64 ps[k].value, .int .i64 ps[k].stamp]) (by simp [execOp, go_sem, e1, c0, c1, c2, c3, c4]) rfl hch (Chg.refl _ _) rfl
      · rintro kc m a w5 hkc hch hm hn
        obtain ⟨e1, -⟩ := hn
        replace e1 : a.tmps[1]?.getD undef = .slice (some ⟨b2, o2, none⟩) ps.length d := e1
        exact rg_val (v := .slice (some ⟨b2, o2, none⟩) ps.length d) (by simp [execOp, go_sem, e1]) rfl hch (Chg.refl _ _) rfl
      · rintro kc m a w5 hkc hch hm hn
        obtain ⟨e1, -⟩ := hn
        replace e1 : a.tmps[5]?.getD undef = .int .i64 (k : Int) := e1
        exact rg_val (v := .int .i64 (k : Int)) (by simp [execOp, go_sem, e1]) rfl hch (Chg.refl _ _) rfl
      · rintro kc m a w5 hkc hch hm hn
        obtain ⟨⟨_, e1, _, rfl⟩, ⟨_, e2, _, rfl⟩, -⟩ := hn
        exact rg_val (v := .pointer (some ⟨b2, o2 + k * 5, none⟩)) (by simp [execOp, go_sem, e1, e2]; exact fun hh => absurd hh (by omega)) rfl hch (Chg.refl _ _) rfl
      · rintro kc m a w5 hkc hch hm hn
        obtain ⟨⟨_, e1, _, rfl⟩, -⟩ := hn
        have c0 := Chg.cell hch d0 (fun x => x)
        have c1 := Chg.cell hch d1 (fun x => x)
        have c2 := Chg.cell hch d2 (fun x => x)
        have c3 := Chg.cell hch d3 (fun x => x)
        have c4 := Chg.cell hch d4 (fun x => x)
        exact rg_val (v := .agg #[.bool ps[k].full, .int .i64 ps[k].file, .int .i64 ps[k].place, .int .i64 ps[k].value, .int .i64 ps[k].stamp]) (by simp [execOp, go_sem, e1, c0, c1, c2, c3, c4]) rfl hch (Chg.refl _ _) rfl
      · rintro kc m a w5 hkc hch hm hn
        obtain ⟨⟨_, e1, _, rfl⟩, ⟨_, e2, _, rfl⟩, -⟩ := hn
        refine rg_call (f := 163) (args := #[.agg #[.bool ps[k].full, .int .i64 ps[k].file, .int .i64 ps[k].place, .int .i64 ps[k].value, .int .i64 ps[k].stamp], .agg #[.bool ps[k].full, .int .i64 ps[k].file, .int .i64 ps[k].place, .int .i64 ps[k].value, .int .i64 ps[k].stamp]]) (by simp [go_sem, e1, e2]) rfl ?_
        refine (eqPage_t ps[k] _).mono ?_
        rintro e w6 ⟨rfl, hc6⟩
        exact ⟨_, rfl, hch.trans hc6, hc6, rfl⟩
      · rintro kc m a w5 hkc hch hm hn
        obtain ⟨⟨_, e1, _, rfl⟩, -⟩ := hn
        exact rg_val (v := .bool false) (by simp [execOp, go_sem, e1]) rfl hch (Chg.refl _ _) rfl
      rintro m w2 hc2
      simp only [AllVals]
      rintro v0 _ p0 v1 _ p1 v2 _ p2 v3 _ p3 v4 _ p4 v5 _ p5 v6 _ p6 v7 _ p7 v8 _ p8 v9 _ p9
      obtain rfl := p9
      clear p0 p1 p2 p3 p4 p5 p6 p7 p8
      simp only [Act.put, List.setIfInBounds_toArray, List.set_cons_succ, List.set_cons_zero]
      have HC2 := Lib.hid hc2
      clear hc2
      go_wp2
      go_roundw
      case rel => exact ⟨k + 1, by omega, by go_num, HCH.out.trans HC2.out⟩
      case measure => simp [intOf]; omega
    · have HCH := Lib.hid hch
      clear hch
      go_wp2
      go_ret
      exact ⟨rfl, HCH.out⟩
theorem eqBlock_t (F G : Nat → Prop) (A B : Option Addr) (c d : Nat) (b : Bk) (w : World) (h : Rd F w A (pgs b.pages)) (h' : Rd G w B (pgs b.pages)) (hl : b.pages.length ≤ 9223372036854775807) :
    Calls Try.prog 92 #[.agg #[.int .i64 b.wear, .slice A b.pages.length c], .agg #[.int .i64 b.wear, .slice B b.pages.length d]] w fun e w' => e = .returned (.bool true) ∧ Chg NoB w w' := by
  have hne : (b.wear != b.wear) = false := by simp
  have HC := Lib.hid (((Chg.refl NoB w).alloc (.cells #[.int .i64 b.wear, .slice A b.pages.length c] 67)).alloc (.cells #[.int .i64 b.wear, .slice B b.pages.length d] 67))
  have HR := Lib.hid (h.new HC.out)
  have HR' := Lib.hid (h'.new HC.out)
  clear h h'
  go_enter Try.func92, Try.ntmps92
  go_wp2_with fail
  refine (eqPageS_t _ _ A B c d b.pages _ HR.out HR'.out hl).mono ?_
  rintro e w1 ⟨rfl, hc1⟩
  have HCC := Lib.hid (HC.out.trans hc1)
  clear hc1
  go_wp2
  go_ret
  exact ⟨rfl, HCC.out⟩
set_option maxRecDepth 100000 in
set_option maxHeartbeats 2000000 in
theorem eqBlockS_t (F G : Nat → Prop) (A B : Option Addr) (c d : Nat) (D : List Bk) (w : World) (h : DevR F w A D) (h' : DevR G w B D) (hs : Small D) :
    Calls Try.prog 26 #[.slice A D.length c, .slice B D.length d] w fun e w' => e = .returned (.bool true) ∧ Chg NoB w w' := by
  have hne : ((D.length : Int) != (D.length : Int)) = false := by simp
  have HR := Lib.hid h
  have HR' := Lib.hid h'
  have HS := Lib.hid hs
  have hlen := hs.1
  clear h h' hs
  go_enter Try.func26, Try.ntmps26
  go_wp2
  go_loopw [5] (fun i wr => ∃ k : Nat, k ≤ D.length ∧ i = .int .i64 k ∧ Chg NoB w wr) (fun i _ => D.length - (intOf i).toNat)
  case atStart => exact ⟨0, Nat.zero_le _, rfl, Chg.refl _ _⟩
  case round =>
    obtain ⟨k, hkl, rfl, hch⟩ := hrel
    by_cases hk : k < D.length
    · obtain ⟨b1, o1, A1, c1', rfl, -, c0, c1, hr1, -⟩ := (HR.out.new hch) k hk
      obtain ⟨b2, o2, A2, c2', rfl, -, d0, d1, hr2, -⟩ := (HR'.out.new hch) k hk
      have hi0 : (0 : Int) ≤ (k : Int) := Int.natCast_nonneg _
      have hi1 : (k : Int) < (D.length : Int) := by omega
      have HCH := Lib.hid hch
      have HR1 := Lib.hid hr1
      have HR2 := Lib.hid hr2
      have HPL := Lib.hid (HS.out.2 k hk)
      clear hch hr1 hr2
      go_wp2
      refine wp_region_ro (gl := []) (WInv := fun _ _ w5 => Chg NoB wr w5) (R := Chg NoB) (Post := PV [some (.slice (some ⟨b1, o1, none⟩) D.length c), some (.int .i64 (k : Int)), some (.pointer (some ⟨b1, o1 + k * 2, none⟩)), some (.agg #[.int .i64 D[k].wear, .slice A1 D[k].pages.length c1']), some (.slice (some ⟨b2, o2, none⟩) D.length d), some (.int .i64 (k : Int)), some (.pointer (some ⟨b2, o2 + k * 2, none⟩)), some (.agg #[.int .i64 D[k].wear, .slice A2 D[k].pages.length c2']), some (.bool true), some (.bool false)]) (by kernel_rfl) (by kernel_rfl) (pv_guard (by intro p hp; cases hp)) (fun _ _ _ _ h _ _ => h) (fun _ _ _ _ h _ => h) (Chg.refl _ _).drew ⟨?_, ?_, ?_, ?_, ?_, ?_, ?_, ?_, ?_, ?_, trivial⟩ ?_
      · rintro kc m a w5 hkc hch hm hn
        obtain ⟨e1, -⟩ := hn
        replace e1 : a.tmps[0]?.getD undef = .slice (some ⟨b1, o1, none⟩) D.length c := e1
        exact rg_val (v := .slice (some ⟨b1, o1, none⟩) D.length c) (by simp [execOp, go_sem, e1]) rfl hch (Chg.refl _ _) rfl
      · rintro kc m a w5 hkc hch hm hn
        obtain ⟨e1, -⟩ := hn
        replace e1 : a.tmps[5]?.getD undef = .int .i64 (k : Int) := e1
        exact rg_val (v := .int .i64 (k : Int)) (by simp [execOp, go_sem, e1]) rfl hch (Chg.refl _ _) rfl
      · rintro kc m a w5 hkc hch hm hn
        obtain ⟨⟨_, e1, _, rfl⟩, ⟨_, e2, _, rfl⟩, -⟩ := hn
        exact rg_val (v := .pointer (some ⟨b1, o1 + k * 2, none⟩)) (by simp [execOp, go_sem, e1, e2]; exact fun hh => absurd hh (by omega)) rfl hch (Chg.refl _ _) rfl
      · rintro kc m a w5 hkc hch hm hn
        obtain ⟨⟨_, e1, _, rfl⟩, -⟩ := hn
        have c0 := Chg.cell hch c0 (fun x => x)
        have c1 := Chg.cell hch c1 (fun x => x)
        exact rg_val (v := .agg #[.int .i64 D[k].wear, .slice A1 D[k].pages.length c1']) (by simp [execOp, go_sem, e1, c0, c1]) rfl hch (Chg.refl _ _) rfl
      · rintro kc m a w5 hkc hch hm hn
        obtain ⟨e1, -⟩ := hn
        replace e1 : a.tmps[1]?.getD undef = .slice (some ⟨b2, o2, none⟩) D.length d := e1
        exact rg_val (v := .slice (some ⟨b2, o2, none⟩) D.length d) (by simp [execOp, go_sem, e1]) rfl hch (Chg.refl _ _) rfl
      · rintro kc m a w5 hkc hch hm hn
        obtain ⟨e1, -⟩ := hn
        replace e1 : a.tmps[5]?.getD undef = .int .i64 (k : Int) := e1
        exact rg_val (v := .int .i64 (k : Int)) (by simp [execOp, go_sem, e1]) rfl hch (Chg.refl _ _) rfl
      · rintro kc m a w5 hkc hch hm hn
        obtain ⟨⟨_, e1, _, rfl⟩, ⟨_, e2, _, rfl⟩, -⟩ := hn
        exact rg_val (v := .pointer (some ⟨b2, o2 + k * 2, none⟩)) (by simp [execOp, go_sem, e1, e2]; exact fun hh => absurd hh (by omega)) rfl hch (Chg.refl _ _) rfl
      · rintro kc m a w5 hkc hch hm hn
        obtain ⟨⟨_, e1, _, rfl⟩, -⟩ := hn
        have c0 := Chg.cell hch d0 (fun x => x)
        have c1 := Chg.cell hch d1 (fun x => x)
        exact rg_val (v := .agg #[.int .i64 D[k].wear, .slice A2 D[k].pages.length c2']) (by simp [execOp, go_sem, e1, c0, c1]) rfl hch (Chg.refl _ _) rfl
      · rintro kc m a w5 hkc hch hm hn
        obtain ⟨⟨_, e1, _, rfl⟩, ⟨_, e2, _, rfl⟩, -⟩ := hn
        refine rg_call (f := 92) (args := #[.agg #[.int .i64 D[k].wear, .slice A1 D[k].pages.length c1'], .agg #[.int .i64 D[k].wear, .slice A2 D[k].pages.length c2']]) (by simp [go_sem, e1, e2]) rfl ?_
        refine (eqBlock_t _ _ A1 A2 c1' c2' D[k] _ (HR1.out.new hch) (HR2.out.new hch) HPL.out).mono ?_
        rintro e w6 ⟨rfl, hc6⟩
        exact ⟨_, rfl, hch.trans hc6, hc6, rfl⟩
      · rintro kc m a w5 hkc hch hm hn
        obtain ⟨⟨_, e1, _, rfl⟩, -⟩ := hn
        exact rg_val (v := .bool false) (by simp [execOp, go_sem, e1]) rfl hch (Chg.refl _ _) rfl
      rintro m w2 hc2
      simp only [AllVals]
      rintro v0 _ p0 v1 _ p1 v2 _ p2 v3 _ p3 v4 _ p4 v5 _ p5 v6 _ p6 v7 _ p7 v8 _ p8 v9 _ p9
      obtain rfl := p9
      clear p0 p1 p2 p3 p4 p5 p6 p7 p8
      simp only [Act.put, List.setIfInBounds_toArray, List.set_cons_succ, List.set_cons_zero]
      have HC2 := Lib.hid hc2
      clear hc2
      go_wp2
      go_roundw
      case rel => exact ⟨k + 1, by omega, by go_num, HCH.out.trans HC2.out⟩
      case measure => simp [intOf]; omega
    · have HCH := Lib.hid hch
      clear hch
      go_wp2
      go_ret
      exact ⟨rfl, HCH.out⟩
end Go.Proofs.Ytpiojofmflfkkaa
/- The laws' comparisons of devices that are the same. -/
namespace Go.Proofs.Ytpiojofmflfkkaa
open Go.RowKit
set_option maxRecDepth 100000 in
set_option maxHeartbeats 2000000 in
theorem samePages_t (F G : Nat → Prop) (A B : Option Addr) (c d : Nat) (ps : List Pg) (w : World) (h : Rd F w A (pgs ps)) (h' : Rd G w B (pgs ps)) (hl : ps.length ≤ 9223372036854775807) :
    Calls Try.prog 150 #[.slice A ps.length c, .slice B ps.length d] w fun e w' => e = .returned (.bool true) ∧ Chg NoB w w' := by
  have hne : ((ps.length : Int) != (ps.length : Int)) = false := by simp
  have HR := Lib.hid h
  have HR' := Lib.hid h'
  clear h h'
  go_enter Try.func150, Try.ntmps150
  go_wp2
  go_loopw [5] (fun i wr => ∃ k : Nat, k ≤ ps.length ∧ i = .int .i64 k ∧ Chg NoB w wr) (fun i _ => ps.length - (intOf i).toNat)
  case atStart => exact ⟨0, Nat.zero_le _, rfl, Chg.refl _ _⟩
  case round =>
    obtain ⟨k, hkl, rfl, hch⟩ := hrel
    by_cases hk : k < ps.length
    · obtain ⟨b1, o1, rfl, -, -, c0, c1, c2, c3, c4⟩ := pgs_at (HR.out.new hch) hk
      obtain ⟨b2, o2, rfl, -, -, d0, d1, d2, d3, d4⟩ := pgs_at (HR'.out.new hch) hk
      have hi0 : (0 : Int) ≤ (k : Int) := Int.natCast_nonneg _
      have hi1 : (k : Int) < (ps.length : Int) := by omega
      have HCH := Lib.hid hch
      clear hch
      go_wp2
      go_quiet (fail)
      go_wp2
      go_roundw
      case rel => exact ⟨k + 1, by omega, by go_num, HCH.out.drewN _⟩
      case measure => simp [intOf]; omega
    · have HCH := Lib.hid hch
      clear hch
      go_wp2
      go_ret
      exact ⟨rfl, HCH.out⟩
theorem sameBlock_t (F G : Nat → Prop) (A B : Option Addr) (c d : Nat) (b : Bk) (w : World) (h : Rd F w A (pgs b.pages)) (h' : Rd G w B (pgs b.pages)) (hl : b.pages.length ≤ 9223372036854775807) :
    Calls Try.prog 99 #[.agg #[.int .i64 b.wear, .slice A b.pages.length c], .agg #[.int .i64 b.wear, .slice B b.pages.length d]] w fun e w' => e = .returned (.bool true) ∧ Chg NoB w w' := by
  have hne : (b.wear == b.wear) = true := by simp
  have HC := Lib.hid (((Chg.refl NoB w).alloc (.cells #[.int .i64 b.wear, .slice A b.pages.length c] 67)).alloc (.cells #[.int .i64 b.wear, .slice B b.pages.length d] 67))
  have HR := Lib.hid (h.new HC.out)
  have HR' := Lib.hid (h'.new HC.out)
  clear h h'
  go_enter Try.func99, Try.ntmps99
  go_wp2_with fail
  refine (samePages_t _ _ A B c d b.pages _ HR.out HR'.out hl).mono ?_
  rintro e w1 ⟨rfl, hc1⟩
  have HCC := Lib.hid (HC.out.trans hc1)
  clear hc1
  go_wp2
  go_ret
  exact ⟨rfl, HCC.out⟩
set_option maxRecDepth 100000 in
set_option maxHeartbeats 2000000 in
theorem sameDevice_t (F G : Nat → Prop) (A B : Option Addr) (c d : Nat) (D : List Bk) (w : World) (h : DevR F w A D) (h' : DevR G w B D) (hs : Small D) :
    Calls Try.prog 34 #[.slice A D.length c, .slice B D.length d] w fun e w' => e = .returned (.bool true) ∧ Chg NoB w w' := by
  have hne : ((D.length : Int) != (D.length : Int)) = false := by simp
  have HR := Lib.hid h
  have HR' := Lib.hid h'
  have HS := Lib.hid hs
  have hlen := hs.1
  clear h h' hs
  go_enter Try.func34, Try.ntmps34
  go_wp2
  go_loopw [5] (fun i wr => ∃ k : Nat, k ≤ D.length ∧ i = .int .i64 k ∧ Chg NoB w wr) (fun i _ => D.length - (intOf i).toNat)
  case atStart => exact ⟨0, Nat.zero_le _, rfl, Chg.refl _ _⟩
  case round =>
    obtain ⟨k, hkl, rfl, hch⟩ := hrel
    by_cases hk : k < D.length
    · obtain ⟨b1, o1, A1, c1', rfl, -, c0, c1, hr1, -⟩ := (HR.out.new hch) k hk
      obtain ⟨b2, o2, A2, c2', rfl, -, d0, d1, hr2, -⟩ := (HR'.out.new hch) k hk
      have hi0 : (0 : Int) ≤ (k : Int) := Int.natCast_nonneg _
      have hi1 : (k : Int) < (D.length : Int) := by omega
      have HCH := Lib.hid hch
      have HR1 := Lib.hid hr1
      have HR2 := Lib.hid hr2
      have HPL := Lib.hid (HS.out.2 k hk)
      clear hch hr1 hr2
      go_wp2
      refine wp_region_ro (gl := []) (WInv := fun _ _ w5 => Chg NoB wr w5) (R := Chg NoB) (Post := PV [some (.slice (some ⟨b1, o1, none⟩) D.length c), some (.int .i64 (k : Int)), some (.pointer (some ⟨b1, o1 + k * 2, none⟩)), some (.agg #[.int .i64 D[k].wear, .slice A1 D[k].pages.length c1']), some (.slice (some ⟨b2, o2, none⟩) D.length d), some (.int .i64 (k : Int)), some (.pointer (some ⟨b2, o2 + k * 2, none⟩)), some (.agg #[.int .i64 D[k].wear, .slice A2 D[k].pages.length c2']), some (.bool true), some (.bool false)]) (by kernel_rfl) (by kernel_rfl) (pv_guard (by intro p hp; cases hp)) (fun _ _ _ _ h _ _ => h) (fun _ _ _ _ h _ => h) (Chg.refl _ _).drew ⟨?_, ?_, ?_, ?_, ?_, ?_, ?_, ?_, ?_, ?_, trivial⟩ ?_
      · rintro kc m a w5 hkc hch hm hn
        obtain ⟨e1, -⟩ := hn
        replace e1 : a.tmps[0]?.getD undef = .slice (some ⟨b1, o1, none⟩) D.length c := e1
        exact rg_val (v := .slice (some ⟨b1, o1, none⟩) D.length c) (by simp [execOp, go_sem, e1]) rfl hch (Chg.refl _ _) rfl
      · rintro kc m a w5 hkc hch hm hn
        obtain ⟨e1, -⟩ := hn
        replace e1 : a.tmps[5]?.getD undef = .int .i64 (k : Int) := e1
        exact rg_val (v := .int .i64 (k : Int)) (by simp [execOp, go_sem, e1]) rfl hch (Chg.refl _ _) rfl
      · rintro kc m a w5 hkc hch hm hn
        obtain ⟨⟨_, e1, _, rfl⟩, ⟨_, e2, _, rfl⟩, -⟩ := hn
        exact rg_val (v := .pointer (some ⟨b1, o1 + k * 2, none⟩)) (by simp [execOp, go_sem, e1, e2]; exact fun hh => absurd hh (by omega)) rfl hch (Chg.refl _ _) rfl
      · rintro kc m a w5 hkc hch hm hn
        obtain ⟨⟨_, e1, _, rfl⟩, -⟩ := hn
        have c0 := Chg.cell hch c0 (fun x => x)
        have c1 := Chg.cell hch c1 (fun x => x)
        exact rg_val (v := .agg #[.int .i64 D[k].wear, .slice A1 D[k].pages.length c1']) (by simp [execOp, go_sem, e1, c0, c1]) rfl hch (Chg.refl _ _) rfl
      · rintro kc m a w5 hkc hch hm hn
        obtain ⟨e1, -⟩ := hn
        replace e1 : a.tmps[1]?.getD undef = .slice (some ⟨b2, o2, none⟩) D.length d := e1
        exact rg_val (v := .slice (some ⟨b2, o2, none⟩) D.length d) (by simp [execOp, go_sem, e1]) rfl hch (Chg.refl _ _) rfl
      · rintro kc m a w5 hkc hch hm hn
        obtain ⟨e1, -⟩ := hn
        replace e1 : a.tmps[5]?.getD undef = .int .i64 (k : Int) := e1
        exact rg_val (v := .int .i64 (k : Int)) (by simp [execOp, go_sem, e1]) rfl hch (Chg.refl _ _) rfl
      · rintro kc m a w5 hkc hch hm hn
        obtain ⟨⟨_, e1, _, rfl⟩, ⟨_, e2, _, rfl⟩, -⟩ := hn
        exact rg_val (v := .pointer (some ⟨b2, o2 + k * 2, none⟩)) (by simp [execOp, go_sem, e1, e2]; exact fun hh => absurd hh (by omega)) rfl hch (Chg.refl _ _) rfl
      · rintro kc m a w5 hkc hch hm hn
        obtain ⟨⟨_, e1, _, rfl⟩, -⟩ := hn
        have c0 := Chg.cell hch d0 (fun x => x)
        have c1 := Chg.cell hch d1 (fun x => x)
        exact rg_val (v := .agg #[.int .i64 D[k].wear, .slice A2 D[k].pages.length c2']) (by simp [execOp, go_sem, e1, c0, c1]) rfl hch (Chg.refl _ _) rfl
      · rintro kc m a w5 hkc hch hm hn
        obtain ⟨⟨_, e1, _, rfl⟩, ⟨_, e2, _, rfl⟩, -⟩ := hn
        refine rg_call (f := 99) (args := #[.agg #[.int .i64 D[k].wear, .slice A1 D[k].pages.length c1'], .agg #[.int .i64 D[k].wear, .slice A2 D[k].pages.length c2']]) (by simp [go_sem, e1, e2]) rfl ?_
        refine (sameBlock_t _ _ A1 A2 c1' c2' D[k] _ (HR1.out.new hch) (HR2.out.new hch) HPL.out).mono ?_
        rintro e w6 ⟨rfl, hc6⟩
        exact ⟨_, rfl, hch.trans hc6, hc6, rfl⟩
      · rintro kc m a w5 hkc hch hm hn
        obtain ⟨⟨_, e1, _, rfl⟩, -⟩ := hn
        exact rg_val (v := .bool false) (by simp [execOp, go_sem, e1]) rfl hch (Chg.refl _ _) rfl
      rintro m w2 hc2
      simp only [AllVals]
      rintro v0 _ p0 v1 _ p1 v2 _ p2 v3 _ p3 v4 _ p4 v5 _ p5 v6 _ p6 v7 _ p7 v8 _ p8 v9 _ p9
      obtain rfl := p9
      clear p0 p1 p2 p3 p4 p5 p6 p7 p8
      simp only [Act.put, List.setIfInBounds_toArray, List.set_cons_succ, List.set_cons_zero]
      have HC2 := Lib.hid hc2
      clear hc2
      go_wp2
      go_roundw
      case rel => exact ⟨k + 1, by omega, by go_num, HCH.out.trans HC2.out⟩
      case measure => simp [intOf]; omega
    · have HCH := Lib.hid hch
      clear hch
      go_wp2
      go_ret
      exact ⟨rfl, HCH.out⟩
end Go.Proofs.Ytpiojofmflfkkaa
