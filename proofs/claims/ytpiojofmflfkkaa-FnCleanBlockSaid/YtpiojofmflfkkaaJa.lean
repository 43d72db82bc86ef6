/- Parts of the proof, merged: B, O, D, Da, N, I, R, Rg, Rh, Ap, Rb, Rp, Ro, Im, Cp, Ra, Rn, Pr. -/
import Derived.Test.YtpiojofmflfkkaaRows
import Derived.WalkKit
import Derived.Deep.Draws
import Derived.Lib.Hide
import Derived.Laws.MakeOwn
import Derived.ProofKit
import Derived.WalkLawsBesides
import Derived.WalkSpells
import Derived.Deep.QuietTactic
import Derived.BigQuiet
import Derived.LoopN
import Derived.Orders
import Derived.Laws.World
import Derived.Maps.AppendAt
import Derived.Deep.AppendLies
import Derived.Laws.CopyRow
/- Plain words for memory: which blocks a step may turn ('Chg'), and what a slice of cells reads as ('Rd'). No program is named here. -/
namespace Go.Proofs.Ytpiojofmflfkkaa
open Go.RowKit
theorem ret_int {k : IntKind} {a b : Int} (h : a = b) : Ending.returned (.int k a) = .returned (.int k b) := by rw [h]
theorem ret_bool {a b : Bool} (h : a = b) : Ending.returned (.bool a) = .returned (.bool b) := by rw [h]
theorem block_add (a : Addr) (n : Nat) : (a.add n).block = a.block := by unfold Addr.add; split <;> rfl
theorem add_add' (a : Addr) (i j : Nat) : (a.add i).add j = a.add (i + j) := by
  unfold Addr.add
  by_cases hi : i = 0 <;> by_cases hj : j = 0 <;> simp [hi, hj, Nat.add_assoc]
/-- The world has turned in blocks of F and in new ones alone. -/
structure Chg (F : Nat → Prop) (w w' : World) : Prop where
  os : w'.os = w.os
  tape : w'.tape = w.tape
  output : w'.output = w.output
  size : w.heap.size ≤ w'.heap.size
  block : ∀ k, k < w.heap.size → ¬ F k → w'.heap[k]? = w.heap[k]?
/-- No old block. -/
abbrev NoB : Nat → Prop := fun _ => False
section
variable {F G : Nat → Prop} {w w' w'' : World}
theorem Chg.refl (F : Nat → Prop) (w : World) : Chg F w w := ⟨rfl, rfl, rfl, Nat.le_refl _, fun _ _ _ => rfl⟩
theorem Chg.trans (h : Chg F w w') (k : Chg F w' w'') : Chg F w w'' :=
  ⟨k.os.trans h.os, k.tape.trans h.tape, k.output.trans h.output, Nat.le_trans h.size k.size,
   fun i hi hf => (k.block i (Nat.lt_of_lt_of_le hi h.size) hf).trans (h.block i hi hf)⟩
/-- Two steps, each with its own blocks: those of the second are of F or new. -/
theorem Chg.trans' (h : Chg F w w') (k : Chg G w' w'') (hg : ∀ i, G i → F i ∨ w.heap.size ≤ i) : Chg F w w'' :=
  ⟨k.os.trans h.os, k.tape.trans h.tape, k.output.trans h.output, Nat.le_trans h.size k.size,
   fun i hi hf => (k.block i (Nat.lt_of_lt_of_le hi h.size) (fun hG => by rcases hg i hG with h1 | h1; exact hf h1; omega)).trans (h.block i hi hf)⟩
theorem Chg.mono (h : Chg F w w') (hg : ∀ i, i < w.heap.size → F i → G i) : Chg G w w' :=
  ⟨h.os, h.tape, h.output, h.size, fun i hi hf => h.block i hi fun hF => hf (hg i hi hF)⟩
theorem Chg.drew (h : Chg F w w') : Chg F w w'.drew := ⟨h.os, h.tape, h.output, h.size, h.block⟩
theorem Chg.drewN (h : Chg F w w') (n : Nat) : Chg F w (w'.drewN n) := ⟨h.os, h.tape, h.output, h.size, h.block⟩
theorem Chg.alloc (h : Chg F w w') (o : Obj) : Chg F w (w'.alloc o) :=
  h.trans ⟨rfl, rfl, rfl, by simp, fun k hk _ => Below.heap_alloc _ _ _ hk⟩
theorem Chg.setCell (h : Chg F w w') {p : Addr} (hp : F p.block ∨ w.heap.size ≤ p.block) (u : Value) : Chg F w (w'.setCell p u) :=
  h.trans' (G := fun k => k = p.block) ⟨rfl, rfl, rfl, by simp [World.setCell], fun k _ hk => Below.heap_setCell _ _ _ _ hk⟩ (fun i hi => by subst hi; exact hp)
theorem Chg.grown (h : Chg F w w') {row : Option Nat} (hg : w'.grownBy w'' row) (hr : ∀ k, row = some k → F k ∨ w.heap.size ≤ k) : Chg F w w'' :=
  h.trans' (G := fun k => some k = row) ⟨hg.os, hg.tape, hg.output, hg.size, fun k hk hn => hg.block k hk hn⟩ (fun i hi => hr i hi.symm)
theorem Chg.own (h : Chg F w w') {g : Nat} (k : Chg (· = g) w' w'') (hg : w.heap.size ≤ g) : Chg F w w'' := h.trans' k fun i hi => .inr (by rw [hi]; exact hg)
theorem Chg.cell (h : Chg F w w') {p : Addr} {v : Value} (hc : w.cell? p = some v) (hf : ¬ F p.block) : w'.cell? p = some v :=
  (World.cell?_of_block (h.block p.block (World.block_lt_of_cell? w p hc) hf)).trans hc
end
/-- The answer is true exactly if p holds; no old block has turned. -/
def Says (w : World) (p : Prop) (e : Ending) (w' : World) : Prop := ∃ b : Bool, e = .returned (.bool b) ∧ (b = true ↔ p) ∧ Chg NoB w w'
theorem Says.yes {w w' : World} {p : Prop} (h : p) (hc : Chg NoB w w') : Says w p (.returned (.bool true)) w' := ⟨true, rfl, by simp [h], hc⟩
theorem Says.no {w w' : World} {p : Prop} (h : ¬ p) (hc : Chg NoB w w') : Says w p (.returned (.bool false)) w' := ⟨false, rfl, by simp [h], hc⟩
theorem Says.both {w w' : World} {p : Prop} {b : Bool} (h : b = true ↔ p) (hc : Chg NoB w w') : Says w p (.returned (.bool b)) w' := ⟨b, rfl, h, hc⟩
/-- The cells from A on are xs; they lie in blocks of F. -/
def Rd (F : Nat → Prop) (w : World) (A : Option Addr) (xs : List Value) : Prop :=
  ∀ (k : Nat) (v : Value), xs[k]? = some v → ∃ ad, A = some ad ∧ F ad.block ∧ w.cell? (ad.add k) = some v
section
variable {F G : Nat → Prop} {w w' : World} {A : Option Addr} {xs : List Value}
theorem Rd.nil (F : Nat → Prop) (w : World) (A : Option Addr) : Rd F w A [] := fun k v h => by simp at h
theorem Rd.mono (h : Rd F w A xs) (hg : ∀ i, i < w.heap.size → F i → G i) : Rd G w A xs := fun k v hk => by
  obtain ⟨ad, e, hf, hc⟩ := h k v hk
  have := World.block_lt_of_cell? w _ hc
  rw [block_add] at this
  exact ⟨ad, e, hg _ this hf, hc⟩
theorem Rd.lt (h : Rd F w A xs) : Rd (fun i => F i ∧ i < w.heap.size) w A xs := h.mono fun _ hi hf => ⟨hf, hi⟩
theorem Rd.chg (h : Rd F w A xs) (hc : Chg G w w') (hd : ∀ i, F i → ¬ G i) : Rd F w' A xs := fun k v hk => by
  obtain ⟨ad, e, hf, hcell⟩ := h k v hk
  exact ⟨ad, e, hf, hc.cell hcell (by rw [block_add]; exact hd _ hf)⟩
theorem Rd.at_ (h : Rd F w A xs) {k : Nat} (hk : k < xs.length) : ∃ ad, A = some ad ∧ F ad.block ∧ ad.block < w.heap.size ∧ w.cell? (ad.add k) = some xs[k] := by
  obtain ⟨ad, e, hf, hc⟩ := h k _ (List.getElem?_eq_getElem hk)
  have := World.block_lt_of_cell? w _ hc
  rw [block_add] at this
  exact ⟨ad, e, hf, this, hc⟩
end
theorem Rd.new {F : Nat → Prop} {w w' : World} {A : Option Addr} {xs : List Value} (h : Rd F w A xs) (hc : Chg NoB w w') : Rd F w' A xs := h.chg hc fun _ _ x => x
/-- A block known whole, none of its cells frozen. -/
def Blk (w : World) (g : Nat) (t : TypeId) (cs : Array Value) : Prop := w.heap[g]? = some (.cells cs t (0, 0))
section
variable {F : Nat → Prop} {w w' : World} {g : Nat} {t : TypeId} {cs : Array Value}
theorem Blk.lt (h : Blk w g t cs) : g < w.heap.size := by
  rcases Nat.lt_or_ge g w.heap.size with hlt | hge
  · exact hlt
  · unfold Blk at h; rw [Array.getElem?_eq_none hge] at h; cases h
theorem Blk.cell (h : Blk w g t cs) (i : Nat) : w.cell? ⟨g, i, none⟩ = cs[i]? := cell_of_row w g i cs t (0, 0) h
theorem Blk.frozen (h : Blk w g t cs) (i : Nat) : w.frozen? ⟨g, i, none⟩ = false := by
  unfold Blk at h
  simp [World.frozen?, h]
theorem Blk.new (w : World) (t : TypeId) (cs : Array Value) : Blk (w.alloc (.cells cs t)) w.heap.size t cs := heap_alloc_new w _
theorem Blk.chg (h : Blk w g t cs) (hc : Chg F w w') (hf : ¬ F g) : Blk w' g t cs := (hc.block g h.lt hf).trans h
theorem Blk.set_ (h : Blk w g t cs) (i : Nat) (u : Value) : Blk (w.setCell ⟨g, i, none⟩ u) g t (cs.setIfInBounds i u) := by
  unfold Blk at h ⊢
  simp [World.setCell, Array.getElem?_modify, h]
end
theorem Blk.rd {w : World} {g : Nat} {t : TypeId} {cs : List Value} (h : Blk w g t cs.toArray) : Rd (· = g) w (some ⟨g, 0, none⟩) cs := fun k v hk => by
  refine ⟨_, rfl, rfl, ?_⟩
  have e : (⟨g, 0, none⟩ : Addr).add k = ⟨g, k, none⟩ := by unfold Addr.add; split <;> simp_all
  rw [e, h.cell]
  simpa using hk
/-- n times the cells z. -/
def reps (n : Nat) (z : List Value) : List Value := (List.replicate n z).flatten
theorem reps_zero (z : List Value) : reps 0 z = [] := rfl
theorem reps_succ (n : Nat) (z : List Value) : reps (n + 1) z = z ++ reps n z := by unfold reps; rw [List.replicate_succ, List.flatten_cons]
theorem reps_length (n : Nat) (z : List Value) : (reps n z).length = n * z.length := by
  induction n with
  | zero => simp [reps]
  | succ n ih => rw [reps_succ, List.length_append, ih, Nat.succ_mul, Nat.add_comm]
theorem madeCells_reps (z : List Value) (n : Nat) : madeCells z.toArray (n * z.length) = (reps n z).toArray := by
  have h : ∀ n, (List.range (n * z.length)).map (fun x => z.toArray[x % z.length]!) = reps n z := by
    intro n
    induction n with
    | zero => simp [reps]
    | succ n ih =>
      have e : (n + 1) * z.length = z.length + n * z.length := by rw [Nat.succ_mul, Nat.add_comm]
      rw [e, List.range_add, List.map_append, List.map_map, reps_succ, ← ih]
      congr 1
      · apply List.ext_getElem?
        intro j
        rw [List.getElem?_map]
        rcases Nat.lt_or_ge j z.length with hj | hj
        · rw [List.getElem?_range hj, Option.map_some, Nat.mod_eq_of_lt hj, List.getElem?_eq_getElem hj]
          simp [hj]
        · rw [List.getElem?_eq_none (by simpa using hj), List.getElem?_eq_none hj]; rfl
      · apply List.map_congr_left
        intro j _
        simp only [Function.comp, Nat.add_mod_left]
  unfold madeCells
  apply Array.ext'
  have hs : z.toArray.size = z.length := by simp
  rw [Array.toList_map, Array.toList_range, hs, h]
theorem run_make_reps {P : Program} (t e : TypeId) (i : TypeInfo) (z : Value) (zs : List Value) (ht : P.underlying t = some (.slice e)) (hi : P.info? e = some i) (hz : i.zero = some z) (hzs : z.cells = zs.toArray) (hsz : i.size = zs.length)
    (n : Nat) (hbytes : i.bytes * n ≤ 281474976710656) (h63 : n ≤ 9223372036854775807) (w : World) :
    (Instr.makeSlice t (.int .i64 (n : Int)) (.int .i64 (n : Int))).run P w = .ok (.slice (some ⟨w.heap.size, 0, none⟩) n n) (w.alloc (.cells (reps n zs).toArray e)) := by
  have hb : (i.bytes : Int) * (n : Int) ≤ 281474976710656 := by
    have h : ((i.bytes * n : Nat) : Int) ≤ 281474976710656 := by omega
    rwa [Int.natCast_mul] at h
  have hr := run_make (P := P) w t e i z ht hi hz .i64 .i64 n n (by omega) (by omega) hb (by omega)
  simp only [Int.toNat_natCast] at hr
  rw [hr, hzs, hsz, madeCells_reps]
/-- Cells of a block that is made and then filled from its head. -/
theorem Blk.fill1 {w : World} {g k : Nat} {t : TypeId} {A R : List Value} {z : Value} (h : Blk w g t (A ++ z :: R).toArray) (hk : A.length = k) (u : Value) :
    Blk (w.setCell ⟨g, k, none⟩ u) g t (A ++ u :: R).toArray := by
  have h1 := h.set_ k u
  have e : (A ++ z :: R).toArray.setIfInBounds k u = (A ++ u :: R).toArray := by
    apply Array.ext'
    rw [Array.toList_setIfInBounds]
    subst hk
    rw [List.set_append_right _ _ (Nat.le_refl _)]
    simp
  rwa [e] at h1
theorem Blk.room {w : World} {g k : Nat} {t : TypeId} {A R : List Value} {z : Value} (h : Blk w g t (A ++ z :: R).toArray) (hk : A.length = k) : w.cell? ⟨g, k, none⟩ = some z := by
  subst hk
  rw [h.cell]
  simp
theorem Blk.fillAt {w : World} {g k j : Nat} {t : TypeId} {A B R : List Value} {z : Value} (h : Blk w g t (A ++ (B ++ z :: R)).toArray) (hk : A.length = k) (hj : B.length = j) (u : Value) :
    Blk (w.setCell ⟨g, k + j, none⟩ u) g t (A ++ (B ++ u :: R)).toArray := by
  rw [← List.append_assoc] at h ⊢
  exact h.fill1 (by simp [hk, hj]) u
theorem Blk.roomAt {w : World} {g k j : Nat} {t : TypeId} {A B R : List Value} {z : Value} (h : Blk w g t (A ++ (B ++ z :: R)).toArray) (hk : A.length = k) (hj : B.length = j) : w.cell? ⟨g, k + j, none⟩ = some z := by
  rw [← List.append_assoc] at h
  exact h.room (by simp [hk, hj])
theorem Blk.fill2 {w : World} {g k : Nat} {t : TypeId} {A R : List Value} {z0 z1 : Value} (h : Blk w g t (A ++ z0 :: z1 :: R).toArray) (hk : A.length = k) (u0 u1 : Value) :
    Blk ((w.setCell ⟨g, k, none⟩ u0).setCell ⟨g, k + 1, none⟩ u1) g t (A ++ u0 :: u1 :: R).toArray :=
  Blk.fillAt (B := [u0]) (h.fill1 hk u0) hk rfl u1
theorem Blk.fill3 {w : World} {g k : Nat} {t : TypeId} {A R : List Value} {z0 z1 z2 : Value} (h : Blk w g t (A ++ z0 :: z1 :: z2 :: R).toArray) (hk : A.length = k) (u0 u1 u2 : Value) :
    Blk (((w.setCell ⟨g, k, none⟩ u0).setCell ⟨g, k + 1, none⟩ u1).setCell ⟨g, k + 2, none⟩ u2) g t (A ++ u0 :: u1 :: u2 :: R).toArray :=
  Blk.fillAt (B := [u0, u1]) (h.fill2 hk u0 u1) hk rfl u2
theorem Blk.fill5 {w : World} {g k : Nat} {t : TypeId} {A R : List Value} {z0 z1 z2 z3 z4 : Value} (h : Blk w g t (A ++ z0 :: z1 :: z2 :: z3 :: z4 :: R).toArray) (hk : A.length = k) (u0 u1 u2 u3 u4 : Value) :
    Blk (((((w.setCell ⟨g, k, none⟩ u0).setCell ⟨g, k + 1, none⟩ u1).setCell ⟨g, k + 2, none⟩ u2).setCell ⟨g, k + 3, none⟩ u3).setCell ⟨g, k + 4, none⟩ u4) g t (A ++ u0 :: u1 :: u2 :: u3 :: u4 :: R).toArray :=
  Blk.fillAt (B := [u0, u1, u2, u3]) (Blk.fillAt (B := [u0, u1, u2]) (h.fill3 hk u0 u1 u2) hk rfl u3) hk rfl u4
/-! Lists of elements of m cells each. -/
theorem flat_length {α : Type} {enc : α → List Value} {m : Nat} (he : ∀ x, (enc x).length = m) (xs : List α) : (xs.flatMap enc).length = xs.length * m := by
  induction xs with
  | nil => simp
  | cons x xs ih => rw [List.flatMap_cons, List.length_append, he, ih, List.length_cons, Nat.succ_mul, Nat.add_comm]
theorem flat_get {α : Type} {enc : α → List Value} {m : Nat} (he : ∀ x, (enc x).length = m) : ∀ (xs : List α) (k : Nat) (hk : k < xs.length) (j : Nat), j < m → (xs.flatMap enc)[k * m + j]? = (enc xs[k])[j]?
  | [], k, hk, _, _ => absurd hk (by simp)
  | x :: xs, 0, _, j, hj => by
    rw [List.flatMap_cons, Nat.zero_mul, Nat.zero_add, List.getElem?_append_left (by rw [he]; exact hj)]; rfl
  | x :: xs, k + 1, hk, j, hj => by
    have e : (k + 1) * m + j = (enc x).length + (k * m + j) := by rw [he, Nat.succ_mul]; omega
    rw [List.flatMap_cons, e, List.getElem?_append_right (Nat.le_add_right _ _), Nat.add_sub_cancel_left, flat_get he xs k (by simpa using hk) j hj]; rfl
theorem Rd.flat {F : Nat → Prop} {w : World} {A : Option Addr} {α : Type} {enc : α → List Value} {m : Nat} (he : ∀ x, (enc x).length = m) {xs : List α} (h : Rd F w A (xs.flatMap enc)) {k : Nat} (hk : k < xs.length) (hm : 0 < m) :
    ∃ b o, A = some ⟨b, o, none⟩ ∧ F b ∧ b < w.heap.size ∧ ∀ j v, (enc xs[k])[j]? = some v → w.cell? ⟨b, o + k * m + j, none⟩ = some v := by
  have h0 : 0 < (enc xs[k]).length := by rw [he]; exact hm
  obtain ⟨ad, e, hf, hc⟩ := h (k * m + 0) (enc xs[k])[0] (by rw [flat_get he xs k hk 0 hm, List.getElem?_eq_getElem h0])
  have hb := World.block_lt_of_cell? w _ hc
  rw [block_add] at hb
  obtain ⟨b, o, s⟩ := ad
  have hs : s = none := by
    have hl0 : 0 < (xs.flatMap enc).length := by rw [flat_length he]; exact Nat.mul_pos (Nat.lt_of_le_of_lt (Nat.zero_le _) hk) hm
    obtain ⟨ad', e', _, hc'⟩ := h 0 _ (List.getElem?_eq_getElem hl0)
    rw [e] at e'
    cases e'
    exact World.cell?_spot hc'
  subst hs
  refine ⟨b, o, e, hf, hb, fun j v hj => ?_⟩
  have hjm : j < m := by rw [← he xs[k]]; exact (List.getElem?_eq_some_iff.1 hj).1
  obtain ⟨ad', e', _, hc'⟩ := h (k * m + j) v (by rw [flat_get he xs k hk j hjm, hj])
  rw [e] at e'
  cases e'
  have e1 : (⟨b, o, none⟩ : Addr).add (k * m + j) = ⟨b, o + k * m + j, none⟩ := by unfold Addr.add; split <;> simp_all <;> omega
  rwa [e1] at hc'
end Go.Proofs.Ytpiojofmflfkkaa
/- Slices that a call has built by append: 'ownsRow' in the words of 'Chg' and 'Rd'; literals that are indexed. -/
namespace Go.Proofs.Ytpiojofmflfkkaa
open Go.RowKit
section
variable {F : Nat → Prop} {w w' : World} {B size n : Nat} {e : TypeId} {v : Value} {xs : List Value}
theorem own_rd (h : w.ownsRow B e size v n xs) : ∃ A c, v = .slice A n c ∧ n ≤ c ∧ Rd (fun i => B ≤ i) w A xs := by
  obtain ⟨hl, h⟩ := h
  rcases h with ⟨rfl, rfl⟩ | ⟨g, cap, cur, rfl, hb, hg, hn, _, hs, ht⟩
  · have : xs = [] := List.eq_nil_of_length_eq_zero (by simpa using hl)
    subst this
    exact ⟨none, 0, rfl, Nat.le_refl _, Rd.nil _ _ _⟩
  · refine ⟨_, cap, rfl, hn, fun k u hk => ⟨_, rfl, hb, ?_⟩⟩
    have e1 : (⟨g, 0, none⟩ : Addr).add k = ⟨g, k, none⟩ := by unfold Addr.add; split <;> simp_all
    rw [e1, cell_of_row w g k cur e (0, 0) hg]
    rw [← ht, List.getElem?_take] at hk
    split at hk
    · simpa using hk
    · cases hk
theorem own_chg (h : w.ownsRow B e size v n xs) (hc : Chg F w w') (hf : ∀ i, B ≤ i → ¬ F i) : w'.ownsRow B e size v n xs := by
  obtain ⟨hl, h⟩ := h
  refine ⟨hl, ?_⟩
  rcases h with h | ⟨g, cap, cur, rfl, hb, hg, hr⟩
  · exact .inl h
  · exact .inr ⟨g, cap, cur, rfl, hb, (hc.block g (Array.getElem?_eq_some_iff.1 hg).1 (hf g hb)).trans hg, hr⟩
/-- What a law on append leaves ('grownBy'), as a step of the call's. -/
theorem chg_grown {w0 : World} (h : w.ownsRow B e size v n xs) (hg : w.grownBy w' v.ownBlock) (hc : Chg F w0 w) (hB : w0.heap.size ≤ B) : Chg F w0 w' :=
  hc.grown hg fun k hk => .inr (Nat.le_trans hB (h.lt k hk).1)
end
/-- The cells of a block that was just made. -/
theorem cells_new (w : World) (cs : List Value) (t : TypeId) : ∀ j u, cs[j]? = some u → (w.alloc (.cells cs.toArray t)).cell? ((⟨w.heap.size, 0, none⟩ : Addr).add j) = some u := fun j u hj => by
  obtain ⟨ad, e, _, hc⟩ := (Blk.new w t cs.toArray).rd j u hj
  cases e
  exact hc
theorem cells_new2 (w : World) (o : Obj) (cs : List Value) (t : TypeId) : ∀ j u, cs[j]? = some u → ((w.alloc o).alloc (.cells cs.toArray t)).cell? ((⟨w.heap.size + 1, 0, none⟩ : Addr).add j) = some u := by
  have h := cells_new (w.alloc o) cs t
  rwa [World.size_alloc] at h
theorem lit_cell {w : World} {g : Nat} {t : TypeId} {cs : Array Value} (h : Blk w g t cs) (k : Nat) (hk : k < cs.size) (hi : ∀ v ∈ cs, ∃ x : Int, v = .int .i64 x) : ∃ x : Int, w.cell? ⟨g, k, none⟩ = some (.int .i64 x) := by
  obtain ⟨x, hx⟩ := hi cs[k] (Array.getElem_mem hk)
  exact ⟨x, by rw [h.cell, Array.getElem?_eq_getElem hk, hx]⟩
theorem lit_nat {w : World} {g : Nat} {t : TypeId} {cs : Array Value} (h : Blk w g t cs) (b k : Nat) (hk : k < cs.size) (hi : ∀ v ∈ cs, ∃ x : Int, v = .int .i64 x ∧ 0 ≤ x ∧ x < b) : ∃ x : Nat, w.cell? ⟨g, k, none⟩ = some (.int .i64 x) ∧ x < b := by
  obtain ⟨x, hx, h0, hb⟩ := hi cs[k] (Array.getElem_mem hk)
  obtain ⟨n, rfl⟩ := Int.eq_ofNat_of_zero_le h0
  exact ⟨n, by rw [h.cell, Array.getElem?_eq_getElem hk, hx], by omega⟩
theorem own_empty (w : World) (e : TypeId) (size B : Nat) (hB : B ≤ w.heap.size) : (w.alloc (.cells #[] e)).ownsRow B e size (.slice (some ⟨w.heap.size, 0, none⟩) 0 0) 0 [] :=
  World.ownsRow_made w #[] 0 hB (Nat.zero_le _) (by simp)
/-- Two literals, one behind the other. -/
theorem lit2 (w : World) (t t' : TypeId) (cs cs' : Array Value) : Blk ((w.alloc (.cells cs t)).alloc (.cells cs' t')) w.heap.size t cs ∧ Blk ((w.alloc (.cells cs t)).alloc (.cells cs' t')) (w.heap.size + 1) t' cs' ∧
    Chg NoB w ((w.alloc (.cells cs t)).alloc (.cells cs' t')) := by
  refine ⟨(Blk.new w t cs).chg ((Chg.refl NoB _).alloc _) (fun x => x), ?_, ((Chg.refl NoB w).alloc _).alloc _⟩
  have := Blk.new (w.alloc (.cells cs t)) t' cs'
  rwa [World.size_alloc] at this
/-- A slice of n elements that owns its cells cs: it is empty, or they stand at the head of a block in B..E-1. -/
def OwnS (B E : Nat) (w : World) (t : TypeId) (A : Option Addr) (n c : Nat) (cs : List Value) : Prop :=
  n ≤ c ∧ ((n = 0 ∧ cs = []) ∨ ∃ g rest, A = some ⟨g, 0, none⟩ ∧ B ≤ g ∧ g < E ∧ Blk w g t (cs ++ rest).toArray)
section
variable {F : Nat → Prop} {w w' : World} {B E n c : Nat} {t : TypeId} {A : Option Addr} {cs : List Value}
theorem OwnS.rd (h : OwnS B E w t A n c cs) : Rd (fun i => B ≤ i ∧ i < E) w A cs := by
  rcases h.2 with ⟨_, rfl⟩ | ⟨g, rest, rfl, hg, hE, hb⟩
  · exact Rd.nil _ _ _
  · intro k v hk
    exact (hb.rd.mono (G := fun i => B ≤ i ∧ i < E) fun i _ hi => by rw [hi]; exact ⟨hg, hE⟩) k v (by rw [List.getElem?_append_left (List.getElem?_eq_some_iff.1 hk).1]; exact hk)
theorem OwnS.chg (h : OwnS B E w t A n c cs) (hc : Chg F w w') (hf : ∀ i, B ≤ i → i < E → ¬ F i) : OwnS B E w' t A n c cs := by
  refine ⟨h.1, ?_⟩
  rcases h.2 with h0 | ⟨g, rest, rfl, hg, hE, hb⟩
  · exact .inl h0
  · exact .inr ⟨g, rest, rfl, hg, hE, hb.chg hc (hf g hg hE)⟩
theorem OwnS.more {B' E' : Nat} (h : OwnS B E w t A n c cs) (hB : B' ≤ B) (hE : E ≤ E') : OwnS B' E' w t A n c cs := by
  refine ⟨h.1, ?_⟩
  rcases h.2 with h0 | ⟨g, rest, rfl, hg, hg', hb⟩
  · exact .inl h0
  · exact .inr ⟨g, rest, rfl, Nat.le_trans hB hg, Nat.lt_of_lt_of_le hg' hE, hb⟩
theorem OwnS.empty (B E : Nat) (w : World) (t : TypeId) (A : Option Addr) (c : Nat) : OwnS B E w t A 0 c [] := ⟨Nat.zero_le _, .inl ⟨rfl, rfl⟩⟩
theorem OwnS.of_blk {g : Nat} (h : Blk w g t cs.toArray) (hg : B ≤ g) (hE : g < E) (hn : n ≤ c) : OwnS B E w t (some ⟨g, 0, none⟩) n c cs :=
  ⟨hn, .inr ⟨g, [], rfl, hg, hE, by rwa [List.append_nil]⟩⟩
theorem OwnS.of_row {size : Nat} {v : Value} (h : w.ownsRow B t size v n cs) : ∃ A c, v = .slice A n c ∧ OwnS B w.heap.size w t A n c cs := by
  obtain ⟨hl, h⟩ := h
  rcases h with ⟨rfl, rfl⟩ | ⟨g, cap, cur, rfl, hb, hg, hn, _, hs, ht⟩
  · have : cs = [] := List.eq_nil_of_length_eq_zero (by simpa using hl)
    subst this
    exact ⟨none, 0, rfl, OwnS.empty _ _ _ _ _ _⟩
  · refine ⟨_, cap, rfl, hn, .inr ⟨g, cur.toList.drop (n * size), rfl, hb, (Array.getElem?_eq_some_iff.1 hg).1, ?_⟩⟩
    have : (cs ++ cur.toList.drop (n * size)).toArray = cur := by rw [← ht, List.take_append_drop]
    rw [this]
    exact hg
end
end Go.Proofs.Ytpiojofmflfkkaa
/- The reader of codes: 'pick', 'odd', 'l20Open'. -/
namespace Go.Proofs.Ytpiojofmflfkkaa
open Go.RowKit
/-- Block g is a reader: a code of at most 2000 bytes in blocks below g, and a place of at most N. -/
def Rdr (w : World) (g N : Nat) : Prop :=
  ∃ (A : Option Addr) (c : Nat) (bs : List Nat) (p : Nat), Blk w g 148 #[.slice A bs.length c, .int .i64 (p : Int)] ∧ p ≤ N ∧ bs.length ≤ 2000 ∧
    Rd (fun i => i < g) w A (bs.map fun (b : Nat) => Value.int .u8 (b : Int)) ∧ ∀ b ∈ bs, b < 256
theorem Rdr.chg {F : Nat → Prop} {w w' : World} {g N : Nat} (h : Rdr w g N) (hc : Chg F w w') (hf : ∀ i, i ≤ g → ¬ F i) : Rdr w' g N := by
  obtain ⟨A, c, bs, p, hb, hp, hn, hr, hx⟩ := h
  exact ⟨A, c, bs, p, hb.chg hc (hf g (Nat.le_refl _)), hp, hn, hr.chg hc fun i hi => hf i (Nat.le_of_lt hi), hx⟩
theorem Rdr.lt {w : World} {g N : Nat} (h : Rdr w g N) : g < w.heap.size := by
  obtain ⟨A, c, bs, p, hb, _⟩ := h; exact hb.lt
theorem Rdr.more {w : World} {g N M : Nat} (h : Rdr w g N) (hm : N ≤ M) : Rdr w g M := by
  obtain ⟨A, c, bs, p, hb, hp, hr⟩ := h; exact ⟨A, c, bs, p, hb, by omega, hr⟩
theorem Rdr.alloc {w : World} {g N : Nat} (h : Rdr w g N) (o : Obj) : Rdr (w.alloc o) g N := h.chg ((Chg.refl NoB w).alloc o) fun _ _ x => x
theorem Rdr.drew {w : World} {g N : Nat} (h : Rdr w g N) : Rdr w.drew g N := h.chg ((Chg.refl NoB w).drew) fun _ _ x => x
theorem Rdr.grown {w w' : World} {g N : Nat} {row : Option Nat} (h : Rdr w g N) (hg : w.grownBy w' row) (hr : ∀ k, row = some k → g < k) : Rdr w' g N :=
  h.chg ((Chg.refl (fun k => some k = row) w).grown hg (fun k hk => .inl hk.symm)) (fun i hi hk => by have := hr i hk.symm; omega)
theorem nat_of {x n : Int} (h0 : 0 ≤ x) (h : x < n) : ∃ k : Nat, x = (k : Int) ∧ (k : Int) < n := by
  obtain ⟨k, rfl⟩ := Int.eq_ofNat_of_zero_le h0
  exact ⟨k, rfl, h⟩
theorem ofInt_i64 (a : Nat) (ha : a < 9223372036854775808) : (BitVec.ofInt 64 (a : Int)).toNat = a := by
  rw [BitVec.ofInt_natCast, BitVec.toNat_ofNat]; exact Nat.mod_eq_of_lt (by omega)
theorem i64_xor_nat (a b : Nat) (ha : a < 9223372036854775808) (hb : b < 9223372036854775808) : bits .xor .i64 (a : Int) (b : Int) = ((a ^^^ b : Nat) : Int) := by
  have hx : a ^^^ b < 2 ^ 63 := Nat.xor_lt_two_pow (by omega) (by omega)
  show IntKind.i64.wrap ((BitVec.ofInt 64 (a : Int) ^^^ BitVec.ofInt 64 (b : Int)).toNat : Int) = _
  rw [BitVec.toNat_xor, ofInt_i64 a ha, ofInt_i64 b hb, IntKind.wrap_i64]
  omega
theorem xor_mod {X n : Int} (h0 : 0 ≤ X) (h1 : X ≤ 1000000000000) (hn : 1 ≤ n) : ∃ k : Nat, (bits BinOp.xor IntKind.i64 X (X / 64)).tmod n = (k : Int) ∧ (k : Int) < n := by
  obtain ⟨a, rfl⟩ := Int.eq_ofNat_of_zero_le h0
  have e : (a : Int) / 64 = ((a / 64 : Nat) : Int) := by omega
  rw [e, i64_xor_nat _ _ (by omega) (by omega), Int.tmod_eq_emod_of_nonneg (by omega)]
  exact nat_of (Int.emod_nonneg _ (by omega)) (Int.emod_lt_of_pos _ (by omega))
theorem pick_world {w : World} {g N p c : Nat} {A : Option Addr} {bs : List Nat} (hb : Blk w g 148 #[.slice A bs.length c, .int .i64 (p : Int)]) (hp : p ≤ N) (hl : bs.length ≤ 2000)
    (hr : Rd (fun i => i < g) w A (bs.map fun (b : Nat) => Value.int .u8 (b : Int))) (hx : ∀ b ∈ bs, b < 256) (m : Nat) :
    Chg (· = g) w ((w.drewN m).setCell ⟨g, 1, none⟩ (.int .i64 ((p : Int) + 1))) ∧ Rdr ((w.drewN m).setCell ⟨g, 1, none⟩ (.int .i64 ((p : Int) + 1))) g (N + 1) := by
  have hc : Chg (· = g) w ((w.drewN m).setCell ⟨g, 1, none⟩ (.int .i64 ((p : Int) + 1))) := ((Chg.refl (· = g) w).drewN m).setCell (p := ⟨g, 1, none⟩) (.inl rfl) _
  refine ⟨hc, A, c, bs, p + 1, ?_, by omega, hl, hr.chg hc (fun i hi he => by omega), hx⟩
  have hb' : Blk (w.drewN m) g 148 #[.slice A bs.length c, .int .i64 (p : Int)] := hb
  exact hb'.set_ 1 _
set_option maxRecDepth 100000 in
set_option maxHeartbeats 2000000 in
theorem pick_any (g N : Nat) (n : Int) (w : World) (h : Rdr w g N) (hN : N ≤ 1000000000) (hn0 : 1 ≤ n) (hn : n ≤ 1000000) :
    Calls Try.prog 63 #[.pointer (some ⟨g, 0, none⟩), .int .i64 n] w fun e w' =>
      ∃ k : Nat, e = .returned (.int .i64 k) ∧ (k : Int) < n ∧ Chg (· = g) w w' ∧ Rdr w' g (N + 1) := by
  obtain ⟨A, c, bs, p, hb, hp, hl, hr, hx⟩ := h
  have c0 : w.cell? ⟨g, 0, none⟩ = some (.slice A bs.length c) := by rw [hb.cell]; rfl
  have c1 : w.cell? ⟨g, 1, none⟩ = some (.int .i64 p) := by rw [hb.cell]; rfl
  have f1 : w.frozen? ⟨g, 1, none⟩ = false := hb.frozen 1
  have hp0 : (0 : Int) ≤ p := by omega
  have hp1 : (p : Int) ≤ 1000000000 := by omega
  have H := Lib.hid (pick_world hb hp hl hr hx)
  by_cases hl0 : bs.length = 0
  · have hb0 : bs = [] := List.eq_nil_of_length_eq_zero hl0
    subst hb0
    go_enter Try.func63, Try.ntmps63
    go_wp2
    go_ret
    exact ⟨0, rfl, by omega, H.out 0⟩
  have hl1 : 0 < bs.length := by omega
  have hl2 : ((bs.length : Int) == 0) = false := beq_eq_false_iff_ne.2 (by omega)
  have hl3 : ¬ ((bs.length : Int) = 0) := by omega
  by_cases hk : p < bs.length
  · obtain ⟨ad, rfl, hf, hlt, hcell⟩ := hr.at_ (k := p) (by simpa using hk)
    simp only [List.getElem_map] at hcell
    have hbl : bs[p] < 256 := hx _ (List.getElem_mem _)
    generalize bs[p] = b at hcell hbl
    have hcell2 : (w.setCell ⟨g, 1, none⟩ (.int .i64 ((p : Int) + 1))).cell? (ad.add p) = some (.int .u8 b) := by
      rw [World.cell?_setCell_other _ _ _ _ (fun e => by have := congrArg Addr.block e; rw [block_add] at this; simp at this; omega)]; exact hcell
    have hb0 : (0 : Int) ≤ b := by omega
    have hb1 : (b : Int) < 256 := by omega
    go_enter Try.func63, Try.ntmps63
    go_wp2
    go_ret
    obtain ⟨k, hk1, hk2⟩ := nat_of (x := (b : Int) % n) (n := n) (Int.emod_nonneg _ (by omega)) (Int.emod_lt_of_pos _ (by omega))
    exact ⟨k, ret_int hk1, hk2, H.out 0⟩
  · have hk1 : p % bs.length < bs.length := Nat.mod_lt _ hl1
    have hj1 : (p * 7 + 3) % bs.length < bs.length := Nat.mod_lt _ hl1
    obtain ⟨ad, rfl, hf, hlt, hcell⟩ := hr.at_ (k := p % bs.length) (by simpa using hk1)
    obtain ⟨ad', he, hf', hlt', hcell'⟩ := hr.at_ (k := (p * 7 + 3) % bs.length) (by simpa using hj1)
    obtain rfl : ad = ad' := by injection he
    simp only [List.getElem_map] at hcell hcell'
    have hbl : bs[p % bs.length] < 256 := hx _ (List.getElem_mem _)
    have hbl' : bs[(p * 7 + 3) % bs.length] < 256 := hx _ (List.getElem_mem _)
    generalize bs[p % bs.length] = b at hcell hbl
    generalize bs[(p * 7 + 3) % bs.length] = b' at hcell' hbl'
    have g1 : (w.setCell ⟨g, 1, none⟩ (.int .i64 ((p : Int) + 1))).cell? (ad.add (p % bs.length)) = some (.int .u8 b) := by
      rw [World.cell?_setCell_other _ _ _ _ (fun e => by have := congrArg Addr.block e; rw [block_add] at this; simp at this; omega)]; exact hcell
    have g2 : (w.setCell ⟨g, 1, none⟩ (.int .i64 ((p : Int) + 1))).cell? (ad.add ((p * 7 + 3) % bs.length)) = some (.int .u8 b') := by
      rw [World.cell?_setCell_other _ _ _ _ (fun e => by have := congrArg Addr.block e; rw [block_add] at this; simp at this; omega)]; exact hcell'
    have q0 : (0 : Int) ≤ (p : Int) % (bs.length : Int) := Int.emod_nonneg _ (by omega)
    have q1 : (p : Int) % (bs.length : Int) < (bs.length : Int) := Int.emod_lt_of_pos _ (by omega)
    have r0 : (0 : Int) ≤ ((p : Int) * 7 + 3) % (bs.length : Int) := Int.emod_nonneg _ (by omega)
    have r1 : ((p : Int) * 7 + 3) % (bs.length : Int) < (bs.length : Int) := Int.emod_lt_of_pos _ (by omega)
    have d0 : (0 : Int) ≤ (p : Int) / (bs.length : Int) := Int.ediv_nonneg hp0 (by omega)
    have d1 : (p : Int) / (bs.length : Int) ≤ 1000000000 := by have := Int.ediv_le_self (bs.length : Int) hp0; omega
    have hb0 : (0 : Int) ≤ b := by omega
    have hb1 : (b : Int) < 256 := by omega
    have hb0' : (0 : Int) ≤ b' := by omega
    have hb1' : (b' : Int) < 256 := by omega
    clear hcell hcell' he hx hr hb hk1 hj1 hbl hbl'
    go_enter Try.func63, Try.ntmps63
    go_wp2
    go_quiet (fail)
    generalize hq : (p : Int) / (bs.length : Int) = q at *
    have hX0 : (0 : Int) ≤ b * 131 + b' * 1117 + p * 29 + q * 53 := by omega
    have hX1 : (b : Int) * 131 + b' * 1117 + p * 29 + q * 53 ≤ 1000000000000 := by omega
    have HX := Lib.hid (xor_mod hX0 hX1 hn0)
    clear hX0 hX1
    go_wp2
    go_ret
    obtain ⟨k, hk1, hk2⟩ := HX.out
    exact ⟨k, ret_int hk1, hk2, (H.out 0).1.drewN _, (H.out 0).2⟩
end Go.Proofs.Ytpiojofmflfkkaa
/- The reader of codes: 'odd', 'l20Open'; 'alive'. -/
namespace Go.Proofs.Ytpiojofmflfkkaa
open Go.RowKit
set_option maxHeartbeats 1000000 in
theorem odd_any (g N : Nat) (n : Int) (w : World) (h : Rdr w g N) (hN : N ≤ 1000000000) (hn0 : 0 ≤ n) (hn : n ≤ 1000000) :
    Calls Try.prog 120 #[.pointer (some ⟨g, 0, none⟩), .int .i64 n] w fun e w' =>
      ∃ b : Bool, e = .returned (.bool b) ∧ (n = 0 → b = false) ∧ Chg (· = g) w w' ∧ Rdr w' g (N + 1) := by
  by_cases h0 : n = 0
  · subst h0
    go_enter Try.func120, Try.ntmps120
    go_wp2
    go_ret
    exact ⟨false, rfl, fun _ => rfl, Chg.refl _ _, h.more (by omega)⟩
  · have h1 : 0 < n := by omega
    go_enter Try.func120, Try.ntmps120
    go_wp2_with (go_at_call 63; refine (pick_any g N n _ h hN (by omega) hn).mono ?_; rintro e w' ⟨k, rfl, hk, hc, hr⟩)
    go_ret
    exact ⟨_, rfl, fun hh => absurd hh h0, hc, hr⟩
set_option maxHeartbeats 1000000 in
theorem l20Open_any (A : Option Addr) (c : Nat) (bs : List Nat) (w : World) (h : Rd (fun i => i < w.heap.size) w A (bs.map fun (b : Nat) => Value.int .u8 (b : Int))) (hx : ∀ b ∈ bs, b < 256) (hc : bs.length ≤ c) :
    Calls Try.prog 60 #[.slice A bs.length c] w fun e w' =>
      ∃ g : Nat, e = .returned (.pointer (some ⟨g, 0, none⟩)) ∧ g = w.heap.size ∧ Chg NoB w w' ∧ Rdr w' g 0 := by
  by_cases hl : 2000 < bs.length
  · have hn : (bs.take 2000).length = 2000 := by simp; omega
    have ht : Rd (fun i => i < w.heap.size) w A ((bs.take 2000).map fun (b : Nat) => Value.int .u8 (b : Int)) := fun k v hk => by
      rw [List.map_take, List.getElem?_take] at hk
      split at hk
      · exact h k v hk
      · cases hk
    have H := Lib.hid ht
    have Hn := Lib.hid hn
    clear ht hn
    go_enter Try.func60, Try.ntmps60
    go_wp2
    go_ret
    refine ⟨w.heap.size, rfl, rfl, (Chg.refl _ _).alloc _, A, c, bs.take 2000, 0, ?_, Nat.le_refl _, by rw [Hn.out]; omega, H.out.chg ((Chg.refl NoB w).alloc _) (fun _ _ x => x), fun b hb => hx b (List.mem_of_mem_take hb)⟩
    rw [Hn.out]
    exact Blk.new _ _ _
  · go_enter Try.func60, Try.ntmps60
    go_wp2
    go_ret
    refine ⟨w.heap.size, rfl, rfl, (Chg.refl _ _).alloc _, A, c, bs, 0, Blk.new _ _ _, Nat.le_refl _, by omega, h.chg ((Chg.refl NoB w).alloc _) (fun _ _ x => x), hx⟩
set_option maxHeartbeats 1000000 in
theorem bitCount_10 (w : World) : Calls Try.prog 69 #[.int .i64 10] w fun e w' => e = .returned (.int .i64 2) ∧ w = w' := by
  go_enter Try.func69, Try.ntmps69
  go_wp2
  refine wp_loop_rounds 5 ?_
  iterate 5 (rw [rounds_succ]; go_wp2)
  go_ret
  exact ⟨rfl, rfl⟩
set_option maxHeartbeats 1000000 in
theorem bitCount_neg (w : World) : Calls Try.prog 69 #[.int .i64 (-1)] w fun e w' => e = .returned (.int .i64 (-1)) ∧ w = w' := by
  go_enter Try.func69, Try.ntmps69
  go_wp2
  go_ret
  exact ⟨rfl, rfl⟩
set_option maxHeartbeats 1000000 in
theorem alive_any (w : World) : Calls Try.prog 16 #[] w fun e w' => e = .returned (.bool true) ∧ w = w' := by
  go_enter Try.func16, Try.ntmps16
  go_wp2_with fail
  refine (bitCount_10 w).mono ?_
  rintro e w' ⟨rfl, rfl⟩
  go_wp2_with fail
  refine (bitCount_neg w).mono ?_
  rintro e w' ⟨rfl, rfl⟩
  go_wp2_with fail
  go_ret
  exact ⟨rfl, rfl⟩
end Go.Proofs.Ytpiojofmflfkkaa
/- The reference's test of a range. -/
namespace Go.Proofs.Ytpiojofmflfkkaa
open Go.RowKit
theorem l1In_any (n lo hi : Int) (w : World) :
    Calls Try.prog 77 #[.int .i64 n, .int .i64 lo, .int .i64 hi] w fun e w' => e = .returned (.bool (decide (lo ≤ n ∧ n ≤ hi))) ∧ w = w' := by
  go_enter Try.func77, Try.ntmps77
  by_cases h : lo ≤ n
  all_goals by_cases h2 : n ≤ hi
  all_goals go_wp2
  all_goals go_ret
  all_goals exact ⟨ret_bool (by simp [*]), rfl⟩
theorem l1In_t (n lo hi : Int) (w : World) (h : lo ≤ n ∧ n ≤ hi) :
    Calls Try.prog 77 #[.int .i64 n, .int .i64 lo, .int .i64 hi] w fun e w' => e = .returned (.bool true) ∧ w = w' :=
  (l1In_any n lo hi w).mono fun e w' ⟨he, hw⟩ => ⟨by rw [he, decide_eq_true h], hw⟩
theorem l1In_f (n lo hi : Int) (w : World) (h : ¬ (lo ≤ n ∧ n ≤ hi)) :
    Calls Try.prog 77 #[.int .i64 n, .int .i64 lo, .int .i64 hi] w fun e w' => e = .returned (.bool false) ∧ w = w' :=
  (l1In_any n lo hi w).mono fun e w' ⟨he, hw⟩ => ⟨by rw [he, decide_eq_false h], hw⟩
end Go.Proofs.Ytpiojofmflfkkaa
/- Slices of integers: toIntS, eqIntS. -/
namespace Go.Proofs.Ytpiojofmflfkkaa
open Go.RowKit
theorem ints_at {F : Nat → Prop} {w : World} {A : Option Addr} {xs : List Int} (h : Rd F w A (xs.map (Value.int .i64))) {k : Nat} (hk : k < xs.length) :
    ∃ ad, A = some ad ∧ F ad.block ∧ ad.block < w.heap.size ∧ w.cell? (ad.add k) = some (.int .i64 xs[k]) := by
  obtain ⟨ad, e, hf, hb, hc⟩ := h.at_ (k := k) (by simpa using hk)
  exact ⟨ad, e, hf, hb, by simpa using hc⟩
theorem info_int : (Try.prog.info? 3).map (fun i => (i.zero, i.size, i.bytes)) = some (some (.int .i64 0), 1, 8) := by kernel_rfl
/-- Cells of a list of integers. -/
def icells (xs : List Int) : List Value := xs.map (Value.int .i64)
theorem icells_length (xs : List Int) : (icells xs).length = xs.length := by simp [icells]
theorem icells_zeros (n : Nat) : icells (List.replicate n 0) = reps n [Value.int .i64 0] := by
  induction n with
  | zero => rfl
  | succ n ih => rw [List.replicate_succ, reps_succ, ← ih]; rfl
theorem icells_take_succ (xs : List Int) (k : Nat) (h : k < xs.length) : icells (xs.take (k + 1)) = icells (xs.take k) ++ [Value.int .i64 xs[k]] := by
  unfold icells; rw [List.take_succ_eq_append_getElem h, List.map_append]; rfl
end Go.Proofs.Ytpiojofmflfkkaa
/- A region that draws its order, by an invariant over the operations that are done. -/
namespace Go.Proofs.Ytpiojofmflfkkaa
variable {P : Program} {ops : Array Oper} {Q : Exit → Act → World → Prop} {md : Region.Mode}
theorem countP_less {p q : Nat → Bool} (h : ∀ j, q j = true → p j = true) {i : Nat} (hp : p i = true) (hq : q i = false) : ∀ {l : List Nat}, i ∈ l → l.countP q < l.countP p
  | [], hi => by cases hi
  | x :: l, hi => by
    have hm : l.countP q ≤ l.countP p := List.countP_mono_left fun j _ hj => h j hj
    rw [List.countP_cons, List.countP_cons]
    rcases List.mem_cons.1 hi with rfl | hl
    · rw [if_neg (by simp [hq]), if_pos hp]; omega
    · have := countP_less h hp hq hl
      by_cases hx : q x = true
      · rw [if_pos hx, if_pos (h x hx)]; omega
      · rw [if_neg hx]; omega
theorem wpAny_inv {Inv : Array Bool → Act → World → Prop}
    (hstep : ∀ listed a w i, Inv listed a w → i ∈ Region.ready md ops listed → wpOp P ops Q i (Inv (listed.setIfInBounds i true)) a w)
    (hend : ∀ listed a w, Inv listed a w → Region.ready md ops listed = [] → Q .normal a w) :
    ∀ (fuel : Nat) (listed : Array Bool) (a : Act) (w : World), (Region.ready md ops listed).length ≤ fuel → (List.range ops.size).countP (fun i => !listed.getD i true) ≤ fuel → Inv listed a w → wpAny P md ops Q fuel listed a w := by
  intro fuel
  induction fuel with
  | zero =>
    intro listed a w h0 _ h
    have hr : Region.ready md ops listed = [] := List.eq_nil_of_length_eq_zero (by omega)
    exact ⟨hr, hend _ _ _ h hr⟩
  | succ fuel ih =>
    intro listed a w h0 h1 h
    refine ⟨fun hr => hend _ _ _ h hr, fun i hi => wpOp_mono (fun a' w' h' => ?_) (hstep _ _ _ i h hi)⟩
    have hc : (List.range ops.size).countP (fun j => !(listed.setIfInBounds i true).getD j true) ≤ fuel := by
      have hl := (mem_ready.1 hi).1
      obtain ⟨o, ho, _⟩ := (mem_ready.1 hi).2
      have hlt : i < ops.size := (Array.getElem?_eq_some_iff.1 ho).1
      have hb : i < listed.size := by
        rcases Nat.lt_or_ge i listed.size with h' | h'
        · exact h'
        · simp [Array.getElem?_eq_none h'] at hl
      have := countP_less (p := fun j => !listed.getD j true) (q := fun j => !(listed.setIfInBounds i true).getD j true) (i := i) (fun j hj => by
        by_cases hij : i = j
        · subst hij; simp [hb] at hj
        · rw [getD_set_ne true hij] at hj; exact hj) (by simp only [hl]; rfl) (by simp [hb]) (List.mem_range.2 hlt)
      omega
    refine ih _ _ _ ?_ hc h'
    refine Nat.le_trans ?_ hc
    unfold Region.ready
    rw [← List.countP_eq_length_filter]
    exact List.countP_mono_left fun j _ hj => by
      rw [Bool.and_eq_true] at hj
      exact hj.1
theorem wp_region_inv {Inv : Array Bool → Act → World → Prop} {id : Nat} {a : Act} {w : World} (hm : P.follows .mixedOrders = true)
    (h0 : Inv (Array.replicate ops.size false) a { w with drawn := w.drawn + 1 })
    (hstep : ∀ listed a w i, Inv listed a w → i ∈ Region.ready .any ops listed → wpOp P ops Q i (Inv (listed.setIfInBounds i true)) a w)
    (hend : ∀ listed a w, Inv listed a w → Region.ready .any ops listed = [] → Q .normal a w) : (Code.region id ops true).wp P Q a w := by
  refine wp_region_any hm (wpAny_inv hstep hend _ _ _ _ ?_ ?_ h0)
  · unfold Region.ready
    exact Nat.le_trans (List.length_filter_le _ _) (by simp)
  · exact Nat.le_trans List.countP_le_length (by simp)
end Go.Proofs.Ytpiojofmflfkkaa
/- A region that draws its order: every operation has a fact of its own value; the facts stand behind whatever the other operations do. -/
namespace Go.Proofs.Ytpiojofmflfkkaa
def dstAt (ops : Array Oper) (i : Nat) : Option Tmp := (ops[i]?).bind (·.dst)
def putAll (ops : Array Oper) (vs : Nat → Value) (a : Act) : List Nat → Act
  | [] => a
  | i :: D => (putAll ops vs a D).put (dstAt ops i) (vs i)
def findDst : List Oper → Nat → Tmp → Option Nat
  | [], _, _ => none
  | o :: os, i, t => if o.dst = some t then some i else findDst os (i + 1) t
/-- No two operations write one slot; a guard is one of gl, and comes ahead; each comes behind those of a smaller number alone, and behind all whose slots it reads. -/
def regionOkG (ops : Array Oper) (n : Nat) (gl : List (Nat × Bool)) : Bool :=
  (List.range ops.size).all fun i => match ops[i]? with
    | none => true
    | some o => (match o.guard with | none => true | some p => (gl.contains p || gl.contains (p.1, !p.2)) && (dstAt ops p.1).isSome && o.after.toList.any fun e => Region.binds .any e && e.on == p.1)
      && (match o.dst with | none => true | some d => decide (d < n) && (List.range ops.size).all fun j => j == i || dstAt ops j != some d)
      && (o.after.toList.all fun e => !Region.binds .any e || decide (e.on < i))
      && (o.op.operands.toList.all fun x => match x with
          | .tmp t => (match findDst ops.toList 0 t with | none => true | some j => o.after.toList.any fun e => Region.binds .any e && e.on == j)
          | _ => true)
def regionOk (ops : Array Oper) (n : Nat) : Bool := regionOkG ops n []
theorem put_size (a : Act) (x : Option Tmp) (v : Value) : (a.put x v).tmps.size = a.tmps.size := by
  cases x <;> simp [Act.put]
theorem put_getD (a : Act) (d : Tmp) (v : Value) (h : d < a.tmps.size) : (a.put (some d) v).tmps.getD d undef = v := by
  simp [Act.put, h]
theorem put_getD_ne (a : Act) (x : Option Tmp) (v : Value) (t : Tmp) (h : x ≠ some t) : (a.put x v).tmps.getD t undef = a.tmps.getD t undef := by
  cases x with
  | none => rfl
  | some d =>
    have : d ≠ t := fun e => h (by rw [e])
    simp [Act.put, Array.getElem?_setIfInBounds_ne this]
section
variable {ops : Array Oper} {vs vs' : Nat → Value} {a : Act}
theorem putAll_size : ∀ D, (putAll ops vs a D).tmps.size = a.tmps.size
  | [] => rfl
  | i :: D => by rw [putAll, put_size, putAll_size D]
theorem putAll_defers : ∀ D, (putAll ops vs a D).defers = a.defers
  | [] => rfl
  | i :: D => by
    rw [putAll, ← putAll_defers D]
    cases dstAt ops i <;> rfl
theorem putAll_append (D : List Nat) : ∀ D', putAll ops vs a (D' ++ D) = putAll ops vs (putAll ops vs a D) D'
  | [] => rfl
  | i :: D' => by rw [List.cons_append, putAll, putAll, putAll_append D D']
structure SlotsOk (ops : Array Oper) (n : Nat) : Prop where
  lt : ∀ i d, dstAt ops i = some d → d < n
  one : ∀ i j d, dstAt ops i = some d → dstAt ops j = some d → i = j
theorem dstAt_lt {i : Nat} {d : Tmp} (h : dstAt ops i = some d) : i < ops.size := by
  unfold dstAt at h
  rcases Nat.lt_or_ge i ops.size with h1 | h1
  · exact h1
  · rw [Array.getElem?_eq_none h1] at h; cases h
theorem putAll_get (ok : SlotsOk ops a.tmps.size) {d : Tmp} {i : Nat} (hd : dstAt ops i = some d) : ∀ D, i ∈ D → (putAll ops vs a D).tmps.getD d undef = vs i
  | [], h => by cases h
  | j :: D, h => by
    rw [putAll]
    by_cases hij : j = i
    · subst hij
      rw [hd]
      exact put_getD _ _ _ (by rw [putAll_size]; exact ok.lt _ _ hd)
    · rw [put_getD_ne _ _ _ _ (fun e => hij (ok.one _ _ _ e hd))]
      exact putAll_get ok hd D (by rcases List.mem_cons.1 h with h1 | h1; exact absurd h1.symm hij; exact h1)
theorem putAll_other {t : Tmp} : ∀ D, (∀ i ∈ D, dstAt ops i ≠ some t) → (putAll ops vs a D).tmps.getD t undef = a.tmps.getD t undef
  | [], _ => rfl
  | j :: D, h => by
    rw [putAll, put_getD_ne _ _ _ _ (h j (List.mem_cons_self ..))]
    exact putAll_other D fun i hi => h i (List.mem_cons_of_mem _ hi)
theorem putAll_ext (ok : SlotsOk ops a.tmps.size) {D D' : List Nat} (h : ∀ i, i ∈ D ↔ i ∈ D') (hv : ∀ i ∈ D, vs i = vs' i) : putAll ops vs a D = putAll ops vs' a D' := by
  have ht : (putAll ops vs a D).tmps = (putAll ops vs' a D').tmps := by
    apply Array.ext
    · rw [putAll_size, putAll_size]
    · intro t h1 h2
      have e1 : (putAll ops vs a D).tmps[t] = (putAll ops vs a D).tmps.getD t undef := by simp [h1]
      have e2 : (putAll ops vs' a D').tmps[t] = (putAll ops vs' a D').tmps.getD t undef := by simp [h2]
      rw [e1, e2]
      by_cases hx : ∃ i ∈ D, dstAt ops i = some t
      · obtain ⟨i, hi, hd⟩ := hx
        rw [putAll_get ok hd D hi, putAll_get ok hd D' ((h i).1 hi), hv i hi]
      · rw [putAll_other D (fun i hi hd => hx ⟨i, hi, hd⟩), putAll_other D' (fun i hi hd => hx ⟨i, (h i).2 hi, hd⟩)]
  have hdf : (putAll ops vs a D).defers = (putAll ops vs' a D').defers := by rw [putAll_defers, putAll_defers]
  generalize putAll ops vs a D = x at *
  generalize putAll ops vs' a D' = y at *
  cases x; cases y
  simp only at ht hdf
  rw [ht, hdf]
end
theorem findDst_some : ∀ (os : List Oper) (i : Nat) (t : Tmp) (j : Nat), findDst os i t = some j → ∃ k o, j = i + k ∧ os[k]? = some o ∧ o.dst = some t
  | [], _, _, _, h => by simp [findDst] at h
  | o :: os, i, t, j, h => by
    unfold findDst at h
    split at h
    · injection h with h; exact ⟨0, o, by omega, rfl, by assumption⟩
    · obtain ⟨k, o', hj, ho, hd⟩ := findDst_some os (i + 1) t j h
      exact ⟨k + 1, o', by omega, by simpa using ho, hd⟩
theorem findDst_none : ∀ (os : List Oper) (i : Nat) (t : Tmp), findDst os i t = none → ∀ (k : Nat) (o : Oper), os[k]? = some o → o.dst ≠ some t
  | [], _, _, _, k, o, ho => by simp at ho
  | o :: os, i, t, h, k, o', ho => by
    unfold findDst at h
    split at h
    · cases h
    · cases k with
      | zero => simp at ho; subst ho; assumption
      | succ k => exact findDst_none os (i + 1) t h k o' (by simpa using ho)
/-- What is known of an operation's operands: a slot that another operation of the region writes holds a value with that one's fact; another holds what it held. -/
def Needs (ops : Array Oper) (Post : Nat → Value → World → Prop) (m : Nat → Option Value) (a0 a : Act) (w : World) : List Operand → Prop
  | [] => True
  | .tmp t :: xs => (match findDst ops.toList 0 t with
      | some j => ∃ v, a.tmps[t]?.getD undef = v ∧ m j = some v ∧ Post j v w
      | none => a.tmps[t]?.getD undef = a0.tmps[t]?.getD undef) ∧ Needs ops Post m a0 a w xs
  | _ :: xs => Needs ops Post m a0 a w xs
/-- Which operations are done, and what they gave. -/
def memo (n : Nat) (listed : Array Bool) (vs : Nat → Value) : Nat → Option Value := fun i => if i < n ∧ listed.getD i false = true then some (vs i) else none
def upd (m : Nat → Option Value) (i : Nat) (v : Value) : Nat → Option Value := fun k => if k = i then some v else m k
/-- What an operation leaves. -/
def Aft (WInv : Nat → (Nat → Option Value) → World → Prop) (R : World → World → Prop) (Post : Nat → Value → World → Prop) (c : Nat) (m : Nat → Option Value) (i : Nat) (dst : Option Tmp) (a : Act) (w : World) (a' : Act) (w' : World) : Prop :=
  ∃ v, a' = a.put dst v ∧ WInv (c + 1) (upd m i v) w' ∧ R w w' ∧ Post i v w'
def StepAt (P : Program) (ops : Array Oper) (Q : Exit → Act → World → Prop) (WInv : Nat → (Nat → Option Value) → World → Prop) (R : World → World → Prop) (Post : Nat → Value → World → Prop) (a0 : Act) (i : Nat) (o : Oper) : Prop :=
  ∀ c m a w, c < ops.size → WInv c m w → m i = none → Needs ops Post m a0 a w o.op.operands.toList → Oper.wp P o a w (Aft WInv R Post c m i o.dst a w) Q
/-- An operation that its guard passes over. -/
def SkipAt (ops : Array Oper) (WInv : Nat → (Nat → Option Value) → World → Prop) (R : World → World → Prop) (Post : Nat → Value → World → Prop) (i : Nat) : Prop :=
  ∀ c m w, c < ops.size → WInv c m w → m i = none → WInv (c + 1) (upd m i undef) w ∧ R w w ∧ Post i undef w
def Step1 (gl : List (Nat × Bool)) (P : Program) (ops : Array Oper) (Q : Exit → Act → World → Prop) (WInv : Nat → (Nat → Option Value) → World → Prop) (R : World → World → Prop) (Post : Nat → Value → World → Prop) (a0 : Act) (i : Nat) (o : Oper) : Prop :=
  match o.guard with
  | none => StepAt P ops Q WInv R Post a0 i o
  | some p => match gl.contains p with
    | true => StepAt P ops Q WInv R Post a0 i o
    | false => SkipAt ops WInv R Post i
def StepsAll (gl : List (Nat × Bool)) (P : Program) (ops : Array Oper) (Q : Exit → Act → World → Prop) (WInv : Nat → (Nat → Option Value) → World → Prop) (R : World → World → Prop) (Post : Nat → Value → World → Prop) (a0 : Act) : List Oper → Nat → Prop
  | [], _ => True
  | o :: os, i => Step1 gl P ops Q WInv R Post a0 i o ∧ StepsAll gl P ops Q WInv R Post a0 os (i + 1)
/-- Behind the region: for whatever values that have the facts. -/
def AllVals (Post : Nat → Value → World → Prop) (m : Nat → Option Value) (w : World) (K : Act → Prop) : List Oper → Nat → Act → Prop
  | [], _, a => K a
  | o :: os, i, a => ∀ v, m i = some v → Post i v w → AllVals Post m w K os (i + 1) (a.put o.dst v)
section
variable {P : Program} {ops : Array Oper} {Q : Exit → Act → World → Prop} {WInv : Nat → (Nat → Option Value) → World → Prop} {R : World → World → Prop} {Post : Nat → Value → World → Prop} {a0 : Act} {vs : Nat → Value}
theorem StepsAll.at {gl : List (Nat × Bool)} : ∀ (os : List Oper) (i : Nat), StepsAll gl P ops Q WInv R Post a0 os i → ∀ k o, os[k]? = some o → Step1 gl P ops Q WInv R Post a0 (i + k) o
  | [], _, _, k, o, ho => by simp at ho
  | o :: os, i, h, k, o', ho => by
    cases k with
    | zero => simp at ho; subst ho; exact h.1
    | succ k =>
      have := StepsAll.at os (i + 1) h.2 k o' (by simpa using ho)
      rwa [Nat.add_assoc, Nat.add_comm 1 k] at this
def seqPut (vs : Nat → Value) : List Oper → Nat → Act → Act
  | [], _, a => a
  | o :: os, i, a => seqPut vs os (i + 1) (a.put o.dst (vs i))
theorem AllVals.use {m : Nat → Option Value} {w : World} {K : Act → Prop} : ∀ (os : List Oper) (i : Nat) (a : Act), AllVals Post m w K os i a → (∀ k, k < os.length → m (i + k) = some (vs (i + k)) ∧ Post (i + k) (vs (i + k)) w) → K (seqPut vs os i a)
  | [], _, _, h, _ => h
  | o :: os, i, a, h, hp => by
    unfold seqPut
    refine AllVals.use os (i + 1) _ (h (vs i) (hp 0 (by simp)).1 (hp 0 (by simp)).2) fun k hk => ?_
    have := hp (k + 1) (by simp; omega)
    rwa [show i + 1 + k = i + (k + 1) by omega]
theorem seqPut_eq : ∀ (os : List Oper) (i : Nat) (a : Act), (∀ k o, os[k]? = some o → dstAt ops (i + k) = o.dst) → seqPut vs os i a = putAll ops vs a (List.range' i os.length).reverse
  | [], _, _, _ => rfl
  | o :: os, i, a, h => by
    unfold seqPut
    rw [seqPut_eq os (i + 1) _ (fun k o' ho => by have := h (k + 1) o' (by simpa using ho); rwa [show i + 1 + k = i + (k + 1) by omega]), List.length_cons, List.range'_succ, List.reverse_cons, putAll_append]
    have : dstAt ops i = o.dst := h 0 o rfl
    simp only [putAll, this]
def dones (ops : Array Oper) (listed : Array Bool) : List Nat := (List.range ops.size).filter fun i => listed.getD i false
theorem dones_mem {listed : Array Bool} {i : Nat} : i ∈ dones ops listed ↔ i < ops.size ∧ listed.getD i false = true := by
  unfold dones; rw [List.mem_filter, List.mem_range]
theorem needs_of {listed : Array Bool} {w : World} (ok : SlotsOk ops a0.tmps.size) (hp : ∀ j ∈ dones ops listed, Post j (vs j) w) :
    ∀ xs : List Operand, (∀ t, Operand.tmp t ∈ xs → ∀ j, findDst ops.toList 0 t = some j → j ∈ dones ops listed) → Needs ops Post (memo ops.size listed vs) a0 (putAll ops vs a0 (dones ops listed)) w xs
  | [], _ => trivial
  | .tmp t :: xs, h => by
    refine ⟨?_, needs_of ok hp xs fun t' ht' => h t' (List.mem_cons_of_mem _ ht')⟩
    split
    · rename_i j hj
      have hm := h t (List.mem_cons_self ..) j hj
      obtain ⟨k, o, rfl, ho, hd⟩ := findDst_some _ _ _ _ hj
      rw [Nat.zero_add] at hm ⊢
      have hdst : dstAt ops k = some t := by
        unfold dstAt
        rw [← Array.getElem?_toList, ho]; exact hd
      exact ⟨vs k, by have := putAll_get (vs := vs) ok hdst _ hm; rwa [Array.getD_eq_getD_getElem?] at this, if_pos (dones_mem.1 hm), hp k hm⟩
    · rename_i hn
      rw [← Array.getD_eq_getD_getElem?, ← Array.getD_eq_getD_getElem?]
      refine putAll_other _ fun i hi hd => ?_
      have hil := dstAt_lt hd
      unfold dstAt at hd
      rw [← Array.getElem?_toList] at hd
      cases ho : ops.toList[i]? with
      | none => rw [ho] at hd; cases hd
      | some o =>
        rw [ho] at hd
        exact findDst_none _ _ _ hn i o ho hd
  | .const _ :: xs, h => needs_of ok hp xs fun t' ht' => h t' (List.mem_cons_of_mem _ ht')
  | .global _ :: xs, h => needs_of ok hp xs fun t' ht' => h t' (List.mem_cons_of_mem _ ht')
  | .func _ :: xs, h => needs_of ok hp xs fun t' ht' => h t' (List.mem_cons_of_mem _ ht')
structure RegOk (ops : Array Oper) (n : Nat) (gl : List (Nat × Bool)) : Prop where
  slots : SlotsOk ops n
  guard : ∀ (i : Nat) (o : Oper), ops[i]? = some o → o.guard = none ∨ ∃ p d, o.guard = some p ∧ (p ∈ gl ∨ (p.1, !p.2) ∈ gl) ∧ dstAt ops p.1 = some d ∧ ∃ e ∈ o.after, Region.binds .any e = true ∧ e.on = p.1
  back : ∀ (i : Nat) (o : Oper), ops[i]? = some o → ∀ e ∈ o.after, Region.binds .any e = true → e.on < i
  deps : ∀ (i : Nat) (o : Oper), ops[i]? = some o → ∀ t, Operand.tmp t ∈ o.op.operands.toList → ∀ j, findDst ops.toList 0 t = some j → ∃ e ∈ o.after, Region.binds .any e = true ∧ e.on = j
theorem regionOk_spec {n : Nat} {gl : List (Nat × Bool)} (h : regionOkG ops n gl = true) : RegOk ops n gl := by
  unfold regionOkG at h
  rw [List.all_eq_true] at h
  have H : ∀ (i : Nat) (o : Oper), ops[i]? = some o → _ := fun i o ho => by
    have := h i (List.mem_range.2 (Array.getElem?_eq_some_iff.1 ho).1)
    rw [ho] at this
    exact this
  refine ⟨⟨fun i d hd => ?_, fun i j d hd hd' => ?_⟩, fun i o ho => ?_, fun i o ho e he hb => ?_, fun i o ho t ht j hj => ?_⟩
  · have hil := dstAt_lt hd
    have := H i _ (Array.getElem?_eq_getElem hil)
    have hd2 : (ops[i]'hil).dst = some d := by unfold dstAt at hd; rw [Array.getElem?_eq_getElem hil] at hd; exact hd
    simp only [hd2, Bool.and_eq_true, decide_eq_true_eq] at this
    exact this.1.1.2.1
  · have hil := dstAt_lt hd
    have := H i _ (Array.getElem?_eq_getElem hil)
    have hd2 : (ops[i]'hil).dst = some d := by unfold dstAt at hd; rw [Array.getElem?_eq_getElem hil] at hd; exact hd
    simp only [hd2, Bool.and_eq_true, List.all_eq_true, List.mem_range, Bool.or_eq_true, beq_iff_eq, bne_iff_ne] at this
    rcases this.1.1.2.2 j (dstAt_lt hd') with h1 | h1
    · exact h1.symm
    · exact absurd hd' h1
  · have := H i o ho
    simp only [Bool.and_eq_true] at this
    have h1 := this.1.1.1
    cases hg : o.guard with
    | none => exact .inl rfl
    | some p =>
      simp only [hg, Bool.and_eq_true, Bool.or_eq_true, List.any_eq_true, beq_iff_eq, List.contains_iff_mem] at h1
      obtain ⟨⟨h2, h3⟩, e, he, h4, h5⟩ := h1
      obtain ⟨d, hd⟩ := Option.isSome_iff_exists.1 h3
      exact .inr ⟨p, d, rfl, h2, hd, e, by simpa using he, h4, h5⟩
  · have := H i o ho
    simp only [Bool.and_eq_true, List.all_eq_true, Bool.or_eq_true, Bool.not_eq_true', decide_eq_true_eq] at this
    rcases this.1.2 e (by simpa using he) with h1 | h1
    · rw [hb] at h1; cases h1
    · exact h1
  · have := H i o ho
    simp only [Bool.and_eq_true] at this
    have h2 := List.all_eq_true.1 this.2 _ ht
    simp only [hj, List.any_eq_true, Bool.and_eq_true, beq_iff_eq] at h2
    obtain ⟨e, he, h3⟩ := h2
    exact ⟨e, by simpa using he, h3⟩
theorem wp_region_rgg (gl : List (Nat × Bool)) {id : Nat} {w : World} (hm : P.follows .mixedOrders = true) (hok : regionOkG ops a0.tmps.size gl = true) (hguard : ∀ p ∈ gl, ∀ v w, Post p.1 v w → v = .bool p.2)
    (hmono : ∀ c c' m w, WInv c m w → c ≤ c' → c' ≤ ops.size → WInv c' m w)
    (hstab : ∀ i v w1 w2, Post i v w1 → R w1 w2 → Post i v w2)
    (h0 : WInv 0 (fun _ => none) w.drew) (hstep : StepsAll gl P ops Q WInv R Post a0 ops.toList 0)
    (hend : ∀ m w', WInv ops.size m w' → AllVals Post m w' (fun a' => Q .normal a' w') ops.toList 0 a0) : (Code.region id ops true).wp P Q a0 w := by
  have ok := regionOk_spec hok
  refine wp_region_inv (Inv := fun listed a w => ∃ vs : Nat → Value, listed.size = ops.size ∧ a = putAll ops vs a0 (dones ops listed) ∧ WInv (dones ops listed).length (memo ops.size listed vs) w ∧ ∀ j ∈ dones ops listed, Post j (vs j) w) hm ?_ ?_ ?_
  · have hd : dones ops (Array.replicate ops.size false) = [] := by
      unfold dones
      rw [List.filter_eq_nil_iff]
      intro i hi
      simp only [List.mem_range] at hi
      simp [hi]
    refine ⟨fun _ => undef, by simp, ?_, ?_, ?_⟩
    · rw [hd]; rfl
    · have hm0 : memo ops.size (Array.replicate ops.size false) (fun _ => undef) = fun _ => none := by
        funext i
        unfold memo
        by_cases hi : i < ops.size <;> simp [hi]
      rw [hd, hm0]; exact h0
    · rw [hd]; intro j hj; cases hj
  · rintro listed a w i ⟨vs, hsz, rfl, hw, hp⟩ hi
    obtain ⟨hun, o, ho, hall⟩ := mem_ready.1 hi
    have hil : i < ops.size := (Array.getElem?_eq_some_iff.1 ho).1
    have hlil : i < listed.size := by omega
    have hni : i ∉ dones ops listed := fun hh => by
      have h2 := (dones_mem.1 hh).2
      simp [hlil] at hun h2
      rw [h2] at hun; cases hun
    have hmem : ∀ j, j ∈ dones ops (listed.setIfInBounds i true) ↔ j ∈ i :: dones ops listed := fun j => by
      rw [dones_mem, List.mem_cons, dones_mem]
      by_cases hij : i = j
      · subst hij; simp [hil, hlil]
      · rw [getD_set_ne false hij]
        constructor
        · exact .inr
        · rintro (rfl | h1)
          · exact absurd rfl hij
          · exact h1
    have hcl : (dones ops listed).length + 1 ≤ (dones ops (listed.setIfInBounds i true)).length := by
      unfold dones
      rw [← List.countP_eq_length_filter, ← List.countP_eq_length_filter]
      refine countP_less (fun j hj => getD_set_true hj) (i := i) (by simp [hlil]) ?_ (List.mem_range.2 hil)
      simp [hlil] at hun ⊢
      exact hun
    have hcu : (dones ops (listed.setIfInBounds i true)).length ≤ ops.size := by
      unfold dones
      exact Nat.le_trans (List.length_filter_le _ _) (by simp)
    have hst := StepsAll.at _ _ hstep i o (by rw [Array.getElem?_toList]; exact ho)
    rw [Nat.zero_add] at hst
    have hmn : memo ops.size listed vs i = none := if_neg fun hh => hni (dones_mem.2 hh)
    -- what follows, for a value and a world
    have hnext : ∀ v w', WInv ((dones ops listed).length + 1) (upd (memo ops.size listed vs) i v) w' → R w w' → Post i v w' →
        ∃ vs' : Nat → Value, (listed.setIfInBounds i true).size = ops.size ∧ (putAll ops vs a0 (dones ops listed)).put o.dst v = putAll ops vs' a0 (dones ops (listed.setIfInBounds i true)) ∧
          WInv (dones ops (listed.setIfInBounds i true)).length (memo ops.size (listed.setIfInBounds i true) vs') w' ∧ ∀ j ∈ dones ops (listed.setIfInBounds i true), Post j (vs' j) w' := by
      intro v w' hw' hR hpv
      have hdst : dstAt ops i = o.dst := by unfold dstAt; rw [ho]; rfl
      refine ⟨fun k => if k = i then v else vs k, by simpa using hsz, ?_, ?_, ?_⟩
      · have e1 : (putAll ops vs a0 (dones ops listed)).put o.dst v = putAll ops (fun k => if k = i then v else vs k) a0 (i :: dones ops listed) := by
          rw [putAll, hdst, if_pos rfl]
          congr 1
          exact putAll_ext ok.slots (fun _ => Iff.rfl) fun j hj => (if_neg (fun e : j = i => hni (by rw [← e]; exact hj))).symm
        rw [e1]
        exact putAll_ext ok.slots (fun j => (hmem j).symm) fun _ _ => rfl
      · have hme : memo ops.size (listed.setIfInBounds i true) (fun k => if k = i then v else vs k) = upd (memo ops.size listed vs) i v := by
          funext j
          unfold memo upd
          by_cases hji : j = i
          · subst hji; simp [hil, hlil]
          · rw [getD_set_ne false (Ne.symm hji)]
            simp only [hji, if_false]
        rw [hme]
        exact hmono _ _ _ _ hw' hcl hcu
      · intro j hj
        rcases List.mem_cons.1 ((hmem j).1 hj) with rfl | h1
        · simp only [if_true]; exact hpv
        · have hji : j ≠ i := fun e => hni (by rw [← e]; exact h1)
          simp only [hji, if_false]
          exact hstab _ _ _ _ (hp j h1) hR
    unfold wpOp
    rw [ho]
    simp only
    have hyield : ∀ q : Nat × Bool, ∀ d, dstAt ops q.1 = some d → (∃ e ∈ o.after, Region.binds .any e = true ∧ e.on = q.1) → q ∈ gl → yielded ops (putAll ops vs a0 (dones ops listed)).tmps q.1 = some q.2 := by
      rintro q d hd ⟨e, he, hb, heq⟩ hq
      have hdn : q.1 ∈ dones ops listed := dones_mem.2 ⟨dstAt_lt hd, by rw [← heq]; exact hall e he hb⟩
      have hv := hguard q hq _ _ (hp q.1 hdn)
      have hget := putAll_get (vs := vs) ok.slots hd _ hdn
      have hlt : d < (putAll ops vs a0 (dones ops listed)).tmps.size := by rw [putAll_size]; exact ok.slots.lt _ _ hd
      have hsome : (putAll ops vs a0 (dones ops listed)).tmps[d]? = some (.bool q.2) := by
        rw [Array.getD_eq_getD_getElem?, Array.getElem?_eq_getElem hlt] at hget
        rw [Array.getElem?_eq_getElem hlt]
        simp only [Option.getD_some] at hget
        rw [hget, hv]
      have hd' : (ops[q.1]?).bind (·.dst) = some d := hd
      unfold yielded
      rw [hd']
      simp only [Option.bind_some, hsome]
    have hrun : StepAt P ops Q WInv R Post a0 i o → Oper.wp P o (putAll ops vs a0 (dones ops listed)) w (fun a' w' => ∃ vs' : Nat → Value, (listed.setIfInBounds i true).size = ops.size ∧ a' = putAll ops vs' a0 (dones ops (listed.setIfInBounds i true)) ∧
          WInv (dones ops (listed.setIfInBounds i true)).length (memo ops.size (listed.setIfInBounds i true) vs') w' ∧ ∀ j ∈ dones ops (listed.setIfInBounds i true), Post j (vs' j) w') Q := by
      intro hst
      have hne : Needs ops Post (memo ops.size listed vs) a0 (putAll ops vs a0 (dones ops listed)) w o.op.operands.toList := needs_of ok.slots hp _ fun t ht j hj => by
        obtain ⟨e, he, hb, rfl⟩ := ok.deps i o ho t ht j hj
        have h1 := hall e he hb
        refine dones_mem.2 ⟨?_, h1⟩
        exact Nat.lt_trans (ok.back i o ho e he hb) hil
      refine Oper.wp_mono ?_ (hst _ _ _ _ (by omega) hw hmn hne)
      rintro a' w' ⟨v, rfl, hw', hR, hpv⟩
      exact hnext v w' hw' hR hpv
    unfold Step1 at hst
    rcases ok.guard i o ho with hg | ⟨q, d, hg, hq, hd, he⟩
    · rw [hg] at hst
      rw [if_pos (by simp [Region.wanted, hg])]
      exact .inl (hrun hst)
    · rw [hg] at hst
      simp only at hst
      by_cases hc : gl.contains q = true
      · rw [hc] at hst
        have hy := hyield q d hd he (by simpa using hc)
        obtain ⟨q1, q2⟩ := q
        simp only at hy
        rw [if_pos (by simp [Region.wanted, hg, hy])]
        exact .inl (hrun hst)
      · have hc' : gl.contains q = false := by simpa using hc
        rw [hc'] at hst
        have hq' : (q.1, !q.2) ∈ gl := by
          rcases hq with h1 | h1
          · exact absurd (by simpa using h1) hc
          · exact h1
        have hy := hyield (q.1, !q.2) d hd he hq'
        obtain ⟨q1, q2⟩ := q
        simp only at hy
        rw [if_neg (by simp [Region.wanted, hg, hy])]
        obtain ⟨h1, h2, h3⟩ := hst _ _ _ (by omega) hw hmn
        exact hnext undef w h1 h2 h3
  · rintro listed a w ⟨vs, hsz, rfl, hw, hp⟩ hr
    have hall : ∀ i, i < ops.size → listed.getD i false = true := by
      intro i
      induction i using Nat.strongRecOn with
      | ind i ih =>
        intro hil
        have hlil : i < listed.size := by omega
        by_cases hl : listed.getD i false = true
        · exact hl
        · have : i ∈ Region.ready .any ops listed := mem_ready.2 ⟨by simp [hlil] at hl ⊢; exact hl, _, Array.getElem?_eq_getElem hil, fun e he hb => by
            have hlt := ok.back i _ (Array.getElem?_eq_getElem hil) e he hb
            exact ih _ hlt (Nat.lt_trans hlt hil)⟩
          rw [hr] at this
          cases this
    have hmem : ∀ j, j ∈ dones ops listed ↔ j ∈ (List.range' 0 ops.toList.length).reverse := fun j => by
      rw [dones_mem, List.mem_reverse, List.mem_range'_1]
      simp only [Array.length_toList, Nat.zero_le, true_and, Nat.zero_add]
      exact ⟨fun h => h.1, fun h => ⟨h, hall j h⟩⟩
    have hcu : (dones ops listed).length ≤ ops.size := by
      unfold dones
      exact Nat.le_trans (List.length_filter_le _ _) (by simp)
    have h1 := AllVals.use (vs := vs) _ _ _ (hend _ w (hmono _ _ _ _ hw hcu (Nat.le_refl _))) fun k hk => by
      rw [Nat.zero_add]
      have hk' : k < ops.size := by simpa using hk
      exact ⟨if_pos ⟨hk', hall k hk'⟩, hp k (dones_mem.2 ⟨hk', hall k hk'⟩)⟩
    rw [seqPut_eq (ops := ops) _ _ _ (fun k o ho => by rw [Nat.zero_add]; unfold dstAt; rw [← Array.getElem?_toList, ho]; rfl)] at h1
    rwa [putAll_ext ok.slots hmem (fun _ _ => rfl)]
theorem wp_region_rg {id : Nat} {w : World} (hm : P.follows .mixedOrders = true) (hok : regionOk ops a0.tmps.size = true)
    (hmono : ∀ c c' m w, WInv c m w → c ≤ c' → c' ≤ ops.size → WInv c' m w)
    (hstab : ∀ i v w1 w2, Post i v w1 → R w1 w2 → Post i v w2)
    (h0 : WInv 0 (fun _ => none) w.drew) (hstep : StepsAll [] P ops Q WInv R Post a0 ops.toList 0)
    (hend : ∀ m w', WInv ops.size m w' → AllVals Post m w' (fun a' => Q .normal a' w') ops.toList 0 a0) : (Code.region id ops true).wp P Q a0 w :=
  wp_region_rgg [] hm hok (fun p hp => by cases hp) hmono hstab h0 hstep hend
end
end Go.Proofs.Ytpiojofmflfkkaa
/- Facts of a drawn region's operations, and how each kind of operation leaves its own. -/
namespace Go.Proofs.Ytpiojofmflfkkaa
open Go.RowKit
abbrev isPtr (g : Nat) : Value → World → Prop := fun v _ => v = .pointer (some ⟨g, 0, none⟩)
abbrev isNat (n : Nat) : Value → World → Prop := fun v _ => ∃ k : Nat, v = .int .i64 k ∧ k < n
abbrev isInt : Value → World → Prop := fun v _ => ∃ x : Int, v = .int .i64 x
/-- A block without bytes is no part of a code. -/
theorem Rdr.chgBox {w w' : World} {g N H : Nat} {T : TypeId} {z : Array Value} (h : Rdr w g N) (hc : Chg (· = H) w w') (hH : H ≠ g) (hb : Blk w H T z) (hz : ∀ v ∈ z, ∀ b : Int, v ≠ .int .u8 b) : Rdr w' g N := by
  obtain ⟨A, c, bs, p, hbl, hp, hn, hr, hx⟩ := h
  refine ⟨A, c, bs, p, hbl.chg hc (fun e => hH e.symm), hp, hn, fun k v hk => ?_, hx⟩
  obtain ⟨ad, e, hf, hcell⟩ := hr k v hk
  refine ⟨ad, e, hf, hc.cell hcell fun he => ?_⟩
  have hs := World.cell?_spot hcell
  rw [block_add] at he
  obtain ⟨q, hq⟩ : ∃ q, ad.add k = ⟨H, q, none⟩ := by
    refine ⟨(ad.add k).off, ?_⟩
    have hbk : (ad.add k).block = H := by rw [block_add]; exact he
    cases hh : ad.add k with
    | mk b o sp =>
      rw [hh] at hs hbk
      simp only at hs hbk
      rw [hs, hbk]
  rw [hq, hb.cell] at hcell
  have hv : ∃ b : Int, v = .int .u8 b := by
    rw [List.getElem?_map] at hk
    cases hb' : bs[k]? with
    | none => rw [hb'] at hk; cases hk
    | some b => rw [hb'] at hk; simp at hk; exact ⟨b, hk.symm⟩
  obtain ⟨b, rfl⟩ := hv
  exact hz _ (Array.mem_of_getElem? hcell) b rfl
section
variable {P : Program} {o : Oper} {a : Act} {w w' : World} {Q : Exit → Act → World → Prop} {WInv : Nat → (Nat → Option Value) → World → Prop} {R : World → World → Prop} {Post : Nat → Value → World → Prop} {c i : Nat} {m : Nat → Option Value} {dst : Option Tmp}
theorem rg_val {v : Value} (hr : (execOp a.eval o).run P w = .ok (.value v) w') (hd : o.dst = dst) (hw : WInv (c + 1) (upd m i v) w') (hR : R w w') (hp : Post i v w') : Oper.wp P o a w (Aft WInv R Post c m i dst a w) Q := by
  unfold Oper.wp
  rw [hr]
  exact ⟨v, by rw [hd], hw, hR, hp⟩
theorem rg_skip (hr : (execOp a.eval o).run P w = .ok .skip w') (hd : o.dst = dst) (hw : WInv (c + 1) (upd m i undef) w') (hR : R w w') (hp : Post i undef w') : Oper.wp P o a w (Aft WInv R Post c m i dst a w) Q := by
  unfold Oper.wp
  rw [hr]
  exact ⟨undef, by rw [hd], hw, hR, hp⟩
theorem rg_call {f : FuncId} {args : Array Value} (hr : (execOp a.eval o).run P w = .ok (.enter f args) w) (hd : o.dst = dst)
    (h : Calls P f args w fun e w' => ∃ v, e = .returned v ∧ WInv (c + 1) (upd m i v) w' ∧ R w w' ∧ Post i v w') : Oper.wp P o a w (Aft WInv R Post c m i dst a w) Q := by
  unfold Oper.wp
  rw [hr]
  refine Calls.mono h ?_
  rintro e w'' ⟨v, rfl, hw, hR, hp⟩
  exact ⟨v, by rw [hd], hw, hR, hp⟩
end
end Go.Proofs.Ytpiojofmflfkkaa
/- append, where what is appended may be nil. -/
namespace Go.Proofs.Ytpiojofmflfkkaa
open Go.RowKit
section
variable {P : Program}
theorem run_append_zero (w : World) (t ty e : TypeId) (i : TypeInfo) (ht : P.underlying t = some (.slice e)) (hi : P.info? e = some i) (b : Option Addr) (n c : Nat) (h : n ≤ c) (A : Option Addr) (d : Nat) :
    (Builtin.append_ #[t, t] ty #[.slice b n c, .slice A 0 d]).run P w = .ok (.slice b n c) w := by
  cases A with
  | none => cases b <;> simp [Builtin.append_, run_underlying ht, sizeOf, typeInfo, hi, Builtin.lenOf, h, storeCells, Builtin.firstCells]
  | some ad =>
    have hfc := run_firstCells_some (P := P) w i.size 0 ad 0 d [] (by simp) (fun j u hj => by simp at hj)
    cases b <;> simp [Builtin.append_, run_underlying ht, sizeOf, typeInfo, hi, Builtin.lenOf, h, storeCells, hfc]
theorem run_append_rd {F : Nat → Prop} (w : World) (base : Nat) (t ty e : TypeId) (i : TypeInfo) (z : Value) (size bytes : Nat) (ht : P.underlying t = some (.slice e)) (hi : P.info? e = some i) (hz : i.zero = some z)
    (hsize : i.size = size) (hby : i.bytes = bytes) (hzs : z.cells.size = size) (hsz : 0 < size)
    (v : Value) (n : Nat) (xs : List Value) (hown : w.ownsRow base e size v n xs)
    (A : Option Addr) (m c : Nat) (news : List Value) (hl : news.length = m * size) (hrd : Rd F w A news) (h1 : ∀ u ∈ news, u.oneCell' = true)
    (h63 : n + m ≤ maxLen) (hbytes : (n + m) * bytes ≤ 140737488355328) (hbase : base ≤ w.heap.size) :
    ∃ v' w', (Builtin.append_ #[t, t] ty #[v, .slice A m c]).run P w = .ok v' w' ∧ w'.ownsRow base e size v' (n + m) (xs ++ news) ∧ w.grownBy w' v.ownBlock ∧
      (v' = .slice none 0 0 ↔ v = .slice none 0 0 ∧ m = 0) := by
  by_cases hm : m = 0
  · subst hm
    have hn : news = [] := List.eq_nil_of_length_eq_zero (by simpa using hl)
    subst hn
    obtain ⟨B, d, rfl, hnd, _⟩ := own_rd hown
    refine ⟨_, _, run_append_zero w t ty e i ht hi B n d hnd A c, by simpa using hown, ⟨rfl, rfl, rfl, Nat.le_refl _, fun _ _ _ => rfl⟩, by simp⟩
  · have h0 : 0 < news.length := by rw [hl]; exact Nat.mul_pos (Nat.pos_of_ne_zero hm) hsz
    obtain ⟨ad, rfl, _⟩ := hrd.at_ h0
    refine run_append_own (P := P) w base t ty e i z size bytes ht hi hz hsize hby hzs hsz v n xs hown ad m c news hl (fun j u hj => ?_) h1 h63 hbytes hbase
    obtain ⟨ad', e1, _, hc⟩ := hrd j u hj
    cases e1
    exact hc
/-- 'append(T{}, x...)': onto a new slice of no cells; no old block turns. -/
theorem run_append_fresh {F : Nat → Prop} (w : World) (base : Nat) (t ty e : TypeId) (i : TypeInfo) (z : Value) (size bytes : Nat) (ht : P.underlying t = some (.slice e)) (hi : P.info? e = some i) (hz : i.zero = some z)
    (hsize : i.size = size) (hby : i.bytes = bytes) (hzs : z.cells.size = size) (hsz : 0 < size) (g : Nat) (hg : base ≤ g) (hb : Blk w g e #[])
    (A : Option Addr) (m c : Nat) (news : List Value) (hl : news.length = m * size) (hrd : Rd F w A news) (h63 : m ≤ maxLen) (hbytes : m * bytes ≤ 140737488355328) (hbase : base ≤ w.heap.size) :
    ∃ v' w', (Builtin.append_ #[t, t] ty #[.slice (some ⟨g, 0, none⟩) 0 0, .slice A m c]).run P w = .ok v' w' ∧ w'.ownsRow base e size v' m news ∧ Chg NoB w w' ∧ v' ≠ .slice none 0 0 := by
  by_cases hm : m = 0
  · subst hm
    have hn : news = [] := List.eq_nil_of_length_eq_zero (by simpa using hl)
    subst hn
    exact ⟨_, _, run_append_zero w t ty e i ht hi _ 0 0 (Nat.le_refl _) A c, ⟨by simp, .inr ⟨g, 0, #[], rfl, hg, hb, Nat.le_refl _, Nat.zero_le _, by simp, by simp⟩⟩, Chg.refl _ _, by simp⟩
  · have h0 : 0 < news.length := by rw [hl]; exact Nat.mul_pos (Nat.pos_of_ne_zero hm) hsz
    obtain ⟨ad, rfl, _⟩ := hrd.at_ h0
    obtain ⟨v', w', hr, ho, hgr⟩ := run_append_arg_grows (P := P) w t ty e i z size bytes ht hi hz hsize hby hzs hsz ⟨g, 0, none⟩ 0 0 [] (by simp) (fun j u hj => by simp at hj) ad m c news hl (fun j u hj => by
      obtain ⟨ad', e1, _, hc⟩ := hrd j u hj
      cases e1
      exact hc) (by omega) (by omega) (by rw [Nat.zero_add]; exact hbytes)
    rw [Nat.zero_add, List.nil_append] at ho
    refine ⟨v', w', hr, ?_, (Chg.refl NoB w).grown hgr (fun k hk => by cases hk), fun e1 => ?_⟩
    · obtain ⟨h1, h2⟩ := ho
      refine ⟨h1, ?_⟩
      rcases h2 with h2 | ⟨g', cap, cur, h3, h4, h5⟩
      · exact .inl h2
      · exact .inr ⟨g', cap, cur, h3, Nat.le_trans hbase h4, h5⟩
    · subst e1
      have := ho.1
      rcases ho.2 with ⟨_, h2⟩ | ⟨g', cap, cur, h3, _⟩
      · exact hm h2
      · cases h3
/-- The operation's run, for a drawn region. -/
theorem exec_append {o : Oper} {a : Act} {w w' : World} {v v' u : Value} (s x : Operand) (t : TypeId) (ho : o.op = .call { callee := .builtin .append, args := #[s, x], argTypes := #[t, t] })
    (hs : a.eval s = v) (hx : a.eval x = u) (hr : (Builtin.append_ #[t, t] o.type #[v, u]).run P w = .ok v' w') : (execOp a.eval o).run P w = .ok (.value v') w' := by
  unfold execOp
  simp only [ho, resolve, invoke, builtin, Sem.run_bind, Sem.run_pure, Result.andThen_ok, List.map_toArray, List.map_cons, List.map_nil, hs, hx, hr]
theorem wpList_append_rd {F : Nat → Prop} {w : World} {ops : Array Oper} {rest : List Oper} {o : Oper} {a : Act} {Q : Exit → Act → World → Prop} (hgd : o.guard = none) (s x : Operand) (t : TypeId)
    (ho : o.op = .call { callee := .builtin .append, args := #[s, x], argTypes := #[t, t] })
    (base : Nat) (e : TypeId) (i : TypeInfo) (z : Value) (size bytes : Nat) (ht : P.underlying t = some (.slice e)) (hi : P.info? e = some i) (hz : i.zero = some z)
    (hsize : i.size = size) (hby : i.bytes = bytes) (hzs : z.cells.size = size) (hsz : 0 < size)
    (v : Value) (n : Nat) (xs : List Value) (hs : a.eval s = v) (hown : w.ownsRow base e size v n xs)
    (A : Option Addr) (m c : Nat) (news : List Value) (hx : a.eval x = .slice A m c) (hl : news.length = m * size) (hrd : Rd F w A news) (h1 : ∀ u ∈ news, u.oneCell' = true)
    (h63 : n + m ≤ maxLen) (hbytes : (n + m) * bytes ≤ 140737488355328) (hbase : base ≤ w.heap.size)
    (h : ∀ v' w', w'.ownsRow base e size v' (n + m) (xs ++ news) → w.grownBy w' v.ownBlock → (v' = .slice none 0 0 ↔ v = .slice none 0 0 ∧ m = 0) → wpList P ops Q rest (a.put o.dst v') w') : wpList P ops Q (o :: rest) a w :=
  wpList_plain hgd fun K hK => by
    obtain ⟨v', w', hr, h2, h3, h4⟩ := run_append_rd (P := P) w base t o.type e i z size bytes ht hi hz hsize hby hzs hsz v n xs hown A m c news hl hrd h1 h63 hbytes hbase
    have hex := exec_append (P := P) (o := o) (a := a) s x t ho hs hx hr
    unfold Oper.wp
    rw [hex]
    exact hK _ _ (h v' w' h2 h3 h4)
end
end Go.Proofs.Ytpiojofmflfkkaa
/- A variable that a drawn region makes and stores into: its block, by the operations that are done. -/
namespace Go.Proofs.Ytpiojofmflfkkaa
open Go.RowKit
theorem Blk.sameTy {w : World} {g : Nat} {t t' : TypeId} {cs cs' : Array Value} (h : Blk w g t cs) (h' : Blk w g t' cs') : t = t' := by
  unfold Blk at h h'
  rw [h] at h'
  injection h' with h'
  injection h'
/-- What a drawn region may turn: blocks of G, and new boxes of type T. -/
def RBox (G : Nat → Prop) (B : Nat) (T : TypeId) (w w' : World) : Prop := Chg (fun k => G k ∨ (B ≤ k ∧ ∃ cs, Blk w k T cs)) w w'
section
variable {G F : Nat → Prop} {B : Nat} {T : TypeId} {w w' : World}
theorem RBox.of (hc : Chg F w w') (h : ∀ k, F k → G k) : RBox G B T w w' := hc.mono fun k _ hk => .inl (h k hk)
theorem RBox.chg (h : RBox G B T w w') : Chg (fun k => G k ∨ B ≤ k) w w' := Chg.mono h fun _ _ hk => hk.imp id (fun x => x.1)
theorem RBox.blk (h : RBox G B T w w') {b : Nat} {t : TypeId} {cs : Array Value} (hb : Blk w b t cs) (hg : ¬ G b) (ht : b < B ∨ t ≠ T) : Blk w' b t cs := hb.chg h (by
  rintro (h1 | ⟨h1, cs', h2⟩)
  · exact hg h1
  · rcases ht with h3 | h3
    · omega
    · exact h3 (hb.sameTy h2))
theorem RBox.box {bx : Nat} {cs : Array Value} (hc : Chg (· = bx) w w') (hB : B ≤ bx) (hb : Blk w bx T cs) : RBox G B T w w' := hc.mono fun k _ hk => by
  have hk' : k = bx := hk
  subst hk'
  exact .inr ⟨hB, cs, hb⟩
theorem own_ne_box {n size : Nat} {e : TypeId} {v : Value} {xs : List Value} {bx : Nat} {cs : Array Value} (h : w.ownsRow B e size v n xs) (hb : Blk w bx T cs) (ht : e ≠ T) : some bx ≠ v.ownBlock := fun he => by
  rcases h.2 with ⟨rfl, _⟩ | ⟨g, cap, cur, rfl, _, hg, _⟩
  · cases he
  · have he' : bx = g := by simpa [Value.ownBlock] using he
    subst he'
    exact ht (Blk.sameTy (show Blk w bx e cur from hg) hb)
theorem chg_row {row : Option Nat} (h : w.grownBy w' row) : Chg (fun k => some k = row) w w' := (Chg.refl (fun k => some k = row) w).grown h (fun _ hk => .inl hk.symm)
theorem own_chg1 {n size : Nat} {e : TypeId} {v : Value} {xs : List Value} (h : w.ownsRow B e size v n xs) (hc : Chg F w w') (hf : ∀ g cs, B ≤ g → Blk w g e cs → ¬ F g) : w'.ownsRow B e size v n xs := by
  obtain ⟨hl, h⟩ := h
  refine ⟨hl, ?_⟩
  rcases h with h | ⟨g, cap, cur, rfl, hb, hg, hr⟩
  · exact .inl h
  · exact .inr ⟨g, cap, cur, rfl, hb, (hc.block g (Array.getElem?_eq_some_iff.1 hg).1 (hf g cur hb hg)).trans hg, hr⟩
end
/-- The box that operation ai makes with the cells z, and into which operation si stores the value of operation vi. -/
def BoxI (B : Nat) (T : TypeId) (z : Array Value) (ai si vi : Nat) (m : Nat → Option Value) (w : World) : Prop :=
  (m si ≠ none → m ai ≠ none) ∧ ∀ p, m ai = some p → ∃ bx, p = .pointer (some ⟨bx, 0, none⟩) ∧ B ≤ bx ∧ ((m si = none ∧ Blk w bx T z) ∨ (m si ≠ none ∧ ∃ u, m vi = some u ∧ Blk w bx T u.cells))
section
variable {B : Nat} {T : TypeId} {z : Array Value} {ai si vi i : Nat} {m : Nat → Option Value} {F : Nat → Prop} {w w' : World} {v : Value}
theorem BoxI.start : BoxI B T z ai si vi (fun _ => none) w := ⟨fun h => absurd rfl h, fun p hp => by cases hp⟩
theorem BoxI.keep (h : BoxI B T z ai si vi m w) (ha : i ≠ ai) (hs : i ≠ si) (hm : m i = none) (hc : Chg F w w') (hF : ∀ k, B ≤ k → ¬ F k) : BoxI B T z ai si vi (upd m i v) w' := by
  have e1 : upd m i v ai = m ai := if_neg (Ne.symm ha)
  have e2 : upd m i v si = m si := if_neg (Ne.symm hs)
  refine ⟨by rw [e1, e2]; exact h.1, fun p hp => ?_⟩
  rw [e1] at hp
  obtain ⟨bx, rfl, hB, hr⟩ := h.2 p hp
  refine ⟨bx, rfl, hB, ?_⟩
  rw [e2]
  rcases hr with ⟨h1, h2⟩ | ⟨h1, u, h2, h3⟩
  · exact .inl ⟨h1, h2.chg hc (hF bx hB)⟩
  · refine .inr ⟨h1, u, ?_, h3.chg hc (hF bx hB)⟩
    have : vi ≠ i := fun e => by rw [e, hm] at h2; cases h2
    unfold upd; rw [if_neg this]; exact h2
theorem BoxI.alloc (h : BoxI B T z ai si vi m w) (hsi : si ≠ ai) (hm : m ai = none) (hB : B ≤ w.heap.size) : BoxI B T z ai si vi (upd m ai (.pointer (some ⟨w.heap.size, 0, none⟩))) (w.alloc (.cells z T)) := by
  have hs : m si = none := by
    cases hh : m si with
    | none => rfl
    | some u => exact absurd hm (h.1 (by rw [hh]; simp))
  have e1 : upd m ai (.pointer (some ⟨w.heap.size, 0, none⟩)) ai = some (.pointer (some ⟨w.heap.size, 0, none⟩)) := if_pos rfl
  have e2 : upd m ai (.pointer (some ⟨w.heap.size, 0, none⟩)) si = none := by unfold upd; rw [if_neg hsi]; exact hs
  refine ⟨fun hh => absurd e2 hh, fun p hp => ?_⟩
  rw [e1] at hp
  cases hp
  exact ⟨_, rfl, hB, .inl ⟨e2, Blk.new _ _ _⟩⟩
/-- What is known when the store's turn has come. -/
theorem BoxI.ready (h : BoxI B T z ai si vi m w) (hm : m si = none) {p : Value} (hp : m ai = some p) : ∃ bx, p = .pointer (some ⟨bx, 0, none⟩) ∧ B ≤ bx ∧ Blk w bx T z := by
  obtain ⟨bx, rfl, hB, hr⟩ := h.2 p hp
  rcases hr with ⟨_, h2⟩ | ⟨h1, _⟩
  · exact ⟨bx, rfl, hB, h2⟩
  · exact absurd hm h1
theorem BoxI.store {bx : Nat} {u x : Value} (hsi : si ≠ ai) (hvi : vi ≠ si) (hp : m ai = some (.pointer (some ⟨bx, 0, none⟩))) (hB : B ≤ bx) (hu : m vi = some u) (hb : Blk w' bx T u.cells) : BoxI B T z ai si vi (upd m si x) w' := by
  have e1 : upd m si x ai = m ai := if_neg (Ne.symm hsi)
  have e2 : upd m si x si = some x := if_pos rfl
  have e3 : upd m si x vi = m vi := if_neg hvi
  refine ⟨fun _ => by rw [e1, hp]; simp, fun p hp' => ?_⟩
  rw [e1, hp] at hp'
  cases hp'
  exact ⟨bx, rfl, hB, .inr ⟨by rw [e2]; simp, u, by rw [e3]; exact hu, hb⟩⟩
theorem BoxI.done (h : BoxI B T z ai si vi m w) {p x u : Value} (hp : m ai = some p) (hs : m si = some x) (hu : m vi = some u) : ∃ bx, p = .pointer (some ⟨bx, 0, none⟩) ∧ B ≤ bx ∧ Blk w bx T u.cells := by
  obtain ⟨bx, rfl, hB, hr⟩ := h.2 p hp
  rcases hr with ⟨h1, _⟩ | ⟨_, u', h2, h3⟩
  · rw [hs] at h1; cases h1
  · rw [hu] at h2; cases h2; exact ⟨bx, rfl, hB, h3⟩
end
/-- A block that lay before, into which operation si stores the value of operation vi. -/
def StI (H : Nat) (T : TypeId) (z : Array Value) (si vi : Nat) (m : Nat → Option Value) (w : World) : Prop :=
  (m si = none ∧ Blk w H T z) ∨ (m si ≠ none ∧ ∃ u, m vi = some u ∧ Blk w H T u.cells)
section
variable {H : Nat} {T : TypeId} {z : Array Value} {si vi i : Nat} {m : Nat → Option Value} {F : Nat → Prop} {w w' : World} {v : Value}
theorem StI.keep (h : StI H T z si vi m w) (hs : i ≠ si) (hm : m i = none) (hc : Chg F w w') (hF : ¬ F H) : StI H T z si vi (upd m i v) w' := by
  have e2 : upd m i v si = m si := if_neg (Ne.symm hs)
  unfold StI
  rw [e2]
  rcases h with ⟨h1, h2⟩ | ⟨h1, u, h2, h3⟩
  · exact .inl ⟨h1, h2.chg hc hF⟩
  · refine .inr ⟨h1, u, ?_, h3.chg hc hF⟩
    have : vi ≠ i := fun e => by rw [e, hm] at h2; cases h2
    unfold upd; rw [if_neg this]; exact h2
theorem StI.ready (h : StI H T z si vi m w) (hm : m si = none) : Blk w H T z := by
  rcases h with ⟨_, h2⟩ | ⟨h1, _⟩
  · exact h2
  · exact absurd hm h1
theorem StI.store {u x : Value} (hvi : vi ≠ si) (hu : m vi = some u) (hb : Blk w' H T u.cells) : StI H T z si vi (upd m si x) w' :=
  .inr ⟨by unfold upd; simp, u, by unfold upd; rw [if_neg hvi]; exact hu, hb⟩
theorem StI.done (h : StI H T z si vi m w) {x u : Value} (hs : m si = some x) (hu : m vi = some u) : Blk w H T u.cells := by
  rcases h with ⟨h1, _⟩ | ⟨_, u', h2, h3⟩
  · rw [hs] at h1; cases h1
  · rw [hu] at h2; cases h2; exact h3
end
end Go.Proofs.Ytpiojofmflfkkaa
/- Facts of a drawn region's operations, given as a list. -/
namespace Go.Proofs.Ytpiojofmflfkkaa
def PL (ps : List (Value → World → Prop)) (i : Nat) (v : Value) (w : World) : Prop := (ps.getD i fun _ _ => True) v w
def PLs (R : World → World → Prop) : List (Value → World → Prop) → Prop
  | [] => True
  | p :: ps => (∀ v w1 w2, p v w1 → R w1 w2 → p v w2) ∧ PLs R ps
theorem pl_stab {R : World → World → Prop} : ∀ {ps : List (Value → World → Prop)}, PLs R ps → ∀ i v w1 w2, PL ps i v w1 → R w1 w2 → PL ps i v w2
  | [], _, _, _, _, _, _, _ => trivial
  | _ :: _, h, 0, v, w1, w2, hp, hr => h.1 v w1 w2 hp hr
  | _ :: _, h, i + 1, v, w1, w2, hp, hr => pl_stab h.2 i v w1 w2 hp hr
end Go.Proofs.Ytpiojofmflfkkaa
/- A region that draws its order, with guards within guards: each guard's operation is known to give true, false, or nothing (it was passed over). -/
namespace Go.Proofs.Ytpiojofmflfkkaa
def boolOf : Value → Option Bool
  | .bool b => some b
  | _ => none
def regionOkO (ops : Array Oper) (n : Nat) (gl : List (Nat × Option Bool)) : Bool :=
  (List.range ops.size).all fun i => match ops[i]? with
    | none => true
    | some o => (match o.guard with | none => true | some p => (gl.lookup p.1).isSome && (dstAt ops p.1).isSome && o.after.toList.any fun e => Region.binds .any e && e.on == p.1)
      && (match o.dst with | none => true | some d => decide (d < n) && (List.range ops.size).all fun j => j == i || dstAt ops j != some d)
      && (o.after.toList.all fun e => !Region.binds .any e || decide (e.on < i))
      && (o.op.operands.toList.all fun x => match x with
          | .tmp t => (match findDst ops.toList 0 t with | none => true | some j => o.after.toList.any fun e => Region.binds .any e && e.on == j)
          | _ => true)
def Step1O (gl : List (Nat × Option Bool)) (P : Program) (ops : Array Oper) (Q : Exit → Act → World → Prop) (WInv : Nat → (Nat → Option Value) → World → Prop) (R : World → World → Prop) (Post : Nat → Value → World → Prop) (a0 : Act) (i : Nat) (o : Oper) : Prop :=
  match o.guard with
  | none => StepAt P ops Q WInv R Post a0 i o
  | some p => match gl.lookup p.1 == some (some p.2) with
    | true => StepAt P ops Q WInv R Post a0 i o
    | false => SkipAt ops WInv R Post i
def StepsAllO (gl : List (Nat × Option Bool)) (P : Program) (ops : Array Oper) (Q : Exit → Act → World → Prop) (WInv : Nat → (Nat → Option Value) → World → Prop) (R : World → World → Prop) (Post : Nat → Value → World → Prop) (a0 : Act) : List Oper → Nat → Prop
  | [], _ => True
  | o :: os, i => Step1O gl P ops Q WInv R Post a0 i o ∧ StepsAllO gl P ops Q WInv R Post a0 os (i + 1)
/-- The values that are known; of another nothing is said. -/
def PV (vs : List (Option Value)) (i : Nat) (v : Value) (_ : World) : Prop := match vs.getD i none with
  | some u => v = u
  | none => True
section
variable {P : Program} {ops : Array Oper} {Q : Exit → Act → World → Prop} {WInv : Nat → (Nat → Option Value) → World → Prop} {R : World → World → Prop} {Post : Nat → Value → World → Prop} {a0 : Act} {vs : Nat → Value}
theorem StepsAllO.at {gl : List (Nat × Option Bool)} : ∀ (os : List Oper) (i : Nat), StepsAllO gl P ops Q WInv R Post a0 os i → ∀ k o, os[k]? = some o → Step1O gl P ops Q WInv R Post a0 (i + k) o
  | [], _, _, k, o, ho => by simp at ho
  | o :: os, i, h, k, o', ho => by
    cases k with
    | zero => simp at ho; subst ho; exact h.1
    | succ k =>
      have := StepsAllO.at os (i + 1) h.2 k o' (by simpa using ho)
      rwa [Nat.add_assoc, Nat.add_comm 1 k] at this
structure RegOkO (ops : Array Oper) (n : Nat) (gl : List (Nat × Option Bool)) : Prop where
  slots : SlotsOk ops n
  guard : ∀ (i : Nat) (o : Oper), ops[i]? = some o → o.guard = none ∨ ∃ p b d, o.guard = some p ∧ gl.lookup p.1 = some b ∧ dstAt ops p.1 = some d ∧ ∃ e ∈ o.after, Region.binds .any e = true ∧ e.on = p.1
  back : ∀ (i : Nat) (o : Oper), ops[i]? = some o → ∀ e ∈ o.after, Region.binds .any e = true → e.on < i
  deps : ∀ (i : Nat) (o : Oper), ops[i]? = some o → ∀ t, Operand.tmp t ∈ o.op.operands.toList → ∀ j, findDst ops.toList 0 t = some j → ∃ e ∈ o.after, Region.binds .any e = true ∧ e.on = j
theorem regionOkO_spec {n : Nat} {gl : List (Nat × Option Bool)} (h : regionOkO ops n gl = true) : RegOkO ops n gl := by
  unfold regionOkO at h
  rw [List.all_eq_true] at h
  have H : ∀ (i : Nat) (o : Oper), ops[i]? = some o → _ := fun i o ho => by
    have := h i (List.mem_range.2 (Array.getElem?_eq_some_iff.1 ho).1)
    rw [ho] at this
    exact this
  refine ⟨⟨fun i d hd => ?_, fun i j d hd hd' => ?_⟩, fun i o ho => ?_, fun i o ho e he hb => ?_, fun i o ho t ht j hj => ?_⟩
  · have hil := dstAt_lt hd
    have := H i _ (Array.getElem?_eq_getElem hil)
    have hd2 : (ops[i]'hil).dst = some d := by unfold dstAt at hd; rw [Array.getElem?_eq_getElem hil] at hd; exact hd
    simp only [hd2, Bool.and_eq_true, decide_eq_true_eq] at this
    exact this.1.1.2.1
  · have hil := dstAt_lt hd
    have := H i _ (Array.getElem?_eq_getElem hil)
    have hd2 : (ops[i]'hil).dst = some d := by unfold dstAt at hd; rw [Array.getElem?_eq_getElem hil] at hd; exact hd
    simp only [hd2, Bool.and_eq_true, List.all_eq_true, List.mem_range, Bool.or_eq_true, beq_iff_eq, bne_iff_ne] at this
    rcases this.1.1.2.2 j (dstAt_lt hd') with h1 | h1
    · exact h1.symm
    · exact absurd hd' h1
  · have := H i o ho
    simp only [Bool.and_eq_true] at this
    have h1 := this.1.1.1
    cases hg : o.guard with
    | none => exact .inl rfl
    | some p =>
      simp only [hg, Bool.and_eq_true, List.any_eq_true, beq_iff_eq] at h1
      obtain ⟨⟨h2, h3⟩, e, he, h4, h5⟩ := h1
      obtain ⟨d, hd⟩ := Option.isSome_iff_exists.1 h3
      obtain ⟨b, hb⟩ := Option.isSome_iff_exists.1 h2
      exact .inr ⟨p, b, d, rfl, hb, hd, e, by simpa using he, h4, h5⟩
  · have := H i o ho
    simp only [Bool.and_eq_true, List.all_eq_true, Bool.or_eq_true, Bool.not_eq_true', decide_eq_true_eq] at this
    rcases this.1.2 e (by simpa using he) with h1 | h1
    · rw [hb] at h1; cases h1
    · exact h1
  · have := H i o ho
    simp only [Bool.and_eq_true] at this
    have h2 := List.all_eq_true.1 this.2 _ ht
    simp only [hj, List.any_eq_true, Bool.and_eq_true, beq_iff_eq] at h2
    obtain ⟨e, he, h3⟩ := h2
    exact ⟨e, by simpa using he, h3⟩
theorem wp_region_ro (gl : List (Nat × Option Bool)) {id : Nat} {w : World} (hm : P.follows .mixedOrders = true) (hok : regionOkO ops a0.tmps.size gl = true) (hguard : ∀ i b, gl.lookup i = some b → ∀ v w, Post i v w → boolOf v = b)
    (hmono : ∀ c c' m w, WInv c m w → c ≤ c' → c' ≤ ops.size → WInv c' m w)
    (hstab : ∀ i v w1 w2, Post i v w1 → R w1 w2 → Post i v w2)
    (h0 : WInv 0 (fun _ => none) w.drew) (hstep : StepsAllO gl P ops Q WInv R Post a0 ops.toList 0)
    (hend : ∀ m w', WInv ops.size m w' → AllVals Post m w' (fun a' => Q .normal a' w') ops.toList 0 a0) : (Code.region id ops true).wp P Q a0 w := by
  have ok := regionOkO_spec hok
  refine wp_region_inv (Inv := fun listed a w => ∃ vs : Nat → Value, listed.size = ops.size ∧ a = putAll ops vs a0 (dones ops listed) ∧ WInv (dones ops listed).length (memo ops.size listed vs) w ∧ ∀ j ∈ dones ops listed, Post j (vs j) w) hm ?_ ?_ ?_
  · have hd : dones ops (Array.replicate ops.size false) = [] := by
      unfold dones
      rw [List.filter_eq_nil_iff]
      intro i hi
      simp only [List.mem_range] at hi
      simp [hi]
    refine ⟨fun _ => undef, by simp, ?_, ?_, ?_⟩
    · rw [hd]; rfl
    · have hm0 : memo ops.size (Array.replicate ops.size false) (fun _ => undef) = fun _ => none := by
        funext i
        unfold memo
        by_cases hi : i < ops.size <;> simp [hi]
      rw [hd, hm0]; exact h0
    · rw [hd]; intro j hj; cases hj
  · rintro listed a w i ⟨vs, hsz, rfl, hw, hp⟩ hi
    obtain ⟨hun, o, ho, hall⟩ := mem_ready.1 hi
    have hil : i < ops.size := (Array.getElem?_eq_some_iff.1 ho).1
    have hlil : i < listed.size := by omega
    have hni : i ∉ dones ops listed := fun hh => by
      have h2 := (dones_mem.1 hh).2
      simp [hlil] at hun h2
      rw [h2] at hun; cases hun
    have hmem : ∀ j, j ∈ dones ops (listed.setIfInBounds i true) ↔ j ∈ i :: dones ops listed := fun j => by
      rw [dones_mem, List.mem_cons, dones_mem]
      by_cases hij : i = j
      · subst hij; simp [hil, hlil]
      · rw [getD_set_ne false hij]
        constructor
        · exact .inr
        · rintro (rfl | h1)
          · exact absurd rfl hij
          · exact h1
    have hcl : (dones ops listed).length + 1 ≤ (dones ops (listed.setIfInBounds i true)).length := by
      unfold dones
      rw [← List.countP_eq_length_filter, ← List.countP_eq_length_filter]
      refine countP_less (fun j hj => getD_set_true hj) (i := i) (by simp [hlil]) ?_ (List.mem_range.2 hil)
      simp [hlil] at hun ⊢
      exact hun
    have hcu : (dones ops (listed.setIfInBounds i true)).length ≤ ops.size := by
      unfold dones
      exact Nat.le_trans (List.length_filter_le _ _) (by simp)
    have hst := StepsAllO.at _ _ hstep i o (by rw [Array.getElem?_toList]; exact ho)
    rw [Nat.zero_add] at hst
    have hmn : memo ops.size listed vs i = none := if_neg fun hh => hni (dones_mem.2 hh)
    -- what follows, for a value and a world
    have hnext : ∀ v w', WInv ((dones ops listed).length + 1) (upd (memo ops.size listed vs) i v) w' → R w w' → Post i v w' →
        ∃ vs' : Nat → Value, (listed.setIfInBounds i true).size = ops.size ∧ (putAll ops vs a0 (dones ops listed)).put o.dst v = putAll ops vs' a0 (dones ops (listed.setIfInBounds i true)) ∧
          WInv (dones ops (listed.setIfInBounds i true)).length (memo ops.size (listed.setIfInBounds i true) vs') w' ∧ ∀ j ∈ dones ops (listed.setIfInBounds i true), Post j (vs' j) w' := by
      intro v w' hw' hR hpv
      have hdst : dstAt ops i = o.dst := by unfold dstAt; rw [ho]; rfl
      refine ⟨fun k => if k = i then v else vs k, by simpa using hsz, ?_, ?_, ?_⟩
      · have e1 : (putAll ops vs a0 (dones ops listed)).put o.dst v = putAll ops (fun k => if k = i then v else vs k) a0 (i :: dones ops listed) := by
          rw [putAll, hdst, if_pos rfl]
          congr 1
          exact putAll_ext ok.slots (fun _ => Iff.rfl) fun j hj => (if_neg (fun e : j = i => hni (by rw [← e]; exact hj))).symm
        rw [e1]
        exact putAll_ext ok.slots (fun j => (hmem j).symm) fun _ _ => rfl
      · have hme : memo ops.size (listed.setIfInBounds i true) (fun k => if k = i then v else vs k) = upd (memo ops.size listed vs) i v := by
          funext j
          unfold memo upd
          by_cases hji : j = i
          · subst hji; simp [hil, hlil]
          · rw [getD_set_ne false (Ne.symm hji)]
            simp only [hji, if_false]
        rw [hme]
        exact hmono _ _ _ _ hw' hcl hcu
      · intro j hj
        rcases List.mem_cons.1 ((hmem j).1 hj) with rfl | h1
        · simp only [if_true]; exact hpv
        · have hji : j ≠ i := fun e => hni (by rw [← e]; exact h1)
          simp only [hji, if_false]
          exact hstab _ _ _ _ (hp j h1) hR
    unfold wpOp
    rw [ho]
    simp only
    have hyield : ∀ (j : Nat) (b : Option Bool), ∀ d, dstAt ops j = some d → (∃ e ∈ o.after, Region.binds .any e = true ∧ e.on = j) → gl.lookup j = some b → yielded ops (putAll ops vs a0 (dones ops listed)).tmps j = b := by
      rintro j b d hd ⟨e, he, hb, heq⟩ hq
      have hdn : j ∈ dones ops listed := dones_mem.2 ⟨dstAt_lt hd, by rw [← heq]; exact hall e he hb⟩
      have hv := hguard j b hq _ _ (hp j hdn)
      have hget := putAll_get (vs := vs) ok.slots hd _ hdn
      have hlt : d < (putAll ops vs a0 (dones ops listed)).tmps.size := by rw [putAll_size]; exact ok.slots.lt _ _ hd
      have hsome : (putAll ops vs a0 (dones ops listed)).tmps[d]? = some (vs j) := by
        rw [Array.getD_eq_getD_getElem?, Array.getElem?_eq_getElem hlt] at hget
        rw [Array.getElem?_eq_getElem hlt]
        simp only [Option.getD_some] at hget
        rw [hget]
      have hd' : (ops[j]?).bind (·.dst) = some d := hd
      unfold yielded
      rw [hd']
      simp only [Option.bind_some, hsome]
      rw [← hv]
      unfold boolOf
      cases vs j <;> rfl
    have hrun : StepAt P ops Q WInv R Post a0 i o → Oper.wp P o (putAll ops vs a0 (dones ops listed)) w (fun a' w' => ∃ vs' : Nat → Value, (listed.setIfInBounds i true).size = ops.size ∧ a' = putAll ops vs' a0 (dones ops (listed.setIfInBounds i true)) ∧
          WInv (dones ops (listed.setIfInBounds i true)).length (memo ops.size (listed.setIfInBounds i true) vs') w' ∧ ∀ j ∈ dones ops (listed.setIfInBounds i true), Post j (vs' j) w') Q := by
      intro hst
      have hne : Needs ops Post (memo ops.size listed vs) a0 (putAll ops vs a0 (dones ops listed)) w o.op.operands.toList := needs_of ok.slots hp _ fun t ht j hj => by
        obtain ⟨e, he, hb, rfl⟩ := ok.deps i o ho t ht j hj
        have h1 := hall e he hb
        refine dones_mem.2 ⟨?_, h1⟩
        exact Nat.lt_trans (ok.back i o ho e he hb) hil
      refine Oper.wp_mono ?_ (hst _ _ _ _ (by omega) hw hmn hne)
      rintro a' w' ⟨v, rfl, hw', hR, hpv⟩
      exact hnext v w' hw' hR hpv
    unfold Step1O at hst
    rcases ok.guard i o ho with hg | ⟨q, b, d, hg, hq, hd, he⟩
    · rw [hg] at hst
      rw [if_pos (by simp [Region.wanted, hg])]
      exact .inl (hrun hst)
    · rw [hg] at hst
      have hy := hyield q.1 b d hd he hq
      obtain ⟨q1, q2⟩ := q
      simp only at hy hq
      simp only [hq] at hst
      by_cases hc : b = some q2
      · subst hc
        simp only [BEq.rfl] at hst
        rw [if_pos (by simp [Region.wanted, hg, hy])]
        exact .inl (hrun hst)
      · have hc' : (some b == some (some q2)) = false := by simpa using hc
        rw [hc'] at hst
        rw [if_neg (by simp [Region.wanted, hg, hy, hc])]
        obtain ⟨h1, h2, h3⟩ := hst _ _ _ (by omega) hw hmn
        exact hnext undef w h1 h2 h3
  · rintro listed a w ⟨vs, hsz, rfl, hw, hp⟩ hr
    have hall : ∀ i, i < ops.size → listed.getD i false = true := by
      intro i
      induction i using Nat.strongRecOn with
      | ind i ih =>
        intro hil
        have hlil : i < listed.size := by omega
        by_cases hl : listed.getD i false = true
        · exact hl
        · have : i ∈ Region.ready .any ops listed := mem_ready.2 ⟨by simp [hlil] at hl ⊢; exact hl, _, Array.getElem?_eq_getElem hil, fun e he hb => by
            have hlt := ok.back i _ (Array.getElem?_eq_getElem hil) e he hb
            exact ih _ hlt (Nat.lt_trans hlt hil)⟩
          rw [hr] at this
          cases this
    have hmem : ∀ j, j ∈ dones ops listed ↔ j ∈ (List.range' 0 ops.toList.length).reverse := fun j => by
      rw [dones_mem, List.mem_reverse, List.mem_range'_1]
      simp only [Array.length_toList, Nat.zero_le, true_and, Nat.zero_add]
      exact ⟨fun h => h.1, fun h => ⟨h, hall j h⟩⟩
    have hcu : (dones ops listed).length ≤ ops.size := by
      unfold dones
      exact Nat.le_trans (List.length_filter_le _ _) (by simp)
    have h1 := AllVals.use (vs := vs) _ _ _ (hend _ w (hmono _ _ _ _ hw hcu (Nat.le_refl _))) fun k hk => by
      rw [Nat.zero_add]
      have hk' : k < ops.size := by simpa using hk
      exact ⟨if_pos ⟨hk', hall k hk'⟩, hp k (dones_mem.2 ⟨hk', hall k hk'⟩)⟩
    rw [seqPut_eq (ops := ops) _ _ _ (fun k o ho => by rw [Nat.zero_add]; unfold dstAt; rw [← Array.getElem?_toList, ho]; rfl)] at h1
    rwa [putAll_ext ok.slots hmem (fun _ _ => rfl)]
end
theorem lookup_mem {gl : List (Nat × Option Bool)} {i : Nat} {b : Option Bool} (h : gl.lookup i = some b) : (i, b) ∈ gl := by
  induction gl with
  | nil => simp at h
  | cons p gl ih =>
    obtain ⟨j, c⟩ := p
    rw [List.lookup_cons] at h
    split at h
    · rename_i hij
      simp only [beq_iff_eq] at hij
      injection h with h
      subst hij h
      exact List.mem_cons_self ..
    · exact List.mem_cons_of_mem _ (ih h)
theorem pv_guard {gl : List (Nat × Option Bool)} {vs : List (Option Value)} (h : ∀ p ∈ gl, (vs.getD p.1 none).map boolOf = some p.2) : ∀ i b, gl.lookup i = some b → ∀ v w, PV vs i v w → boolOf v = b := fun i b hl v w hv => by
  have h1 := h _ (lookup_mem hl)
  unfold PV at hv
  simp only at h1
  cases hx : vs.getD i none with
  | none => rw [hx] at h1; cases h1
  | some u =>
    rw [hx] at h1 hv
    simp only at hv
    subst hv
    simpa using h1
end Go.Proofs.Ytpiojofmflfkkaa
/- Marks on slices of integers. -/
namespace Go.Proofs.Ytpiojofmflfkkaa
open Go.RowKit
def marksI (n : Nat) (k : Int) : List Int := (List.range n).map fun (i : Nat) => k + (i : Int)
theorem marksI_len (n : Nat) (k : Int) : (marksI n k).length = n := by simp [marksI]
theorem marksI_get (n : Nat) (k : Int) (i : Nat) (h : i < (marksI n k).length) : (marksI n k)[i] = k + (i : Int) := by
  simp [marksI]
set_option maxHeartbeats 1000000 in
theorem heldIntS_any (F : Nat → Prop) (A : Option Addr) (c n : Nat) (k0 : Int) (w : World) (h : Rd F w A (icells (marksI n k0))) (hl : n ≤ 1048576) (hk0 : 0 ≤ k0) (hk1 : k0 ≤ 1000000000000) :
    Calls Try.prog 147 #[.slice A n c, .int .i64 k0] w fun e w' => e = .returned (.int .i64 (k0 + (n : Int))) ∧ w = w' := by
  go_enter Try.func147, Try.ntmps147
  go_wp2
  go_loop [1, 5] (fun v i => ∃ k : Nat, k ≤ n ∧ i = .int .i64 k ∧ v = .int .i64 (k0 + (k : Int))) (fun _ i => n - (intOf i).toNat)
  case atStart => exact ⟨0, Nat.zero_le _, rfl, by simp⟩
  case round =>
    obtain ⟨k, hk, rfl, rfl⟩ := hrel
    by_cases hlt : k < n
    · obtain ⟨ad, rfl, hf, hbl, hc0⟩ := ints_at h (k := k) (by rw [marksI_len]; exact hlt)
      rw [marksI_get] at hc0
      have hk8 : (k : Int) ≤ 1048576 := by omega
      go_wp2
      go_round
      case rel => exact ⟨k + 1, by omega, by go_num, congrArg (Value.int .i64) (by omega)⟩
      case measure => simp [intOf]; omega
    · have hk' : k = n := by omega
      subst hk'
      go_wp2
      go_ret
      exact ⟨rfl, rfl⟩
end Go.Proofs.Ytpiojofmflfkkaa
/- copy, onto the head of a block that is known whole. -/
namespace Go.Proofs.Ytpiojofmflfkkaa
open Go.RowKit
section
variable {P : Program}
theorem run_copy_blk {F : Nat → Prop} {w : World} (dT sT ty elem : TypeId) (g dLen dCap : Nat) (A : Option Addr) (sLen sCap : Nat) (cur : List Value) (t : TypeId) (cs : List Value)
    (hu : P.underlying dT = some (.slice elem)) (hs : (P.info? elem).map (·.size) = some 1) (hb : Blk w g t cur.toArray) (hn : cs.length = Nat.min sLen dLen) (h0 : 0 < cs.length) (hr : Rd F w A cs)
    (hfit : cs.length ≤ cur.length) (h1 : ∀ v ∈ cs, v.oneCell' = true) :
    ∃ w', (Builtin.copy_ #[dT, sT] ty #[.slice (some ⟨g, 0, none⟩) dLen dCap, .slice A sLen sCap]).run P w = .ok (goInt cs.length) w' ∧ Chg (· = g) w w' ∧ Blk w' g t (cs ++ cur.drop cs.length).toArray := by
  obtain ⟨ad, rfl, _⟩ := hr.at_ h0
  have hrun := run_copy_row (P := P) w dT sT ty elem g 0 dLen dCap ad sLen sCap cur.toArray t cs hu hs hb hn (fun j v hj => by
    obtain ⟨ad', e, _, hc⟩ := hr j v hj
    cases e
    exact hc) (by simpa using hfit) h1
  refine ⟨_, hrun, ⟨rfl, rfl, rfl, by simp [World.setRow], fun k _ hk => setRow_other w g k _ hk⟩, ?_⟩
  have h2 := setRow_heap w g cur.toArray (cs ++ cur.drop cs.length).toArray t _ hb
  unfold Blk
  simpa using h2
end
end Go.Proofs.Ytpiojofmflfkkaa
/- A drawn region that appends one element onto a slice of the call's own. -/
namespace Go.Proofs.Ytpiojofmflfkkaa
open Go.RowKit
/-- Ahead of operation ai u owns xs; behind it ai's value owns one element more, of cells that S names. -/
def AppI (H0 : Nat) (e : TypeId) (size : Nat) (u : Value) (n : Nat) (xs : List Value) (ai : Nat) (S : (Nat → Option Value) → List Value → Prop) (m : Nat → Option Value) (w : World) : Prop :=
  (m ai = none → w.ownsRow H0 e size u n xs) ∧ ∀ v, m ai = some v → ∃ news, S m news ∧ w.ownsRow H0 e size v (n + 1) (xs ++ news)
section
variable {H0 : Nat} {e : TypeId} {size : Nat} {u : Value} {n : Nat} {xs : List Value} {ai i : Nat} {S : (Nat → Option Value) → List Value → Prop} {m : Nat → Option Value} {F : Nat → Prop} {w w' : World} {v : Value}
theorem AppI.start (h : w.ownsRow H0 e size u n xs) : AppI H0 e size u n xs ai S (fun _ => none) w := ⟨fun _ => h, fun v hv => by cases hv⟩
theorem AppI.keep (h : AppI H0 e size u n xs ai S m w) (hi : i ≠ ai) (hS : ∀ news, S m news → S (upd m i v) news) (hc : Chg F w w') (hF : ∀ g cs, H0 ≤ g → Blk w g e cs → ¬ F g) : AppI H0 e size u n xs ai S (upd m i v) w' := by
  have e1 : upd m i v ai = m ai := if_neg (Ne.symm hi)
  refine ⟨fun hm => own_chg1 (h.1 (by rw [← e1]; exact hm)) hc hF, fun v' hv' => ?_⟩
  rw [e1] at hv'
  obtain ⟨news, hs, ho⟩ := h.2 v' hv'
  exact ⟨news, hS news hs, own_chg1 ho hc hF⟩
theorem AppI.done (news : List Value) (hS : S (upd m ai v) news) (ho : w'.ownsRow H0 e size v (n + 1) (xs ++ news)) : AppI H0 e size u n xs ai S (upd m ai v) w' := by
  have e1 : upd m ai v ai = some v := if_pos rfl
  refine ⟨fun hm => by rw [e1] at hm; (cases hm), fun v' hv' => ?_⟩
  rw [e1] at hv'
  cases hv'
  exact ⟨news, hS, ho⟩
theorem upd_ne {m : Nat → Option Value} {i j : Nat} {v : Value} (h : j ≠ i) : upd m i v j = m j := if_neg h
theorem upd_same {m : Nat → Option Value} {i : Nat} {v : Value} : upd m i v i = some v := if_pos rfl
end
end Go.Proofs.Ytpiojofmflfkkaa
/- 'x.f = append(x.f, append([]T{}, src...))' as a drawn region: what holds while its operations come up. -/
namespace Go.Proofs.Ytpiojofmflfkkaa
open Go.RowKit
/-- V: the variable's block, of type T, its one cell the slice u of n elements of type e that the call owns from block H0 on; B: the heap's size as the region begins. The operations: lI loads u, rI makes the row, bI lays its header into a block, aI appends it, sI stores. -/
structure NestI (w0 wo : World) (T e : TypeId) (V H0 B : Nat) (u : Value) (n : Nat) (xs : List Value) (lI rI bI aI sI : Nat) (m : Nat → Option Value) (w : World) : Prop where
  chg0 : Chg NoB w0 w
  chg : Chg (fun k => k = V ∨ some k = u.ownBlock) wo w
  app : AppI H0 e 1 u n xs aI (fun m news => ∃ rv, m rI = some rv ∧ news = [rv]) m w
  var : StI V T #[u] sI aI m w
  back1 : m aI ≠ none → m lI ≠ none
  back2 : m sI ≠ none → m aI ≠ none
  elem : ∀ v, m bI = some v → ∃ rv b, m rI = some rv ∧ v = .slice (some ⟨b, 0, none⟩) 1 1 ∧ B ≤ b ∧ Blk w b e #[rv] ∧ rv.oneCell' = true
section
variable {w0 wo w w' : World} {T e : TypeId} {V H0 B : Nat} {u : Value} {n : Nat} {xs : List Value} {lI rI bI aI sI i : Nat} {m : Nat → Option Value} {v : Value}
theorem NestI.start (h0 : Chg NoB w0 w) (h : Chg NoB wo w) (ho : w.ownsRow H0 e 1 u n xs) (hb : Blk w V T #[u]) : NestI w0 wo T e V H0 B u n xs lI rI bI aI sI (fun _ => none) w :=
  ⟨h0, h.mono fun _ _ x => x.elim, AppI.start ho, .inl ⟨rfl, hb⟩, fun h => absurd rfl h, fun h => absurd rfl h, fun v hv => by cases hv⟩
theorem NestI.keep (h : NestI w0 wo T e V H0 B u n xs lI rI bI aI sI m w) (hm : m i = none) (h1 : i ≠ bI) (h2 : i ≠ aI) (h3 : i ≠ sI) (hc : Chg NoB w w') : NestI w0 wo T e V H0 B u n xs lI rI bI aI sI (upd m i v) w' := by
  refine ⟨h.chg0.trans hc, h.chg.trans' hc (fun _ x => x.elim), h.app.keep h2 ?_ hc (fun _ _ _ _ x => x), h.var.keep h3 hm hc (fun x => x), ?_, ?_, ?_⟩
  · rintro news ⟨rv, hr, hn⟩
    exact ⟨rv, by rw [upd_ne (fun e => by rw [e, hm] at hr; cases hr)]; exact hr, hn⟩
  · rw [upd_ne (Ne.symm h2)]
    intro hh
    by_cases he : lI = i
    · rw [he, upd_same]; simp
    · rw [upd_ne he]; exact h.back1 hh
  · rw [upd_ne (Ne.symm h3), upd_ne (Ne.symm h2)]; exact h.back2
  · rw [upd_ne (Ne.symm h1)]
    intro v' hv'
    obtain ⟨rv, b, a1, a2, a3, a4, a5⟩ := h.elem v' hv'
    exact ⟨rv, b, by rw [upd_ne (fun e => by rw [e, hm] at a1; cases a1)]; exact a1, a2, a3, a4.chg hc (fun x => x), a5⟩
/-- The header is laid. -/
theorem NestI.lay (h : NestI w0 wo T e V H0 B u n xs lI rI bI aI sI m w) {rv : Value} {b : Nat} (hr : m rI = some rv) (h0 : rI ≠ bI) (h1 : bI ≠ aI) (h2 : bI ≠ sI) (h3 : lI ≠ bI) (hm : m bI = none) (hc : Chg NoB w w') (hB : B ≤ b) (hb : Blk w' b e #[rv]) (h1c : rv.oneCell' = true) :
    NestI w0 wo T e V H0 B u n xs lI rI bI aI sI (upd m bI (.slice (some ⟨b, 0, none⟩) 1 1)) w' := by
  refine ⟨h.chg0.trans hc, h.chg.trans' hc (fun _ x => x.elim), h.app.keep h1 ?_ hc (fun _ _ _ _ x => x), h.var.keep h2 hm hc (fun x => x), ?_, ?_, ?_⟩
  · rintro news ⟨rv', hr', hn⟩
    exact ⟨rv', by rw [upd_ne h0]; exact hr', hn⟩
  · rw [upd_ne (Ne.symm h1), upd_ne h3]; exact h.back1
  · rw [upd_ne (Ne.symm h2), upd_ne (Ne.symm h1)]; exact h.back2
  · intro v' hv'
    rw [upd_same] at hv'
    cases hv'
    exact ⟨rv, b, by rw [upd_ne h0]; exact hr, rfl, hB, hb, h1c⟩
/-- The header is appended. -/
theorem NestI.append (h : NestI w0 wo T e V H0 B u n xs lI rI bI aI sI m w) (hma : m aI = none) {rv v' : Value} (hr : m rI = some rv) (hl : m lI ≠ none) (h0 : rI ≠ aI) (h1 : aI ≠ sI) (h3 : lI ≠ aI) (h4 : bI ≠ aI) (hT : e ≠ T) (hV : w0.heap.size ≤ H0) (hu : ∀ k, some k = u.ownBlock → k < B)
    (hg : w.grownBy w' u.ownBlock) (ho : w'.ownsRow H0 e 1 v' (n + 1) (xs ++ [rv])) : NestI w0 wo T e V H0 B u n xs lI rI bI aI sI (upd m aI v') w' := by
  have hou := h.app.1 hma
  have hms : m sI = none := by
    cases hh : m sI with
    | none => rfl
    | some x => exact absurd hma (h.back2 (by rw [hh]; simp))
  have hb := h.var.ready hms
  have hc := chg_row hg
  refine ⟨chg_grown hou hg h.chg0 hV, h.chg.trans (hc.mono fun k _ hk => .inr hk), AppI.done [rv] ⟨rv, by rw [upd_ne h0]; exact hr, rfl⟩ ho, .inl ⟨by rw [upd_ne (Ne.symm h1)]; exact hms, hb.chg hc (own_ne_box hou hb hT)⟩, ?_, ?_, ?_⟩
  · intro _; rw [upd_ne h3]; exact hl
  · rw [upd_ne (Ne.symm h1)]; intro hh; exact absurd hms hh
  · rw [upd_ne h4]
    intro w1 hw1
    obtain ⟨rv1, b, a1, a2, a3, a4, a5⟩ := h.elem w1 hw1
    exact ⟨rv1, b, by rw [upd_ne h0]; exact a1, a2, a3, a4.chg hc (fun hk => by have := hu b hk; omega), a5⟩
/-- The slice is stored. -/
theorem NestI.store (h : NestI w0 wo T e V H0 B u n xs lI rI bI aI sI m w) {v' x : Value} (ha : m aI = some v') (h1 : aI ≠ sI) (h2 : rI ≠ sI) (h3 : lI ≠ sI) (h4 : bI ≠ sI) (hT : e ≠ T) (hV0 : w0.heap.size ≤ V) (hVB : V < B) (hc : Chg (· = V) w w') {z : Array Value} (hz : Blk w V T z) (hb : Blk w' V T v'.cells) :
    NestI w0 wo T e V H0 B u n xs lI rI bI aI sI (upd m sI x) w' := by
  refine ⟨h.chg0.own hc hV0, h.chg.trans (hc.mono fun k _ hk => .inl hk), h.app.keep (Ne.symm h1) ?_ hc (fun g cs _ hg he => ?_), StI.store h1 ha hb, ?_, ?_, ?_⟩
  · rintro news ⟨rv', hr', hn⟩
    exact ⟨rv', by rw [upd_ne h2]; exact hr', hn⟩
  · have he' : g = V := he
    subst he'
    exact hT (hg.sameTy hz)
  · rw [upd_ne h1, upd_ne h3]; exact h.back1
  · intro _; rw [upd_ne h1, ha]; simp
  · rw [upd_ne h4]
    intro w1 hw1
    obtain ⟨rv1, b, a1, a2, a3, a4, a5⟩ := h.elem w1 hw1
    exact ⟨rv1, b, by rw [upd_ne h2]; exact a1, a2, a3, a4.chg hc (by omega), a5⟩
theorem NestI.load (h : NestI w0 wo T e V H0 B u n xs lI rI bI aI sI m w) (hm : m lI = none) : Blk w V T #[u] := by
  refine h.var.ready ?_
  cases hh : m sI with
  | none => rfl
  | some x => exact absurd hm (h.back1 (h.back2 (by rw [hh]; simp)))
theorem NestI.done (h : NestI w0 wo T e V H0 B u n xs lI rI bI aI sI m w) {v' x rv : Value} (ha : m aI = some v') (hs : m sI = some x) (hr : m rI = some rv) : Blk w V T v'.cells ∧ w.ownsRow H0 e 1 v' (n + 1) (xs ++ [rv]) := by
  refine ⟨h.var.done hs ha, ?_⟩
  obtain ⟨news, ⟨rv', hr', rfl⟩, ho⟩ := h.app.2 v' ha
  rw [hr] at hr'
  cases hr'
  exact ho
end
end Go.Proofs.Ytpiojofmflfkkaa
/- Drawn regions of two conversions and a call: what is known of each operation's value. -/
namespace Go.Proofs.Ytpiojofmflfkkaa
open Go.RowKit
theorem OwnS.box {G : Nat → Prop} {B E B' : Nat} {T : TypeId} {w w' : World} {t : TypeId} {A : Option Addr} {n c : Nat} {cs : List Value} (h : OwnS B E w t A n c cs) (hr : RBox G B' T w w') (hg : ∀ k, B ≤ k → ¬ G k) (ht : t ≠ T) : OwnS B E w' t A n c cs := by
  obtain ⟨hn, h⟩ := h
  refine ⟨hn, ?_⟩
  rcases h with h | ⟨g, rest, rfl, hB, hE, hb⟩
  · exact .inl h
  · exact .inr ⟨g, rest, rfl, hB, hE, hr.blk hb (hg g hB) (.inr ht)⟩
end Go.Proofs.Ytpiojofmflfkkaa
