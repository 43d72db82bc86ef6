/- Plain words for memory: which blocks a step may turn ('Chg'), and what a slice of cells reads as ('Rd'). No program is named here. -/
import Derived.WalkKit
import Derived.Deep.Draws
import Derived.Lib.Hide
import Derived.Laws.MakeOwn
namespace Go.Proofs.Ytenbbkmbnpdfaaa
open Go.RowKit

theorem ret_int {k : IntKind} {a b : Int} (h : a = b) : Ending.returned (.int k a) = .returned (.int k b) := by rw [h]
theorem ret_bool {a b : Bool} (h : a = b) : Ending.returned (.bool a) = .returned (.bool b) := by rw [h]

theorem block_add (a : Addr) (n : Nat) : (a.add n).block = a.block := by unfold Addr.add; split <;> rfl
theorem add_add' (a : Addr) (i j : Nat) : (a.add i).add j = a.add (i + j) := by
  unfold Addr.add
  by_cases hi : i = 0 <;> by_cases hj : j = 0 <;> simp [hi, hj, Nat.add_assoc]

/-- The world has turned in blocks of F and in new ones alone. -/
structure Chg (F : Nat → Prop) (w w' : World) : Prop where
  os : w'.os = w.os
  tape : w'.tape = w.tape
  output : w'.output = w.output
  size : w.heap.size ≤ w'.heap.size
  block : ∀ k, k < w.heap.size → ¬ F k → w'.heap[k]? = w.heap[k]?

/-- No old block. -/
abbrev NoB : Nat → Prop := fun _ => False

section
variable {F G : Nat → Prop} {w w' w'' : World}
theorem Chg.refl (F : Nat → Prop) (w : World) : Chg F w w := ⟨rfl, rfl, rfl, Nat.le_refl _, fun _ _ _ => rfl⟩
theorem Chg.trans (h : Chg F w w') (k : Chg F w' w'') : Chg F w w'' :=
  ⟨k.os.trans h.os, k.tape.trans h.tape, k.output.trans h.output, Nat.le_trans h.size k.size,
   fun i hi hf => (k.block i (Nat.lt_of_lt_of_le hi h.size) hf).trans (h.block i hi hf)⟩
/-- Two steps, each with its own blocks: those of the second are of F or new. -/
theorem Chg.trans' (h : Chg F w w') (k : Chg G w' w'') (hg : ∀ i, G i → F i ∨ w.heap.size ≤ i) : Chg F w w'' :=
  ⟨k.os.trans h.os, k.tape.trans h.tape, k.output.trans h.output, Nat.le_trans h.size k.size,
   fun i hi hf => (k.block i (Nat.lt_of_lt_of_le hi h.size) (fun hG => by rcases hg i hG with h1 | h1; exact hf h1; omega)).trans (h.block i hi hf)⟩
theorem Chg.mono (h : Chg F w w') (hg : ∀ i, i < w.heap.size → F i → G i) : Chg G w w' :=
  ⟨h.os, h.tape, h.output, h.size, fun i hi hf => h.block i hi fun hF => hf (hg i hi hF)⟩
theorem Chg.drew (h : Chg F w w') : Chg F w w'.drew := ⟨h.os, h.tape, h.output, h.size, h.block⟩
theorem Chg.drewN (h : Chg F w w') (n : Nat) : Chg F w (w'.drewN n) := ⟨h.os, h.tape, h.output, h.size, h.block⟩
theorem Chg.alloc (h : Chg F w w') (o : Obj) : Chg F w (w'.alloc o) :=
  h.trans ⟨rfl, rfl, rfl, by simp, fun k hk _ => Below.heap_alloc _ _ _ hk⟩
theorem Chg.setCell (h : Chg F w w') {p : Addr} (hp : F p.block ∨ w.heap.size ≤ p.block) (u : Value) : Chg F w (w'.setCell p u) :=
  h.trans' (G := fun k => k = p.block) ⟨rfl, rfl, rfl, by simp [World.setCell], fun k _ hk => Below.heap_setCell _ _ _ _ hk⟩ (fun i hi => by subst hi; exact hp)
theorem Chg.grown (h : Chg F w w') {row : Option Nat} (hg : w'.grownBy w'' row) (hr : ∀ k, row = some k → F k ∨ w.heap.size ≤ k) : Chg F w w'' :=
  h.trans' (G := fun k => some k = row) ⟨hg.os, hg.tape, hg.output, hg.size, fun k hk hn => hg.block k hk hn⟩ (fun i hi => hr i hi.symm)
theorem Chg.own (h : Chg F w w') {g : Nat} (k : Chg (· = g) w' w'') (hg : w.heap.size ≤ g) : Chg F w w'' := h.trans' k fun i hi => .inr (by rw [hi]; exact hg)
theorem Chg.below (h : Chg NoB w w') : Below w.heap.size w w' := ⟨h.os, h.tape, h.output, h.size, fun k hk => h.block k hk (fun x => x)⟩
theorem Chg.of_below (h : Below w.heap.size w w') : Chg F w w' := ⟨h.os, h.tape, h.output, h.size, fun k hk _ => h.block k hk⟩
theorem Chg.cell (h : Chg F w w') {p : Addr} {v : Value} (hc : w.cell? p = some v) (hf : ¬ F p.block) : w'.cell? p = some v :=
  (World.cell?_of_block (h.block p.block (World.block_lt_of_cell? w p hc) hf)).trans hc
end

/-- The answer is true exactly if p holds; no old block has turned. -/
def Says (w : World) (p : Prop) (e : Ending) (w' : World) : Prop := ∃ b : Bool, e = .returned (.bool b) ∧ (b = true ↔ p) ∧ Chg NoB w w'
theorem Says.yes {w w' : World} {p : Prop} (h : p) (hc : Chg NoB w w') : Says w p (.returned (.bool true)) w' := ⟨true, rfl, by simp [h], hc⟩
theorem Says.no {w w' : World} {p : Prop} (h : ¬ p) (hc : Chg NoB w w') : Says w p (.returned (.bool false)) w' := ⟨false, rfl, by simp [h], hc⟩
theorem Says.both {w w' : World} {p : Prop} {b : Bool} (h : b = true ↔ p) (hc : Chg NoB w w') : Says w p (.returned (.bool b)) w' := ⟨b, rfl, h, hc⟩

/-- The cells from A on are xs; they lie in blocks of F. -/
def Rd (F : Nat → Prop) (w : World) (A : Option Addr) (xs : List Value) : Prop :=
  ∀ (k : Nat) (v : Value), xs[k]? = some v → ∃ ad, A = some ad ∧ F ad.block ∧ w.cell? (ad.add k) = some v

section
variable {F G : Nat → Prop} {w w' : World} {A : Option Addr} {xs : List Value}
theorem Rd.nil (F : Nat → Prop) (w : World) (A : Option Addr) : Rd F w A [] := fun k v h => by simp at h
theorem Rd.mono (h : Rd F w A xs) (hg : ∀ i, i < w.heap.size → F i → G i) : Rd G w A xs := fun k v hk => by
  obtain ⟨ad, e, hf, hc⟩ := h k v hk
  have := World.block_lt_of_cell? w _ hc
  rw [block_add] at this
  exact ⟨ad, e, hg _ this hf, hc⟩
theorem Rd.lt (h : Rd F w A xs) : Rd (fun i => F i ∧ i < w.heap.size) w A xs := h.mono fun _ hi hf => ⟨hf, hi⟩
theorem Rd.chg (h : Rd F w A xs) (hc : Chg G w w') (hd : ∀ i, F i → ¬ G i) : Rd F w' A xs := fun k v hk => by
  obtain ⟨ad, e, hf, hcell⟩ := h k v hk
  exact ⟨ad, e, hf, hc.cell hcell (by rw [block_add]; exact hd _ hf)⟩
theorem Rd.at_ (h : Rd F w A xs) {k : Nat} (hk : k < xs.length) : ∃ ad, A = some ad ∧ F ad.block ∧ ad.block < w.heap.size ∧ w.cell? (ad.add k) = some xs[k] := by
  obtain ⟨ad, e, hf, hc⟩ := h k _ (List.getElem?_eq_getElem hk)
  have := World.block_lt_of_cell? w _ hc
  rw [block_add] at this
  exact ⟨ad, e, hf, this, hc⟩
end

theorem Rd.new {F : Nat → Prop} {w w' : World} {A : Option Addr} {xs : List Value} (h : Rd F w A xs) (hc : Chg NoB w w') : Rd F w' A xs := h.chg hc fun _ _ x => x
/-- A block known whole, none of its cells frozen. -/
def Blk (w : World) (g : Nat) (t : TypeId) (cs : Array Value) : Prop := w.heap[g]? = some (.cells cs t (0, 0))
section
variable {F : Nat → Prop} {w w' : World} {g : Nat} {t : TypeId} {cs : Array Value}
theorem Blk.lt (h : Blk w g t cs) : g < w.heap.size := by
  rcases Nat.lt_or_ge g w.heap.size with hlt | hge
  · exact hlt
  · unfold Blk at h; rw [Array.getElem?_eq_none hge] at h; cases h
theorem Blk.cell (h : Blk w g t cs) (i : Nat) : w.cell? ⟨g, i, none⟩ = cs[i]? := cell_of_row w g i cs t (0, 0) h
theorem Blk.frozen (h : Blk w g t cs) (i : Nat) : w.frozen? ⟨g, i, none⟩ = false := by
  unfold Blk at h
  simp [World.frozen?, h]
theorem Blk.new (w : World) (t : TypeId) (cs : Array Value) : Blk (w.alloc (.cells cs t)) w.heap.size t cs := heap_alloc_new w _
theorem Blk.chg (h : Blk w g t cs) (hc : Chg F w w') (hf : ¬ F g) : Blk w' g t cs := (hc.block g h.lt hf).trans h
theorem Blk.set_ (h : Blk w g t cs) (i : Nat) (u : Value) : Blk (w.setCell ⟨g, i, none⟩ u) g t (cs.setIfInBounds i u) := by
  unfold Blk at h ⊢
  simp [World.setCell, Array.getElem?_modify, h]
end

theorem Blk.rd {w : World} {g : Nat} {t : TypeId} {cs : List Value} (h : Blk w g t cs.toArray) : Rd (· = g) w (some ⟨g, 0, none⟩) cs := fun k v hk => by
  refine ⟨_, rfl, rfl, ?_⟩
  have e : (⟨g, 0, none⟩ : Addr).add k = ⟨g, k, none⟩ := by unfold Addr.add; split <;> simp_all
  rw [e, h.cell]
  simpa using hk

/-- n times the cells z. -/
def reps (n : Nat) (z : List Value) : List Value := (List.replicate n z).flatten
theorem reps_zero (z : List Value) : reps 0 z = [] := rfl
theorem reps_succ (n : Nat) (z : List Value) : reps (n + 1) z = z ++ reps n z := by unfold reps; rw [List.replicate_succ, List.flatten_cons]
theorem reps_length (n : Nat) (z : List Value) : (reps n z).length = n * z.length := by
  induction n with
  | zero => simp [reps]
  | succ n ih => rw [reps_succ, List.length_append, ih, Nat.succ_mul, Nat.add_comm]
theorem madeCells_reps (z : List Value) (n : Nat) : madeCells z.toArray (n * z.length) = (reps n z).toArray := by
  have h : ∀ n, (List.range (n * z.length)).map (fun x => z.toArray[x % z.length]!) = reps n z := by
    intro n
    induction n with
    | zero => simp [reps]
    | succ n ih =>
      have e : (n + 1) * z.length = z.length + n * z.length := by rw [Nat.succ_mul, Nat.add_comm]
      rw [e, List.range_add, List.map_append, List.map_map, reps_succ, ← ih]
      congr 1
      · apply List.ext_getElem?
        intro j
        rw [List.getElem?_map]
        rcases Nat.lt_or_ge j z.length with hj | hj
        · rw [List.getElem?_range hj, Option.map_some, Nat.mod_eq_of_lt hj, List.getElem?_eq_getElem hj]
          simp [hj]
        · rw [List.getElem?_eq_none (by simpa using hj), List.getElem?_eq_none hj]; rfl
      · apply List.map_congr_left
        intro j _
        simp only [Function.comp, Nat.add_mod_left]
  unfold madeCells
  apply Array.ext'
  have hs : z.toArray.size = z.length := by simp
  rw [Array.toList_map, Array.toList_range, hs, h]
theorem run_make_reps {P : Program} (t e : TypeId) (i : TypeInfo) (z : Value) (zs : List Value) (ht : P.underlying t = some (.slice e)) (hi : P.info? e = some i) (hz : i.zero = some z) (hzs : z.cells = zs.toArray) (hsz : i.size = zs.length)
    (n : Nat) (hbytes : i.bytes * n ≤ 281474976710656) (h63 : n ≤ 9223372036854775807) (w : World) :
    (Instr.makeSlice t (.int .i64 (n : Int)) (.int .i64 (n : Int))).run P w = .ok (.slice (some ⟨w.heap.size, 0, none⟩) n n) (w.alloc (.cells (reps n zs).toArray e)) := by
  have hb : (i.bytes : Int) * (n : Int) ≤ 281474976710656 := by
    have h : ((i.bytes * n : Nat) : Int) ≤ 281474976710656 := by omega
    rwa [Int.natCast_mul] at h
  have hr := run_make (P := P) w t e i z ht hi hz .i64 .i64 n n (by omega) (by omega) hb (by omega)
  simp only [Int.toNat_natCast] at hr
  rw [hr, hzs, hsz, madeCells_reps]
/-- Cells of a block that is made and then filled from its head. -/
theorem Blk.fill1 {w : World} {g k : Nat} {t : TypeId} {A R : List Value} {z : Value} (h : Blk w g t (A ++ z :: R).toArray) (hk : A.length = k) (u : Value) :
    Blk (w.setCell ⟨g, k, none⟩ u) g t (A ++ u :: R).toArray := by
  have h1 := h.set_ k u
  have e : (A ++ z :: R).toArray.setIfInBounds k u = (A ++ u :: R).toArray := by
    apply Array.ext'
    rw [Array.toList_setIfInBounds]
    subst hk
    rw [List.set_append_right _ _ (Nat.le_refl _)]
    simp
  rwa [e] at h1
theorem Blk.room {w : World} {g k : Nat} {t : TypeId} {A R : List Value} {z : Value} (h : Blk w g t (A ++ z :: R).toArray) (hk : A.length = k) : w.cell? ⟨g, k, none⟩ = some z := by
  subst hk
  rw [h.cell]
  simp

theorem Blk.fillAt {w : World} {g k j : Nat} {t : TypeId} {A B R : List Value} {z : Value} (h : Blk w g t (A ++ (B ++ z :: R)).toArray) (hk : A.length = k) (hj : B.length = j) (u : Value) :
    Blk (w.setCell ⟨g, k + j, none⟩ u) g t (A ++ (B ++ u :: R)).toArray := by
  rw [← List.append_assoc] at h ⊢
  exact h.fill1 (by simp [hk, hj]) u
theorem Blk.roomAt {w : World} {g k j : Nat} {t : TypeId} {A B R : List Value} {z : Value} (h : Blk w g t (A ++ (B ++ z :: R)).toArray) (hk : A.length = k) (hj : B.length = j) : w.cell? ⟨g, k + j, none⟩ = some z := by
  rw [← List.append_assoc] at h
  exact h.room (by simp [hk, hj])
theorem Blk.fill2 {w : World} {g k : Nat} {t : TypeId} {A R : List Value} {z0 z1 : Value} (h : Blk w g t (A ++ z0 :: z1 :: R).toArray) (hk : A.length = k) (u0 u1 : Value) :
    Blk ((w.setCell ⟨g, k, none⟩ u0).setCell ⟨g, k + 1, none⟩ u1) g t (A ++ u0 :: u1 :: R).toArray :=
  Blk.fillAt (B := [u0]) (h.fill1 hk u0) hk rfl u1
theorem Blk.fill3 {w : World} {g k : Nat} {t : TypeId} {A R : List Value} {z0 z1 z2 : Value} (h : Blk w g t (A ++ z0 :: z1 :: z2 :: R).toArray) (hk : A.length = k) (u0 u1 u2 : Value) :
    Blk (((w.setCell ⟨g, k, none⟩ u0).setCell ⟨g, k + 1, none⟩ u1).setCell ⟨g, k + 2, none⟩ u2) g t (A ++ u0 :: u1 :: u2 :: R).toArray :=
  Blk.fillAt (B := [u0, u1]) (h.fill2 hk u0 u1) hk rfl u2
theorem Blk.fill5 {w : World} {g k : Nat} {t : TypeId} {A R : List Value} {z0 z1 z2 z3 z4 : Value} (h : Blk w g t (A ++ z0 :: z1 :: z2 :: z3 :: z4 :: R).toArray) (hk : A.length = k) (u0 u1 u2 u3 u4 : Value) :
    Blk (((((w.setCell ⟨g, k, none⟩ u0).setCell ⟨g, k + 1, none⟩ u1).setCell ⟨g, k + 2, none⟩ u2).setCell ⟨g, k + 3, none⟩ u3).setCell ⟨g, k + 4, none⟩ u4) g t (A ++ u0 :: u1 :: u2 :: u3 :: u4 :: R).toArray :=
  Blk.fillAt (B := [u0, u1, u2, u3]) (Blk.fillAt (B := [u0, u1, u2]) (h.fill3 hk u0 u1 u2) hk rfl u3) hk rfl u4

/-! Lists of elements of m cells each. -/
theorem flat_length {α : Type} {enc : α → List Value} {m : Nat} (he : ∀ x, (enc x).length = m) (xs : List α) : (xs.flatMap enc).length = xs.length * m := by
  induction xs with
  | nil => simp
  | cons x xs ih => rw [List.flatMap_cons, List.length_append, he, ih, List.length_cons, Nat.succ_mul, Nat.add_comm]
theorem flat_get {α : Type} {enc : α → List Value} {m : Nat} (he : ∀ x, (enc x).length = m) : ∀ (xs : List α) (k : Nat) (hk : k < xs.length) (j : Nat), j < m → (xs.flatMap enc)[k * m + j]? = (enc xs[k])[j]?
  | [], k, hk, _, _ => absurd hk (by simp)
  | x :: xs, 0, _, j, hj => by
    rw [List.flatMap_cons, Nat.zero_mul, Nat.zero_add, List.getElem?_append_left (by rw [he]; exact hj)]; rfl
  | x :: xs, k + 1, hk, j, hj => by
    have e : (k + 1) * m + j = (enc x).length + (k * m + j) := by rw [he, Nat.succ_mul]; omega
    rw [List.flatMap_cons, e, List.getElem?_append_right (Nat.le_add_right _ _), Nat.add_sub_cancel_left, flat_get he xs k (by simpa using hk) j hj]; rfl
theorem flat_take_succ {α : Type} {enc : α → List Value} (xs : List α) (k : Nat) (hk : k < xs.length) : (xs.take (k + 1)).flatMap enc = (xs.take k).flatMap enc ++ enc xs[k] := by
  rw [List.take_succ_eq_append_getElem hk, List.flatMap_append]; simp
theorem Rd.flat {F : Nat → Prop} {w : World} {A : Option Addr} {α : Type} {enc : α → List Value} {m : Nat} (he : ∀ x, (enc x).length = m) {xs : List α} (h : Rd F w A (xs.flatMap enc)) {k : Nat} (hk : k < xs.length) (hm : 0 < m) :
    ∃ b o, A = some ⟨b, o, none⟩ ∧ F b ∧ b < w.heap.size ∧ ∀ j v, (enc xs[k])[j]? = some v → w.cell? ⟨b, o + k * m + j, none⟩ = some v := by
  have h0 : 0 < (enc xs[k]).length := by rw [he]; exact hm
  obtain ⟨ad, e, hf, hc⟩ := h (k * m + 0) (enc xs[k])[0] (by rw [flat_get he xs k hk 0 hm, List.getElem?_eq_getElem h0])
  have hb := World.block_lt_of_cell? w _ hc
  rw [block_add] at hb
  obtain ⟨b, o, s⟩ := ad
  have hs : s = none := by
    have hl0 : 0 < (xs.flatMap enc).length := by rw [flat_length he]; exact Nat.mul_pos (Nat.lt_of_le_of_lt (Nat.zero_le _) hk) hm
    obtain ⟨ad', e', _, hc'⟩ := h 0 _ (List.getElem?_eq_getElem hl0)
    rw [e] at e'
    cases e'
    exact World.cell?_spot hc'
  subst hs
  refine ⟨b, o, e, hf, hb, fun j v hj => ?_⟩
  have hjm : j < m := by rw [← he xs[k]]; exact (List.getElem?_eq_some_iff.1 hj).1
  obtain ⟨ad', e', _, hc'⟩ := h (k * m + j) v (by rw [flat_get he xs k hk j hjm, hj])
  rw [e] at e'
  cases e'
  have e1 : (⟨b, o, none⟩ : Addr).add (k * m + j) = ⟨b, o + k * m + j, none⟩ := by unfold Addr.add; split <;> simp_all <;> omega
  rwa [e1] at hc'
end Go.Proofs.Ytenbbkmbnpdfaaa
