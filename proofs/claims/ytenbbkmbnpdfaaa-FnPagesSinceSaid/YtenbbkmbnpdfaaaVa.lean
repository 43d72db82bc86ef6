/- Devices in memory: what reads as one, and what a call has built. -/
import Derived.Test.YtenbbkmbnpdfaaaV
import Derived.Test.YtenbbkmbnpdfaaaO
namespace Go.Proofs.Ytenbbkmbnpdfaaa
open Go.RowKit

def pgs (ps : List Pg) : List Value := ps.flatMap pcells
theorem pgs_length (ps : List Pg) : (pgs ps).length = ps.length * 5 := flat_length pcells_length ps
theorem pgs_nil : pgs [] = [] := rfl
theorem pgs_append (a b : List Pg) : pgs (a ++ b) = pgs a ++ pgs b := List.flatMap_append
theorem pgs_zeros (n : Nat) : pgs (List.replicate n zPg) = reps n (pcells zPg) := by
  induction n with
  | zero => rfl
  | succ n ih => rw [List.replicate_succ, reps_succ, ← ih]; rfl
theorem pgs_take_succ (ps : List Pg) (k : Nat) (h : k < ps.length) : pgs (ps.take (k + 1)) = pgs (ps.take k) ++ pcells ps[k] := flat_take_succ ps k h
/-- A page of a slice of pages. -/
theorem pgs_at {F : Nat → Prop} {w : World} {A : Option Addr} {ps : List Pg} (h : Rd F w A (pgs ps)) {k : Nat} (hk : k < ps.length) :
    ∃ b o, A = some ⟨b, o, none⟩ ∧ F b ∧ b < w.heap.size ∧ w.cell? ⟨b, o + k * 5, none⟩ = some (.bool ps[k].full) ∧ w.cell? ⟨b, o + k * 5 + 1, none⟩ = some (.int .i64 ps[k].file) ∧
      w.cell? ⟨b, o + k * 5 + 2, none⟩ = some (.int .i64 ps[k].place) ∧ w.cell? ⟨b, o + k * 5 + 3, none⟩ = some (.int .i64 ps[k].value) ∧ w.cell? ⟨b, o + k * 5 + 4, none⟩ = some (.int .i64 ps[k].stamp) := by
  obtain ⟨b, o, e, hf, hb, hc⟩ := Rd.flat pcells_length h hk (by omega)
  exact ⟨b, o, e, hf, hb, hc 0 _ rfl, hc 1 _ rfl, hc 2 _ rfl, hc 3 _ rfl, hc 4 _ rfl⟩

/-- The slice at A reads as the blocks D; all of it lies in memory of F. -/
def DevR (F : Nat → Prop) (w : World) (A : Option Addr) (D : List Bk) : Prop :=
  ∀ (k : Nat) (h : k < D.length), ∃ b o A' c, A = some ⟨b, o, none⟩ ∧ F b ∧ w.cell? ⟨b, o + k * 2, none⟩ = some (.int .i64 D[k].wear) ∧ w.cell? ⟨b, o + k * 2 + 1, none⟩ = some (.slice A' D[k].pages.length c) ∧
    Rd F w A' (pgs D[k].pages) ∧ D[k].pages.length ≤ c
section
variable {F G : Nat → Prop} {w w' : World} {A : Option Addr} {D : List Bk}
theorem DevR.mono (h : DevR F w A D) (hg : ∀ i, i < w.heap.size → F i → G i) : DevR G w A D := fun k hk => by
  obtain ⟨b, o, A', c, e, hf, h1, h2, hr, hc⟩ := h k hk
  exact ⟨b, o, A', c, e, hg _ (World.block_lt_of_cell? w _ h1) hf, h1, h2, hr.mono hg, hc⟩
theorem DevR.lt (h : DevR F w A D) : DevR (fun i => F i ∧ i < w.heap.size) w A D := h.mono fun _ hi hf => ⟨hf, hi⟩
theorem DevR.chg (h : DevR F w A D) (hc : Chg G w w') (hd : ∀ i, F i → ¬ G i) : DevR F w' A D := fun k hk => by
  obtain ⟨b, o, A', c, e, hf, h1, h2, hr, hcc⟩ := h k hk
  exact ⟨b, o, A', c, e, hf, hc.cell h1 (hd _ hf), hc.cell h2 (hd _ hf), hr.chg hc hd, hcc⟩
theorem DevR.new (h : DevR F w A D) (hc : Chg NoB w w') : DevR F w' A D := h.chg hc fun _ _ x => x
theorem DevR.nil (F : Nat → Prop) (w : World) (A : Option Addr) : DevR F w A [] := fun k h => by simp at h
end

/-- A block that a call has built: where its pages lie. -/
structure BkO where
  g : Nat
  c : Nat
  wear : Int
  ps : List Pg
  rest : List Value
def BkO.cells (r : BkO) : List Value := [.int .i64 r.wear, .slice (some ⟨r.g, 0, none⟩) r.ps.length r.c]
def BkO.bk (r : BkO) : Bk := ⟨r.wear, r.ps⟩
theorem BkO.cells_length (r : BkO) : r.cells.length = 2 := rfl
def BkO.ok (B E : Nat) (w : World) (r : BkO) : Prop := B ≤ r.g ∧ r.g < E ∧ Blk w r.g 60 (pgs r.ps ++ r.rest).toArray ∧ r.ps.length ≤ r.c
def BksO (B E : Nat) (w : World) (T : List BkO) : Prop := (∀ r ∈ T, r.ok B E w) ∧ (T.map (·.g)).Nodup
def bksOf (T : List BkO) : List Bk := T.map BkO.bk
def bcells (T : List BkO) : List Value := T.flatMap BkO.cells
def DevO (B E : Nat) (w : World) (A : Option Addr) (c : Nat) (T : List BkO) : Prop := OwnS B E w 44 A T.length c (bcells T) ∧ BksO B E w T
theorem ty_page_block : (60 : Nat) ≠ 44 := by decide
theorem bcells_length (T : List BkO) : (bcells T).length = T.length * 2 := flat_length BkO.cells_length T
theorem bcells_append (a b : List BkO) : bcells (a ++ b) = bcells a ++ bcells b := List.flatMap_append
theorem bcells_snoc (T : List BkO) (r : BkO) : bcells (T ++ [r]) = bcells T ++ r.cells := by rw [bcells_append]; simp [bcells]
theorem bksOf_length (T : List BkO) : (bksOf T).length = T.length := by simp [bksOf]
theorem bksOf_get (T : List BkO) (k : Nat) (h : k < (bksOf T).length) : (bksOf T)[k] = ⟨(T[k]'(by rwa [bksOf_length] at h)).wear, (T[k]'(by rwa [bksOf_length] at h)).ps⟩ := by simp [bksOf, BkO.bk]
section
variable {F : Nat → Prop} {w w' : World} {B E B' E' : Nat} {T : List BkO} {A : Option Addr} {c : Nat}
theorem BkO.ok.chg {r : BkO} (h : r.ok B E w) (hc : Chg F w w') (hf : ¬ F r.g) : r.ok B E w' := ⟨h.1, h.2.1, h.2.2.1.chg hc hf, h.2.2.2⟩
theorem BkO.ok.more {r : BkO} (h : r.ok B E w) (hB : B' ≤ B) (hE : E ≤ E') : r.ok B' E' w := ⟨Nat.le_trans hB h.1, Nat.lt_of_lt_of_le h.2.1 hE, h.2.2⟩
theorem BksO.nil (B E : Nat) (w : World) : BksO B E w [] := ⟨fun _ h => absurd h (by simp), List.nodup_nil⟩
theorem BksO.chg (h : BksO B E w T) (hc : Chg F w w') (hf : ∀ i, B ≤ i → i < E → ¬ F i) : BksO B E w' T := ⟨fun r hr => (h.1 r hr).chg hc (hf _ (h.1 r hr).1 (h.1 r hr).2.1), h.2⟩
theorem BksO.new (h : BksO B E w T) (hc : Chg NoB w w') : BksO B E w' T := h.chg hc fun _ _ _ x => x
/-- The blocks' own heads may turn: their pages lie elsewhere. -/
theorem BksO.head {g : Nat} {cs : Array Value} (h : BksO B E w T) (hg : Blk w g 44 cs) (hc : Chg (· = g) w w') : BksO B E w' T :=
  ⟨fun r hr => (h.1 r hr).chg hc fun he => by
    have h1 := (h.1 r hr).2.2.1
    rw [show r.g = g from he] at h1
    unfold Blk at h1 hg
    rw [h1] at hg
    injection hg with hg
    injection hg with _ hg
    exact ty_page_block hg, h.2⟩
theorem BksO.more (h : BksO B E w T) (hB : B' ≤ B) (hE : E ≤ E') : BksO B' E' w T := ⟨fun r hr => (h.1 r hr).more hB hE, h.2⟩
theorem BksO.snoc (h : BksO B E w T) {r : BkO} (hr : r.ok B E' w) (hE : E ≤ r.g) : BksO B E' w (T ++ [r]) := by
  refine ⟨fun q hq => ?_, ?_⟩
  · rcases List.mem_append.1 hq with h1 | h1
    · exact (h.1 q h1).more (Nat.le_refl _) (Nat.le_trans hE (Nat.le_of_lt hr.2.1))
    · simp at h1; subst h1; exact hr
  · rw [List.map_append, List.nodup_append]
    refine ⟨h.2, by simp, fun a ha b hb => ?_⟩
    simp at hb
    obtain ⟨q, hq, rfl⟩ := List.mem_map.1 ha
    have := (h.1 q hq).2.1
    omega
theorem BksO.set_ (h : BksO B E w T) {r : BkO} (k : Nat) (hr : r.ok B E' w) (hE : E ≤ r.g) : BksO B E' w (T.set k r) := by
  have hE' : E ≤ E' := Nat.le_trans hE (Nat.le_of_lt hr.2.1)
  refine ⟨fun q hq => ?_, ?_⟩
  · rcases List.mem_or_eq_of_mem_set hq with h1 | rfl
    · exact (h.1 q h1).more (Nat.le_refl _) hE'
    · exact hr
  · rw [List.map_set, List.nodup_iff_pairwise_ne, List.pairwise_iff_getElem]
    have hp := h.2
    rw [List.nodup_iff_pairwise_ne, List.pairwise_iff_getElem] at hp
    intro i j hi hj hij
    have hi' : i < T.length := by simpa using hi
    have hj' : j < T.length := by simpa using hj
    rw [List.getElem_set, List.getElem_set]
    have hlt : ∀ m (hm : m < T.length), (T.map (·.g))[m]'(by simpa using hm) < E := fun m hm => by
      rw [List.getElem_map]
      exact (h.1 _ (List.getElem_mem hm)).2.1
    have h1 := hp i j (by simpa using hi') (by simpa using hj') hij
    have h2 := hlt i hi'
    have h3 := hlt j hj'
    split <;> split <;> omega
theorem DevO.chg (h : DevO B E w A c T) (hc : Chg F w w') (hf : ∀ i, B ≤ i → i < E → ¬ F i) : DevO B E w' A c T := ⟨h.1.chg hc hf, h.2.chg hc hf⟩
theorem DevO.new (h : DevO B E w A c T) (hc : Chg NoB w w') : DevO B E w' A c T := h.chg hc fun _ _ _ x => x
theorem DevO.more (h : DevO B E w A c T) (hB : B' ≤ B) (hE : E ≤ E') : DevO B' E' w A c T := ⟨h.1.more hB hE, h.2.more hB hE⟩
theorem DevO.nil (B E : Nat) (w : World) (A : Option Addr) (c : Nat) : DevO B E w A c [] := ⟨OwnS.empty _ _ _ _ _ _, BksO.nil _ _ _⟩
theorem BkO.ok.rd {r : BkO} (h : r.ok B E w) : Rd (fun i => B ≤ i ∧ i < E) w (some ⟨r.g, 0, none⟩) (pgs r.ps) := fun k v hk => by
  have h1 := (h.2.2.1.rd) k v (by rw [List.getElem?_append_left (List.getElem?_eq_some_iff.1 hk).1]; exact hk)
  obtain ⟨ad, e, hf, hc⟩ := h1
  refine ⟨ad, e, ?_, hc⟩
  rw [hf]
  exact ⟨h.1, h.2.1⟩
theorem DevO.reads (h : DevO B E w A c T) : DevR (fun i => B ≤ i ∧ i < E) w A (bksOf T) := fun k hk => by
  have hk' : k < T.length := by rwa [bksOf_length] at hk
  obtain ⟨b, o, e, hf, _, hc⟩ := Rd.flat (enc := BkO.cells) BkO.cells_length h.1.rd hk' (by omega)
  have hok := h.2.1 T[k] (List.getElem_mem hk')
  rw [bksOf_get T k hk]
  exact ⟨b, o, _, _, e, hf, hc 0 _ rfl, hc 1 _ rfl, hok.rd, hok.2.2.2⟩
end
/-- A block by value, whose pages a call has laid anew. -/
def NewB (B E : Nat) (w : World) (v : Value) (b : Bk) : Prop := ∃ r : BkO, v = .agg #[.int .i64 r.wear, .slice (some ⟨r.g, 0, none⟩) r.ps.length r.c] ∧ r.bk = b ∧ r.ok B E w
/-- A block by value. -/
def BkR (F : Nat → Prop) (w : World) (v : Value) (b : Bk) : Prop := ∃ A c, v = .agg #[.int .i64 b.wear, .slice A b.pages.length c] ∧ Rd F w A (pgs b.pages) ∧ b.pages.length ≤ c
end Go.Proofs.Ytenbbkmbnpdfaaa
