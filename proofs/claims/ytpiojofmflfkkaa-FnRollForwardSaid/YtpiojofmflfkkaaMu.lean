/- Parts of the proof, merged: Ua. -/
import Derived.Test.YtpiojofmflfkkaaMo
/- Tables made of pages of a device are valid. -/
namespace Go.Proofs.Ytpiojofmflfkkaa
open Go.RowKit
def GoodF (φ : Nat → Nat → Int) : Prop := (∀ f p, f < 8 → p < 6 → -1 ≤ φ f p ∧ φ f p ≤ 47) ∧ ∀ f p f' p', f < 8 → p < 6 → f' < 8 → p' < 6 → 0 ≤ φ f p → φ f p = φ f' p' → f = f' ∧ p = p'
theorem tabOk_of {φ : Nat → Nat → Int} (h : GoodF φ) : tabOk (tabF φ) := by
  refine ⟨tabF_len φ, fun f hf => ?_⟩
  have hf8 : f < 8 := by rw [tabF_len] at hf; exact hf
  rw [tabF_get]
  refine ⟨by simp, fun k hk => ?_⟩
  have hk6 : k < 6 := by simpa using hk
  simp only [List.getElem_map, List.getElem_range]
  refine ⟨(h.1 f k hf8 hk6).1, (h.1 f k hf8 hk6).2, fun h0 hm => ?_⟩
  rw [List.mem_append] at hm
  rcases hm with hm | hm
  · rw [List.mem_flatten] at hm
    obtain ⟨l, hl, hx⟩ := hm
    obtain ⟨i, hi, rfl⟩ := List.getElem_of_mem hl
    have hi2 : i < f := by rw [List.length_take] at hi; omega
    rw [List.getElem_take, tabF_get, List.mem_map] at hx
    obtain ⟨j, hj, he⟩ := hx
    have := h.2 f k i j hf8 hk6 (by omega) (List.mem_range.1 hj) h0 he.symm
    omega
  · obtain ⟨j, hj, he⟩ := List.getElem_of_mem hm
    have hj2 : j < k := by rw [List.length_take] at hj; omega
    rw [List.getElem_take] at he
    simp only [List.getElem_map, List.getElem_range] at he
    have := h.2 f k f j hf8 hk6 hf8 (by omega) h0 he.symm
    omega
theorem tget_get {X : List (List Int)} (h : tabOk X) {f p : Nat} (hf : f < 8) (hp : p < 6) : ∃ (h1 : f < X.length) (h2 : p < X[f].length), X[f][p] = tget X f p := by
  have h1 : f < X.length := by rw [h.1]; exact hf
  have h2 : p < X[f].length := by rw [(h.2 f h1).1]; exact hp
  refine ⟨h1, h2, ?_⟩
  have e : X.getD f [] = X[f] := by rw [List.getD_eq_getElem?_getD, List.getElem?_eq_getElem h1]; rfl
  unfold tget
  rw [e, List.getD_eq_getElem?_getD, List.getElem?_eq_getElem h2, Option.getD_some]
theorem good_of {X : List (List Int)} (h : tabOk X) : GoodF (tget X) := by
  have key : ∀ f p f' p', f < 8 → p < 6 → f' < 8 → p' < 6 → 0 ≤ tget X f p → tget X f p = tget X f' p' → (f' < f ∨ (f' = f ∧ p' < p)) → False := by
    intro f p f' p' hf hp hf' hp' h0 he hlt
    obtain ⟨h1, h2, e1⟩ := tget_get h hf hp
    obtain ⟨h3, h4, e2⟩ := tget_get h hf' hp'
    have hn := ((h.2 f h1).2 p h2).2.2 (by rw [e1]; exact h0)
    apply hn
    rw [List.mem_append, e1, he, ← e2]
    rcases hlt with hl | ⟨rfl, hl⟩
    · refine .inl (List.mem_flatten.2 ⟨X[f'], ?_, List.getElem_mem h4⟩)
      have : f' < (X.take f).length := by rw [List.length_take]; omega
      rw [← List.getElem_take (i := f') (h := this)]
      exact List.getElem_mem this
    · refine .inr ?_
      have : p' < (X[f'].take p).length := by rw [List.length_take]; omega
      rw [← List.getElem_take (i := p') (h := this)]
      exact List.getElem_mem this
  refine ⟨fun f p hf hp => ?_, fun f p f' p' hf hp hf' hp' h0 he => ?_⟩
  · obtain ⟨h1, h2, e1⟩ := tget_get h hf hp
    rw [← e1]
    have := (h.2 f h1).2 p h2
    exact ⟨this.1, this.2.1⟩
  · by_cases h1 : f' < f ∨ (f' = f ∧ p' < p)
    · exact (key f p f' p' hf hp hf' hp' h0 he h1).elim
    · by_cases h2 : f < f' ∨ (f = f' ∧ p < p')
      · exact (key f' p' f p hf' hp' hf hp (by omega) he.symm h2).elim
      · omega
theorem rollF_good {D : List Bk} {φ : Nat → Nat → Int} {x : Nat} (h : GoodF φ) (hx : x ≤ 47) : GoodF (rollF D φ x) := by
  have hv : ∀ f p, rollF D φ x f p = if f = (pgAt D x).file.toNat ∧ p = (pgAt D x).place.toNat then (x : Int) else if φ f p = (x : Int) then -1 else φ f p := fun f p => rfl
  refine ⟨fun f p hf hp => ?_, fun f p f' p' hf hp hf' hp' h0 he => ?_⟩
  · have := h.1 f p hf hp
    rw [hv]
    split
    · omega
    · split <;> omega
  · rw [hv] at h0 he
    rw [hv] at he
    have hk := h.2 f p f' p' hf hp hf' hp'
    split at h0
    · rename_i ha
      rw [if_pos ha] at he
      split at he
      · rename_i hb; omega
      · split at he <;> omega
    · rename_i ha
      rw [if_neg ha] at he
      split at h0
      · omega
      · rename_i hc
        rw [if_neg hc] at he
        split at he
        · omega
        · split at he
          · omega
          · exact hk h0 he
theorem rollN_good {D : List Bk} (L : List Nat) : ∀ {φ : Nat → Nat → Int}, GoodF φ → (∀ x ∈ L, x ≤ 47) → GoodF (rollN D φ L) := by
  induction L with
  | nil => intro φ h _; exact h
  | cons x L ih =>
    intro φ h hx
    show GoodF (rollN D (rollF D φ x) L)
    exact ih (rollF_good h (hx x (List.mem_cons_self ..))) (fun y hy => hx y (List.mem_cons_of_mem _ hy))
theorem tofN_good (D : List Bk) : ∀ n, n ≤ 48 → GoodF (tofN D n) := by
  intro n
  induction n with
  | zero =>
    intro _
    refine ⟨fun f p _ _ => ?_, fun f p f' p' _ _ _ _ h0 _ => ?_⟩
    · simp [tofN]
    · simp [tofN] at h0
  | succ n ih =>
    intro hn
    have h := ih (by omega)
    rw [tofN_succ]
    split
    · have hv : ∀ f p, upd2 (tofN D n) (fiOf D n) (plOf D n) (n : Int) f p = if f = fiOf D n ∧ p = plOf D n then (n : Int) else tofN D n f p := fun f p => rfl
      refine ⟨fun f p hf hp => ?_, fun f p f' p' hf hp hf' hp' h0 he => ?_⟩
      · have := h.1 f p hf hp
        rw [hv]
        split <;> omega
      · rw [hv] at h0 he
        rw [hv] at he
        have hk := h.2 f p f' p' hf hp hf' hp'
        have r1 := tofN_range D n f p
        have r2 := tofN_range D n f' p'
        split at h0
        · rename_i ha
          rw [if_pos ha] at he
          split at he
          · rename_i hb; omega
          · omega
        · rename_i ha
          rw [if_neg ha] at he
          split at he
          · omega
          · exact hk h0 he
    · exact h
theorem tableOf_ok {D : List Bk} (hd : DvOk D) : tabOk (tableOf D) := by
  unfold tableOf
  rw [if_pos hd]
  exact tabOk_of (tofN_good D _ (by have := hd.1.2; omega))
theorem rollForward_ok {D : List Bk} {X : List (List Int)} {s : Int} (hd : DvOk D) (hx : tabOk X) : tabOk (rollForward D X s) := by
  unfold rollForward
  rw [if_pos ⟨hd, hx⟩]
  exact tabOk_of (rollN_good _ (good_of hx) (fun x h => by have := (ps_good h).2.1; have := hd.1.2; omega))
theorem newer_ok {p q : LdA} {X : List (List Int)} {N : Int} (h : NewerIs p q X N true) : tabOk X := by
  obtain ⟨X1, b1, X2, b2, h1, h2, ha, hb, hc⟩ := h
  have ok : ∀ {n s : Int} {xs : List Int} {X : List (List Int)}, LoadIs n xs s X true → tabOk X := fun {n s xs X} h => by
    by_cases hl : loadArgs n xs s
    · rw [(h.1 hl).1]; exact hl.2.2.2.1
    · have := (h.2 hl).2; cases this
  cases b1 <;> cases b2
  · have := (hc rfl rfl).2.2; cases this
  · obtain ⟨e1, e2, e3⟩ := hb (fun hh => by cases hh.1) rfl
    rw [e1]; exact ok h2
  · obtain ⟨e1, e2, e3⟩ := ha rfl (.inl rfl)
    rw [e1]; exact ok h1
  · by_cases hq : q.n ≤ p.n
    · obtain ⟨e1, e2, e3⟩ := ha rfl (.inr hq)
      rw [e1]; exact ok h1
    · obtain ⟨e1, e2, e3⟩ := hb (fun hh => by rcases hh.2 with h' | h' <;> first | cases h' | exact hq h') rfl
      rw [e1]; exact ok h2
theorem mountY_ok {D : List Bk} {p q : LdA} {X : List (List Int)} {N : Int} {bb : Bool} {s : Int} (hd : DvOk D) (h : NewerIs p q X N bb) : tabOk (mountY D X bb s) := by
  cases bb
  · exact tableOf_ok hd
  · exact rollForward_ok hd (newer_ok h)
theorem newer_none : NewerIs ⟨0, [], 0⟩ ⟨0, [], 0⟩ [] (-1) false := by
  have hl : ¬ loadArgs 0 [] 0 := fun h => by have := h.1; simp at this
  have h1 : LoadIs 0 [] 0 [] false := ⟨fun h => absurd h hl, fun _ => ⟨rfl, rfl⟩⟩
  exact ⟨[], false, [], false, h1, h1, fun h _ => absurd h (by simp), fun _ h => absurd h (by simp), fun _ _ => ⟨rfl, rfl, rfl⟩⟩
theorem tabF_small (φ : Nat → Nat → Int) : total (tabF φ) ≤ 1048576 ∧ (tabF φ).length ≤ 9223372036854775807 ∧ ∀ r ∈ tabF φ, r.length ≤ 9223372036854775807 := by
  refine ⟨by rw [show total (tabF φ) = 56 from rfl]; omega, by rw [tabF_len]; omega, fun r hr => ?_⟩
  unfold tabF at hr
  rw [List.mem_map] at hr
  obtain ⟨f, _, rfl⟩ := hr
  simp
theorem nil_small : total [] ≤ 1048576 ∧ ([] : List (List Int)).length ≤ 9223372036854775807 ∧ ∀ r ∈ ([] : List (List Int)), r.length ≤ 9223372036854775807 := by simp [total]
theorem tableOf_small (D : List Bk) : total (tableOf D) ≤ 1048576 ∧ (tableOf D).length ≤ 9223372036854775807 ∧ ∀ r ∈ tableOf D, r.length ≤ 9223372036854775807 := by
  unfold tableOf
  split
  · exact tabF_small _
  · exact nil_small
theorem rollForward_small (D : List Bk) (X : List (List Int)) (s : Int) : total (rollForward D X s) ≤ 1048576 ∧ (rollForward D X s).length ≤ 9223372036854775807 ∧ ∀ r ∈ rollForward D X s, r.length ≤ 9223372036854775807 := by
  unfold rollForward
  split
  · exact tabF_small _
  · exact nil_small
theorem mount_smallB (D : List Bk) (X : List (List Int)) (b : Bool) (s : Int) : total (mountY D X b s) ≤ 1048576 ∧ (mountY D X b s).length ≤ 9223372036854775807 ∧ ∀ r ∈ mountY D X b s, r.length ≤ 9223372036854775807 := by
  cases b
  · exact tableOf_small D
  · exact rollForward_small D X s
end Go.Proofs.Ytpiojofmflfkkaa
