/- Parts of the proof, merged: Uy. -/
import Derived.Test.YtpiojofmflfkkaaMo
import Derived.Test.YtpiojofmflfkkaaMg
/- Tables made of pages of a device are valid. -/
namespace Go.Proofs.Ytpiojofmflfkkaa
open Go.RowKit
theorem rollF_good {D : List Bk} {φ : Nat → Nat → Int} {x : Nat} (h : GoodF φ) (hx : x ≤ 47) : GoodF (rollF D φ x) := by
  have hv : ∀ f p, rollF D φ x f p = if f = (pgAt D x).file.toNat ∧ p = (pgAt D x).place.toNat then (x : Int) else if φ f p = (x : Int) then -1 else φ f p := fun f p => rfl
  refine ⟨fun f p hf hp => ?_, fun f p f' p' hf hp hf' hp' h0 he => ?_⟩
  · have := h.1 f p hf hp
    rw [hv]
    split
    · omega
    · split <;> omega
  · rw [hv] at h0 he
    rw [hv] at he
    have hk := h.2 f p f' p' hf hp hf' hp'
    split at h0
    · rename_i ha
      rw [if_pos ha] at he
      split at he
      · rename_i hb; omega
      · split at he <;> omega
    · rename_i ha
      rw [if_neg ha] at he
      split at h0
      · omega
      · rename_i hc
        rw [if_neg hc] at he
        split at he
        · omega
        · split at he
          · omega
          · exact hk h0 he
theorem rollN_good {D : List Bk} (L : List Nat) : ∀ {φ : Nat → Nat → Int}, GoodF φ → (∀ x ∈ L, x ≤ 47) → GoodF (rollN D φ L) := by
  induction L with
  | nil => intro φ h _; exact h
  | cons x L ih =>
    intro φ h hx
    show GoodF (rollN D (rollF D φ x) L)
    exact ih (rollF_good h (hx x (List.mem_cons_self ..))) (fun y hy => hx y (List.mem_cons_of_mem _ hy))
theorem tofN_good (D : List Bk) : ∀ n, n ≤ 48 → GoodF (tofN D n) := by
  intro n
  induction n with
  | zero =>
    intro _
    refine ⟨fun f p _ _ => ?_, fun f p f' p' _ _ _ _ h0 _ => ?_⟩
    · simp [tofN]
    · simp [tofN] at h0
  | succ n ih =>
    intro hn
    have h := ih (by omega)
    rw [tofN_succ]
    split
    · have hv : ∀ f p, upd2 (tofN D n) (fiOf D n) (plOf D n) (n : Int) f p = if f = fiOf D n ∧ p = plOf D n then (n : Int) else tofN D n f p := fun f p => rfl
      refine ⟨fun f p hf hp => ?_, fun f p f' p' hf hp hf' hp' h0 he => ?_⟩
      · have := h.1 f p hf hp
        rw [hv]
        split <;> omega
      · rw [hv] at h0 he
        rw [hv] at he
        have hk := h.2 f p f' p' hf hp hf' hp'
        have r1 := tofN_range D n f p
        have r2 := tofN_range D n f' p'
        split at h0
        · rename_i ha
          rw [if_pos ha] at he
          split at he
          · rename_i hb; omega
          · omega
        · rename_i ha
          rw [if_neg ha] at he
          split at he
          · omega
          · exact hk h0 he
    · exact h
theorem tableOf_ok {D : List Bk} (hd : DvOk D) : tabOk (tableOf D) := by
  unfold tableOf
  rw [if_pos hd]
  exact tabOk_of (tofN_good D _ (by have := hd.1.2; omega))
theorem rollForward_ok {D : List Bk} {X : List (List Int)} {s : Int} (hd : DvOk D) (hx : tabOk X) : tabOk (rollForward D X s) := by
  unfold rollForward
  rw [if_pos ⟨hd, hx⟩]
  exact tabOk_of (rollN_good _ (good_of hx) (fun x h => by have := (ps_good h).2.1; have := hd.1.2; omega))
theorem tabF_small (φ : Nat → Nat → Int) : total (tabF φ) ≤ 1048576 ∧ (tabF φ).length ≤ 9223372036854775807 ∧ ∀ r ∈ tabF φ, r.length ≤ 9223372036854775807 := by
  refine ⟨by rw [show total (tabF φ) = 56 from rfl]; omega, by rw [tabF_len]; omega, fun r hr => ?_⟩
  unfold tabF at hr
  rw [List.mem_map] at hr
  obtain ⟨f, _, rfl⟩ := hr
  simp
theorem nil_small : total [] ≤ 1048576 ∧ ([] : List (List Int)).length ≤ 9223372036854775807 ∧ ∀ r ∈ ([] : List (List Int)), r.length ≤ 9223372036854775807 := by simp [total]
theorem tableOf_small (D : List Bk) : total (tableOf D) ≤ 1048576 ∧ (tableOf D).length ≤ 9223372036854775807 ∧ ∀ r ∈ tableOf D, r.length ≤ 9223372036854775807 := by
  unfold tableOf
  split
  · exact tabF_small _
  · exact nil_small
theorem rollForward_small (D : List Bk) (X : List (List Int)) (s : Int) : total (rollForward D X s) ≤ 1048576 ∧ (rollForward D X s).length ≤ 9223372036854775807 ∧ ∀ r ∈ rollForward D X s, r.length ≤ 9223372036854775807 := by
  unfold rollForward
  split
  · exact tabF_small _
  · exact nil_small
end Go.Proofs.Ytpiojofmflfkkaa
