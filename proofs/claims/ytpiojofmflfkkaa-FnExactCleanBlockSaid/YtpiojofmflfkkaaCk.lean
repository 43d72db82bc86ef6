/- What CleanBlock gives, how large it is. No program is named here. -/
import Derived.Test.YtpiojofmflfkkaaCa
import Derived.Test.YtpiojofmflfkkaaMb
import Derived.Test.YtpiojofmflfkkaaMcw
import Derived.Test.YtpiojofmflfkkaaMg
namespace Go.Proofs.Ytpiojofmflfkkaa
theorem cbRun_inv {D : List Bk} {X : List (List Int)} {n L : Nat} {s : Int} (hd : DvOk D) (hn : n < D.length) (hs : 1 ≤ s) : ∀ (r k : Nat) (E : List Bk) (Y : List (List Int)) (h : Hd) (m : Nat) (E' : List Bk) (Y' : List (List Int)) (h' : Hd) (m' : Nat), k + r ≤ 4 → CbI L E Y h → cbRun D X n s r k E Y h m = some (E', Y', h', m') → CbI L E' Y' h'
  | 0, k, E, Y, h, m, E', Y', h', m', _, hi, e => by
    rw [cbRun_end] at e
    injection e with e
    injection e with e1 e
    injection e with e2 e
    injection e with e3 e4
    subst e1 e2 e3
    exact hi
  | r + 1, k, E, Y, h, m, E', Y', h', m', hk, hi, e => by
    by_cases hh : hitAt D X n k
    · by_cases hb : 1000000 < s + (m : Int)
      · rw [cbRun_big hh hb] at e; cases e
      · have hp := stamped_ok hd (x := 4 * n + k) (by omega) hh.1 (s := s + (m : Int)) (by omega) hb
        by_cases hz : (appendPage E h ((2 : Nat) : Int) (stamped (pgAt D (4 * n + k)) (s + (m : Int)))).2.2 < 0
        · rw [cbRun_stop hh hz] at e; cases e
        · rw [cbRun_step hh hb hz] at e
          exact cbRun_inv hd hn hs r (k + 1) _ _ _ _ E' Y' h' m' (by omega) (CbI.step hi hp.1 hp.2 hz).1 e
    · rw [cbRun_skip hh] at e
      exact cbRun_inv hd hn hs r (k + 1) E Y h m E' Y' h' m' (by omega) hi e
/-- The three ways that CleanBlock ends. -/
theorem clean_cases (D : List Bk) (X : List (List Int)) (h : Hd) (n s : Int) :
    (¬ cbOk D X h n s ∧ cleanBlock D X h n s = ⟨[], [], ⟨0, 0, 0⟩, 0, false⟩) ∨ (cbOk D X h n s ∧ cleanBlock D X h n s = ⟨D, X, h, 0, false⟩) ∨
    (cbOk D X h n s ∧ ¬ isHead h n ∧ ∃ (N : Nat) (E : List Bk) (Y : List (List Int)) (z : Hd) (m : Nat), n = (N : Int) ∧ N < D.length ∧ cbRun D X N s 4 0 D X h 0 = some (E, Y, z, m) ∧ CbI D.length E Y z ∧ (eraseAt E (N : Int)).2 = true ∧ cleanBlock D X h n s = ⟨(eraseAt E (N : Int)).1, Y, z, (m : Int), true⟩) := by
  by_cases hk : cbOk D X h n s
  · refine .inr ?_
    by_cases hi : isHead h n
    · exact .inl ⟨hk, by unfold cleanBlock; rw [if_pos hk, if_pos hi]⟩
    obtain ⟨hH, hX, hn, hs, hf⟩ := hk
    obtain ⟨N, rfl⟩ := Int.eq_ofNat_of_zero_le hn.1
    have e : cleanBlock D X h (N : Int) s = cbEnd D X h N (cbRun D X N s 4 0 D X h 0) := by
      unfold cleanBlock
      rw [if_pos ⟨hH, hX, hn, hs, hf⟩, if_neg hi]
      rfl
    cases hr : cbRun D X N s 4 0 D X h 0 with
    | none => rw [hr] at e; exact .inl ⟨⟨hH, hX, hn, hs, hf⟩, e⟩
    | some q =>
      obtain ⟨E, Y, z, m⟩ := q
      rw [hr] at e
      have hci := cbRun_inv (L := D.length) hH.1 (show N < D.length by omega) hs.1 4 0 D X h 0 E Y z m (by omega) ⟨hH, rfl, hX, hf⟩ hr
      by_cases he : (eraseAt E (N : Int)).2 = true
      · refine .inr ⟨⟨hH, hX, hn, hs, hf⟩, hi, N, E, Y, z, m, rfl, by omega, hr, hci, he, ?_⟩
        rw [e]; exact if_pos he
      · refine .inl ⟨⟨hH, hX, hn, hs, hf⟩, ?_⟩
        rw [e]; exact if_neg he
  · exact .inl ⟨hk, by unfold cleanBlock; rw [if_neg hk]⟩
theorem devSize_four {E : List Bk} (h : ∀ b ∈ E, b.pages.length = 4) : devSize E = 5 * E.length := by
  unfold devSize
  have : (E.map fun b => b.pages.length).sum = 4 * E.length := by
    induction E with
    | nil => rfl
    | cons b E ih =>
      rw [List.map_cons, List.sum_cons, ih (fun q hq => h q (List.mem_cons_of_mem _ hq)), h b (List.mem_cons_self ..), List.length_cons]
      omega
  rw [this]; omega
theorem total_ok {Y : List (List Int)} (h : tabOk Y) : total Y = 56 := by
  have h6 : ∀ r ∈ Y, r.length = 6 := fun r hr => by
    obtain ⟨k, hk, rfl⟩ := List.getElem_of_mem hr
    exact (h.2 k hk).1
  have key : ∀ Z : List (List Int), (∀ r ∈ Z, r.length = 6) → (Z.map List.length).sum = 6 * Z.length := by
    intro Z
    induction Z with
    | nil => intro _; rfl
    | cons b Z ih =>
      intro hz
      rw [List.map_cons, List.sum_cons, ih (fun q hq => hz q (List.mem_cons_of_mem _ hq)), hz b (List.mem_cons_self ..), List.length_cons]
      omega
  unfold total
  rw [key Y h6, h.1]
theorem erased_four {E : List Bk} {k : Nat} (h : DvOk E) (hk : k < E.length) : ∀ b ∈ (eraseAt E (k : Int)).1, b.pages.length = 4 := by
  rw [eraseAt_yes h hk]
  intro b hb
  rcases List.mem_or_eq_of_mem_set hb with h1 | rfl
  · obtain ⟨j, hj, rfl⟩ := List.getElem_of_mem h1
    exact (h.2 j hj).2.1
  · have h1 := h.2 k hk
    by_cases h2 : E[k].wear = 100
    · rw [eraseBlock_old h1 h2]; exact h1.2.1
    · rw [eraseBlock_new h1 h2]; simp
theorem erased_len {E : List Bk} {k : Nat} (h : DvOk E) (hk : k < E.length) : (eraseAt E (k : Int)).1.length = E.length := by
  rw [eraseAt_yes h hk, List.length_set]
theorem clean_small (D : List Bk) (X : List (List Int)) (h : Hd) (n s : Int) (hD : devSize D ≤ 1048576) (hX : total X ≤ 1048576) :
    devSize (cleanBlock D X h n s).dev ≤ 1048576 ∧ total (cleanBlock D X h n s).tab ≤ 1048576 := by
  rcases clean_cases D X h n s with ⟨-, e⟩ | ⟨-, e⟩ | ⟨-, -, N, E, Y, z, m, rfl, hN, hr, hci, he, e⟩
  · rw [e]; simp [devSize, total]
  · rw [e]; exact ⟨hD, hX⟩
  · rw [e]
    simp only
    have hN' : N < E.length := by rw [hci.len]; exact hN
    rw [devSize_four (erased_four hci.ok.1 hN'), erased_len hci.ok.1 hN', total_ok hci.tab]
    have := hci.ok.1.1.2
    omega
theorem size_small {D : List Bk} (h : devSize D ≤ 1048576) : Small D := ⟨by have := devSize_len D; omega, fun k hk => by have := devSize_page D k hk; omega⟩
theorem total_small {X : List (List Int)} (h : total X ≤ 1048576) : X.length ≤ 9223372036854775807 ∧ ∀ r ∈ X, r.length ≤ 9223372036854775807 := by
  refine ⟨by unfold total at h; omega, fun r hr => ?_⟩
  obtain ⟨k, hk, rfl⟩ := List.getElem_of_mem hr
  have := total_row X k hk
  omega
end Go.Proofs.Ytpiojofmflfkkaa
