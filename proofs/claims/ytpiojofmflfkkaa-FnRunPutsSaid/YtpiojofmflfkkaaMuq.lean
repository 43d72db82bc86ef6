/- Parts of the proof, merged: Up, Uq. -/
import Derived.Test.YtpiojofmflfkkaaMs
import Derived.Test.YtpiojofmflfkkaaMc
import Derived.Test.YtpiojofmflfkkaaMo
/- RunPuts, the plain law: what the device holds behind the writes. No program is named here. -/
namespace Go.Proofs.Ytpiojofmflfkkaa
/-- What holds of a device and heads behind the writes 'done', each written as a warm page. -/
structure Runs (L : Nat) (D : List Bk) (h : Hd) (done : List Pt) : Prop where
  ok : HeadsOk D h
  len : D.length = L
  src : ∀ x, x < 4 * D.length → (pgAt D x).full = true → ∃ (j : Nat) (hj : j < done.length), pgAt D x = pgOf done[j] j
  dst : ∀ (j : Nat) (hj : j < done.length), ∃ x, x < 4 * D.length ∧ pgAt D x = pgOf done[j] j
  rest : ∀ (k : Nat) (hk : k < D.length), (k : Int) ≠ h.warm → lead D[k].pages = 0 ∨ lead D[k].pages = 4
  hot : h.hot = -1
  cold : h.cold = -1
theorem newBlock_pages : (newBlock 0).pages = List.replicate 4 zPg := by simp [newBlock]
theorem newDv_rep {n : Nat} (hn : 1 ≤ n ∧ n ≤ 12) : newDevice (n : Int) = List.replicate n (newBlock 0) := by
  unfold newDevice; rw [if_pos (by omega), Int.toNat_natCast]
theorem Runs.new {n : Nat} (hn : 1 ≤ n ∧ n ≤ 12) : Runs n (newDevice n) ⟨-1, -1, -1⟩ [] := by
  have hl : (newDevice (n : Int)).length = n := by rw [newDv_rep hn]; simp
  have hz : ∀ x, x < 4 * (newDevice (n : Int)).length → pgAt (newDevice (n : Int)) x = zPg := by
    intro x hx
    rw [hl] at hx
    have hx4 : x % 4 < 4 := by omega
    unfold pgAt
    rw [newDv_rep hn, getD_get (List.replicate n (newBlock 0)) zBk (k := x / 4) (by simp; omega), List.getElem_replicate, newBlock_pages, getD_get (List.replicate 4 zPg) zPg (k := x % 4) (by simpa using hx4), List.getElem_replicate]
  refine ⟨heads_none hn, hl, fun x hx hf => ?_, fun j hj => absurd hj (Nat.not_lt_zero j), fun k hk _ => .inl ?_, rfl, rfl⟩
  · rw [hz x hx] at hf; cases hf
  · have e : (newDevice (n : Int))[k] = newBlock 0 := by
      have : ∀ (l : List Bk) (hk : k < l.length), l = List.replicate n (newBlock 0) → l[k] = newBlock 0 := fun l hk e => by subst e; simp
      exact this _ hk (newDv_rep hn)
    rw [e, newBlock_pages]
    rfl
theorem pgOf_full (x : Pt) (i : Nat) : (pgOf x i).full = true := rfl
/-- A write into a block with a free page. -/
theorem Runs.write {L : Nat} {D : List Bk} {h h' : Hd} {done : List Pt} (hr : Runs L D h done) {k : Nat} (hk : k < D.length) (hl : lead D[k].pages < 4) {x : Pt} (hh : HeadsOk (D.set k ⟨D[k].wear, D[k].pages.set (lead D[k].pages) (pgOf x done.length)⟩) h')
    (hw : h'.warm = (k : Int)) (hot : h'.hot = -1) (cold : h'.cold = -1) (hold : ∀ (j : Nat) (hj : j < D.length), (j : Int) ≠ (k : Int) → lead D[j].pages = 0 ∨ lead D[j].pages = 4) :
    Runs L (D.set k ⟨D[k].wear, D[k].pages.set (lead D[k].pages) (pgOf x done.length)⟩) h' (done ++ [x]) := by
  have hw1 := pgAt_write (p := pgOf x done.length) hr.ok.1 hk hl
  have h4 := (hr.ok.1.2 k hk).2.1
  refine ⟨hh, by rw [List.length_set]; exact hr.len, fun y hy hf => ?_, fun j hj => ?_, fun j hj hne => ?_, hot, cold⟩
  · rw [List.length_set] at hy
    rw [hw1 y hy] at hf ⊢
    by_cases he : y = 4 * k + lead D[k].pages
    · rw [if_pos he]
      exact ⟨done.length, by simp, by simp⟩
    · rw [if_neg he] at hf ⊢
      obtain ⟨j, hj, e⟩ := hr.src y hy hf
      exact ⟨j, by rw [List.length_append]; omega, by rw [List.getElem_append_left hj]; exact e⟩
  · rw [List.length_append, List.length_singleton] at hj
    simp only [List.length_set]
    by_cases he : j < done.length
    · obtain ⟨y, hy, e⟩ := hr.dst j he
      refine ⟨y, hy, ?_⟩
      rw [hw1 y hy, if_neg, List.getElem_append_left he, e]
      rintro rfl
      have := pgAt_lead hr.ok.1 hk hl
      rw [e] at this
      cases this
    · obtain rfl : j = done.length := by omega
      refine ⟨4 * k + lead D[k].pages, by omega, ?_⟩
      rw [hw1 _ (by omega), if_pos rfl]
      simp
  · rw [hw] at hne
    rw [List.length_set] at hj
    rw [List.getElem_set_ne (fun e => hne (by rw [e]))]
    exact hold j hj hne
/-- One write more: either it is made, or all pages are written. -/
theorem Runs.step {L : Nat} {D : List Bk} {h : Hd} {done : List Pt} (hr : Runs L D h done) {x : Pt} (hp : PgOk (pgOf x done.length)) :
    ((appendPage D h ((1 : Nat) : Int) (pgOf x done.length)).2.2 < 0 ∧ ∀ (k : Nat) (hk : k < D.length), lead D[k].pages = 4) ∨
    (¬ (appendPage D h ((1 : Nat) : Int) (pgOf x done.length)).2.2 < 0 ∧ Runs L (appendPage D h ((1 : Nat) : Int) (pgOf x done.length)).1 (appendPage D h ((1 : Nat) : Int) (pgOf x done.length)).2.1 (done ++ [x])) := by
  have hf := pgOf_full x done.length
  have hok := (HeadsOk.append (n := 1) hr.ok (by omega) hp hf).1
  have hg : h.get ((1 : Nat) : Int) = h.warm := rfl
  by_cases hx : 0 ≤ h.get ((1 : Nat) : Int) ∧ lead (D.getD (h.get ((1 : Nat) : Int)).toNat zBk).pages < 4
  · obtain ⟨y, e⟩ := Int.eq_ofNat_of_zero_le hx.1
    have hk : y < D.length := by have := (hr.ok.get 1).2; omega
    have hl := hx.2
    rw [e, Int.toNat_natCast, getD_get _ _ hk] at hl
    rw [appendPage_head hr.ok (by omega) hp hf e hk hl, program_lead hr.ok.1 hk hp hf hl] at hok ⊢
    rw [hg] at e
    refine .inr ⟨by simp only; omega, hr.write hk hl hok e hr.hot hr.cold fun j hj hne => hr.rest j hj (by rw [e]; exact hne)⟩
  · have hwf : ∀ (j : Nat) (hj : j < D.length), (j : Int) = h.warm → lead D[j].pages = 4 := by
      intro j hj e
      have h5 := lead_four hr.ok.1 hj
      rw [hg, ← e, Int.toNat_natCast, getD_get _ _ hj] at hx
      omega
    have hall : ∀ (j : Nat) (hj : j < D.length), lead D[j].pages = 0 ∨ lead D[j].pages = 4 := by
      intro j hj
      by_cases e : (j : Int) = h.warm
      · exact .inr (hwf j hj e)
      · exact hr.rest j hj e
    by_cases hl : fresh D h < 0
    · rw [appendPage_none hr.ok (by omega) hp hf hx hl]
      refine .inl ⟨by simp, fun j hj => ?_⟩
      rcases hall j hj with h0 | h0
      · exfalso
        unfold fresh at hl
        rw [if_pos hr.ok] at hl
        have hne : (j : Int) ≠ h.warm := fun e => by rw [hwf j hj e] at h0; omega
        have := (bestTo_least (freshGood D h) (wearAt D) D.length j hj (by
          unfold freshGood
          rw [getD_get _ _ hj, h0]
          have : ¬ isHead h (j : Int) := by unfold isHead; rw [hr.hot, hr.cold]; omega
          simp [this])).1
        omega
      · exact h0
    · obtain ⟨y, e⟩ := Int.eq_ofNat_of_zero_le (show 0 ≤ fresh D h by omega)
      have hk : y < D.length := by have := (fresh_range (D := D) (h := h)).2; omega
      have hl0 : lead D[y].pages = 0 := by
        unfold fresh at hl e
        rw [if_pos hr.ok] at hl e
        have := bestTo_good (freshGood D h) (wearAt D) D.length (by omega)
        rw [e, Int.toNat_natCast] at this
        unfold freshGood at this
        rw [getD_get _ _ hk] at this
        simp only [Bool.and_eq_true, decide_eq_true_eq] at this
        exact this.1
      have hl4 : lead D[y].pages < 4 := by omega
      rw [appendPage_fresh hr.ok (by omega) hp hf hx e, program_lead hr.ok.1 hk hp hf hl4] at hok ⊢
      refine .inr ⟨by simp only; omega, hr.write hk hl4 hok rfl hr.hot hr.cold fun j hj _ => hall j hj⟩
theorem full_free {D : List Bk} (hd : DvOk D) (h : ∀ (k : Nat) (hk : k < D.length), lead D[k].pages = 4) : freePages D = 0 := by
  have : ∀ n, n ≤ D.length → freeTo D n = 0 := by
    intro n
    induction n with
    | zero => intro _; rfl
    | succ n ih =>
      intro hn
      unfold freeTo
      rw [ih (by omega), getD_get _ _ hn, written_lead (hd.2 n hn).2.2, h n hn]
  unfold freePages
  rw [if_pos hd, this _ (Nat.le_refl _)]
  rfl
/-- The writes in turn. -/
theorem Runs.run {L : Nat} (xs : List Pt) : ∀ (ys : List Pt) (D : List Bk) (h : Hd) (done : List Pt), Runs L D h done → done ++ ys = xs → (∀ (k : Nat) (hk : k < xs.length), PgOk (pgOf xs[k] k)) →
    ∃ (h' : Hd) (m : Nat), (runAt D h done.length ys).2 = (m : Int) ∧ done.length ≤ m ∧ m ≤ xs.length ∧ Runs L (runAt D h done.length ys).1 h' (xs.take m) ∧ (m < xs.length → freePages (runAt D h done.length ys).1 = 0) := by
  intro ys
  induction ys with
  | nil =>
    intro D h done hr he _
    rw [List.append_nil] at he
    subst he
    exact ⟨h, done.length, rfl, Nat.le_refl _, Nat.le_refl _, by rw [List.take_length]; exact hr, fun hh => absurd hh (Nat.lt_irrefl _)⟩
  | cons x ys ih =>
    intro D h done hr he hp
    have hlen : xs.length = done.length + (ys.length + 1) := by rw [← he, List.length_append, List.length_cons]
    have hx : xs[done.length]'(by omega) = x := by subst he; simp
    have hpx : PgOk (pgOf x done.length) := by have := hp done.length (by omega); rwa [hx] at this
    unfold runAt
    rcases hr.step hpx with ⟨h1, h2⟩ | ⟨h1, h2⟩
    · rw [if_pos h1]
      refine ⟨h, done.length, rfl, Nat.le_refl _, by omega, ?_, fun _ => full_free hr.ok.1 h2⟩
      have : xs.take done.length = done := by subst he; simp
      rw [this]
      exact hr
    · rw [if_neg h1]
      obtain ⟨h', m, e1, e2, e3, e4, e5⟩ := ih _ _ _ h2 (by rw [List.append_assoc]; exact he) hp
      rw [List.length_append, List.length_singleton] at e1 e2 e4 e5
      exact ⟨h', m, e1, by omega, e3, e4, e5⟩
theorem runAt_cut : ∀ (ys : List Pt) (D : List Bk) (h : Hd) (i c m : Nat), (runAt D h i ys).2 = (m : Int) → i ≤ m → c ≤ m - i → (runAt D h i (ys.take c)).2 = ((i + c : Nat) : Int) := by
  intro ys
  induction ys with
  | nil =>
    intro D h i c m h1 h2 h3
    have : m = i := by
      have h1' : (i : Int) = (m : Int) := h1
      omega
    have : c = 0 := by omega
    subst this
    rfl
  | cons x ys ih =>
    intro D h i c m h1 h2 h3
    cases c with
    | zero => rfl
    | succ c =>
      rw [List.take_succ_cons]
      unfold runAt at h1 ⊢
      split
      · rename_i hz
        rw [if_pos hz] at h1
        have h1' : (i : Int) = (m : Int) := h1
        omega
      · rename_i hz
        rw [if_neg hz] at h1
        have hm : i + 1 ≤ m := by omega
        have := ih _ _ (i + 1) c m h1 hm (by omega)
        rw [this]
        congr 1
        omega
/-- How many blocks, and which writes: good. -/
def runOk (n : Int) (xs : List Pt) : Prop := (1 ≤ n ∧ n ≤ 12) ∧ putsOk xs
theorem runPuts_not {n : Int} {xs : List Pt} (h : ¬ runOk n xs) : runPuts n xs = ([], -1) := if_neg h
theorem runPuts_yes {n : Int} {xs : List Pt} (h : runOk n xs) : ∃ (h' : Hd) (m : Nat), (runPuts n xs).2 = (m : Int) ∧ m ≤ xs.length ∧ Runs n.toNat (runPuts n xs).1 h' (xs.take m) ∧ (m < xs.length → freePages (runPuts n xs).1 = 0) := by
  obtain ⟨k, rfl⟩ := Int.eq_ofNat_of_zero_le (show 0 ≤ n by have := h.1; omega)
  have hk : 1 ≤ k ∧ k ≤ 12 := by have := h.1; omega
  obtain ⟨h', m, e1, -, e3, e4, e5⟩ := Runs.run xs xs _ _ [] (Runs.new hk) rfl (fun k hk => (pgOf_ok h.2 hk).1)
  have e : runPuts (k : Int) xs = runAt (newDevice k) ⟨-1, -1, -1⟩ 0 xs := if_pos h
  rw [e]
  exact ⟨h', m, e1, e3, e4, e5⟩
theorem putsOk_take {xs : List Pt} (h : putsOk xs) (c : Nat) : putsOk (xs.take c) := ⟨by have := h.1; rw [List.length_take]; omega, fun x hx => h.2 x (List.mem_of_mem_take hx)⟩
/-- A beginning of writes that could be made can be made. -/
theorem runPuts_cut {n : Int} {xs : List Pt} (h : runOk n xs) {m c : Nat} (hm : (runPuts n xs).2 = (m : Int)) (hc : c ≤ m) : runOk n (xs.take c) ∧ (runPuts n (xs.take c)).2 = (c : Int) ∧ ∃ h', Runs n.toNat (runPuts n (xs.take c)).1 h' (xs.take c) := by
  have ho : runOk n (xs.take c) := ⟨h.1, putsOk_take h.2 c⟩
  obtain ⟨h1, m1, e1, e2, e3, -⟩ := runPuts_yes h
  obtain ⟨h2, m2, f1, f2, f3, -⟩ := runPuts_yes ho
  have hcut : (runPuts n (xs.take c)).2 = (c : Int) := by
    have ea : runPuts n xs = runAt (newDevice n) ⟨-1, -1, -1⟩ 0 xs := if_pos h
    have eb : runPuts n (xs.take c) = runAt (newDevice n) ⟨-1, -1, -1⟩ 0 (xs.take c) := if_pos ho
    rw [ea] at hm
    rw [eb]
    have := runAt_cut xs _ _ 0 c m hm (Nat.zero_le _) hc
    rwa [Nat.zero_add] at this
  have : m2 = c := by omega
  subst this
  refine ⟨ho, hcut, h2, ?_⟩
  rw [List.take_take, Nat.min_self] at f3
  exact f3
/-- The value of the last write. -/
theorem lastVal_cases (f p : Int) : ∀ xs : List Pt, (lastVal f p xs = -1 ∧ ∀ (j : Nat) (hj : j < xs.length), ¬ (xs[j].file = f ∧ xs[j].place = p)) ∨
    ∃ (j : Nat) (hj : j < xs.length), lastVal f p xs = xs[j].value ∧ (xs[j].file = f ∧ xs[j].place = p) ∧ ∀ (i : Nat) (hi : i < xs.length), (xs[i].file = f ∧ xs[i].place = p) → i ≤ j := by
  intro xs
  suffices hs : ∀ k, k ≤ xs.length → (lastVal f p (xs.take k) = -1 ∧ ∀ (j : Nat) (hj : j < xs.length), j < k → ¬ (xs[j].file = f ∧ xs[j].place = p)) ∨
    ∃ (j : Nat) (hj : j < xs.length), j < k ∧ lastVal f p (xs.take k) = xs[j].value ∧ (xs[j].file = f ∧ xs[j].place = p) ∧ ∀ (i : Nat) (hi : i < xs.length), i < k → (xs[i].file = f ∧ xs[i].place = p) → i ≤ j by
    rcases hs xs.length (Nat.le_refl _) with ⟨h1, h2⟩ | ⟨j, hj, -, h1, h2, h3⟩
    · rw [List.take_length] at h1
      exact .inl ⟨h1, fun j hj => h2 j hj hj⟩
    · rw [List.take_length] at h1
      exact .inr ⟨j, hj, h1, h2, fun i hi => h3 i hi hi⟩
  intro k
  induction k with
  | zero => intro _; exact .inl ⟨rfl, fun j _ hj => absurd hj (Nat.not_lt_zero j)⟩
  | succ k ih =>
    intro hk
    rw [lastVal_succ f p xs k hk]
    by_cases hm : xs[k].file = f ∧ xs[k].place = p
    · rw [if_pos hm]
      exact .inr ⟨k, hk, Nat.lt_succ_self k, rfl, hm, fun i _ hi _ => by omega⟩
    · rw [if_neg hm]
      rcases ih (by omega) with ⟨h1, h2⟩ | ⟨j, hj, hjk, h1, h2, h3⟩
      · refine .inl ⟨h1, fun j hj hjk hh => ?_⟩
        by_cases he : j = k
        · subst he; exact hm hh
        · exact h2 j hj (by omega) hh
      · refine .inr ⟨j, hj, by omega, h1, h2, fun i hi hik hh => ?_⟩
        by_cases he : i = k
        · subst he; exact absurd hh hm
        · exact h3 i hi (by omega) hh
end Go.Proofs.Ytpiojofmflfkkaa
/- RunPuts, the plain law: what the table of the device holds behind the writes. No program is named here. -/
namespace Go.Proofs.Ytpiojofmflfkkaa
/-- The table names, for each file and place, the page of the greatest stamp. -/
theorem tofN_best (D : List Bk) (f p : Nat) : ∀ n, (tofN D n f p = -1 ∧ ∀ x, x < n → (pgAt D x).full = true → ¬ (fiOf D x = f ∧ plOf D x = p)) ∨
    ∃ y, y < n ∧ tofN D n f p = (y : Int) ∧ (pgAt D y).full = true ∧ (fiOf D y = f ∧ plOf D y = p) ∧ ∀ x, x < n → (pgAt D x).full = true → (fiOf D x = f ∧ plOf D x = p) → stampOf D x ≤ stampOf D y := by
  intro n
  induction n with
  | zero => exact .inl ⟨rfl, fun x hx => absurd hx (Nat.not_lt_zero x)⟩
  | succ n ih =>
    rw [tofN_succ]
    by_cases hc : (pgAt D n).full = true ∧ (tofN D n (fiOf D n) (plOf D n) < 0 ∨ stampOf D (tofN D n (fiOf D n) (plOf D n)).toNat < stampOf D n)
    · rw [if_pos hc]
      have hv : upd2 (tofN D n) (fiOf D n) (plOf D n) (n : Int) f p = if f = fiOf D n ∧ p = plOf D n then (n : Int) else tofN D n f p := rfl
      rw [hv]
      by_cases he : f = fiOf D n ∧ p = plOf D n
      · rw [if_pos he]
        refine .inr ⟨n, Nat.lt_succ_self n, rfl, hc.1, ⟨he.1.symm, he.2.symm⟩, fun x hx hf hh => ?_⟩
        by_cases hxn : x = n
        · subst hxn; exact Int.le_refl _
        · rcases ih with ⟨h1, h2⟩ | ⟨y, hy, h1, h2, h3, h4⟩
          · exact absurd hh (h2 x (by omega) hf)
          · rw [← he.1, ← he.2, h1] at hc
            rcases hc.2 with h5 | h5
            · omega
            · rw [Int.toNat_natCast] at h5
              exact Int.le_trans (h4 x (by omega) hf hh) (Int.le_of_lt h5)
      · rw [if_neg he]
        rcases ih with ⟨h1, h2⟩ | ⟨y, hy, h1, h2, h3, h4⟩
        · refine .inl ⟨h1, fun x hx hf hh => ?_⟩
          by_cases hxn : x = n
          · subst hxn; exact he ⟨hh.1.symm, hh.2.symm⟩
          · exact h2 x (by omega) hf hh
        · refine .inr ⟨y, by omega, h1, h2, h3, fun x hx hf hh => ?_⟩
          by_cases hxn : x = n
          · subst hxn; exact absurd ⟨hh.1.symm, hh.2.symm⟩ he
          · exact h4 x (by omega) hf hh
    · rw [if_neg hc]
      rcases ih with ⟨h1, h2⟩ | ⟨y, hy, h1, h2, h3, h4⟩
      · refine .inl ⟨h1, fun x hx hf hh => ?_⟩
        by_cases hxn : x = n
        · subst hxn
          rw [hh.1, hh.2, h1] at hc
          exact hc ⟨hf, .inl (by omega)⟩
        · exact h2 x (by omega) hf hh
      · refine .inr ⟨y, by omega, h1, h2, h3, fun x hx hf hh => ?_⟩
        by_cases hxn : x = n
        · subst hxn
          rw [hh.1, hh.2, h1, Int.toNat_natCast] at hc
          have : ¬ (stampOf D y < stampOf D x) := fun h5 => hc ⟨hf, .inr h5⟩
          omega
        · exact h4 x (by omega) hf hh
theorem pgOf_hit {x : Pt} {i f p : Nat} (h : x.ok) : ((pgOf x i).file.toNat = f ∧ (pgOf x i).place.toNat = p) ↔ (x.file = (f : Int) ∧ x.place = (p : Int)) := by
  obtain ⟨h1, h2, h3, h4, h5, h6⟩ := h
  show (x.file.toNat = f ∧ x.place.toNat = p) ↔ _
  omega
/-- What is read at a file and a place behind the writes: the value of the last one. -/
theorem Runs.reads {L : Nat} {D : List Bk} {h : Hd} {xs : List Pt} (hr : Runs L D h xs) (hok : putsOk xs) {f p : Nat} (hf : f < 8) (hp : p < 6) :
    (readPage D (tget (tableOf D) f p)).full = decide (0 ≤ lastVal f p xs) ∧ ((readPage D (tget (tableOf D) f p)).full = true → (readPage D (tget (tableOf D) f p)).value = lastVal f p xs) := by
  have e : tget (tableOf D) f p = tofN D (4 * D.length) f p := by
    unfold tableOf
    rw [if_pos hr.ok.1, tget_tabF _ hf hp]
  rw [e]
  rcases tofN_best D f p (4 * D.length) with ⟨h1, h2⟩ | ⟨y, hy, h1, h2, h3, h4⟩
  · rw [h1]
    have hz : readPage D (-1) = zPg := readPage_no (by omega)
    have hn : lastVal f p xs = -1 := by
      rcases lastVal_cases f p xs with ⟨h5, -⟩ | ⟨j, hj, -, h6, -⟩
      · exact h5
      · obtain ⟨x, hx, ex⟩ := hr.dst j hj
        refine absurd ?_ (h2 x hx (by rw [ex]; rfl))
        unfold fiOf plOf
        rw [ex]
        exact (pgOf_hit (hok.2 _ (List.getElem_mem hj))).2 h6
    rw [hz, hn]
    exact ⟨rfl, fun hh => by cases hh⟩
  · rw [h1, readPage_yes hr.ok.1 hy]
    obtain ⟨j, hj, ey⟩ := hr.src y hy h2
    have hxj := hok.2 _ (List.getElem_mem hj)
    unfold fiOf plOf at h3
    rw [ey] at h3
    have hhit := (pgOf_hit hxj).1 h3
    have hval : lastVal f p xs = xs[j].value := by
      rcases lastVal_cases f p xs with ⟨-, h6⟩ | ⟨i, hi, h5, h6, h7⟩
      · exact absurd hhit (h6 j hj)
      · have hji := h7 j hj hhit
        obtain ⟨x, hx, ex⟩ := hr.dst i hi
        have := h4 x hx (by rw [ex]; rfl) (by unfold fiOf plOf; rw [ex]; exact (pgOf_hit (hok.2 _ (List.getElem_mem hi))).2 h6)
        unfold stampOf at this
        rw [ex, ey] at this
        have h8 : (i : Int) + 1 ≤ (j : Int) + 1 := this
        obtain rfl : i = j := by omega
        exact h5
    rw [hval, h2, ey]
    refine ⟨?_, fun _ => rfl⟩
    have : 0 ≤ xs[j].value := hxj.2.2.2.2.1
    simp [this]
end Go.Proofs.Ytpiojofmflfkkaa
