/- A region that draws its order, where an operation may write anew a slot that others of the region read ahead of it ('x = append(x, ..)'). -/
import Derived.Test.YtenbbkmbnpdfaaaRo
namespace Go.Proofs.Ytenbbkmbnpdfaaa
/-- Operation j cannot be done before operation i. -/
def needsB (ops : Array Oper) : Nat → Nat → Nat → Bool
  | 0, _, _ => false
  | n + 1, j, i => match ops[j]? with
    | none => false
    | some o => o.after.toList.any fun e => Region.binds .any e && (e.on == i || needsB ops n e.on i)
def Closed (ops : Array Oper) (D : List Nat) : Prop := ∀ j ∈ D, ∀ o, ops[j]? = some o → ∀ e ∈ o.after, Region.binds .any e = true → e.on ∈ D
theorem Closed.needs' {ops : Array Oper} {D : List Nat} (h : Closed ops D) : ∀ n j i, needsB ops n j i = true → j ∈ D → i ∈ D
  | 0, _, _, hn, _ => by simp [needsB] at hn
  | n + 1, j, i, hn, hj => by
    unfold needsB at hn
    cases ho : ops[j]? with
    | none => rw [ho] at hn; cases hn
    | some o =>
      rw [ho] at hn
      simp only [List.any_eq_true, Bool.and_eq_true, Bool.or_eq_true, beq_iff_eq] at hn
      obtain ⟨e, he, hb, h1⟩ := hn
      have hd := h j hj o ho e (by simpa using he) hb
      rcases h1 with rfl | h1
      · exact hd
      · exact Closed.needs' h n e.on i h1 hd
theorem Closed.needs {ops : Array Oper} {D : List Nat} (h : Closed ops D) {n j i : Nat} (hn : needsB ops n j i = true) (hj : j ∈ D) : i ∈ D := h.needs' n j i hn hj
/-- As 'Needs'; a slot that is written behind this operation holds what it held. -/
def NeedsS (ops : Array Oper) (Post : Nat → Value → World → Prop) (m : Nat → Option Value) (a0 a : Act) (w : World) (af : Array Edge) : List Operand → Prop
  | [] => True
  | .tmp t :: xs => (match findDst ops.toList 0 t with
      | some j => (match af.toList.any (fun e => Region.binds .any e && e.on == j) with
          | true => ∃ v, a.tmps[t]?.getD undef = v ∧ m j = some v ∧ Post j v w
          | false => a.tmps[t]?.getD undef = a0.tmps[t]?.getD undef)
      | none => a.tmps[t]?.getD undef = a0.tmps[t]?.getD undef) ∧ NeedsS ops Post m a0 a w af xs
  | _ :: xs => NeedsS ops Post m a0 a w af xs
def StepAtS (P : Program) (ops : Array Oper) (Q : Exit → Act → World → Prop) (WInv : Nat → (Nat → Option Value) → World → Prop) (R : World → World → Prop) (Post : Nat → Value → World → Prop) (a0 : Act) (i : Nat) (o : Oper) : Prop :=
  ∀ c m a w, c < ops.size → WInv c m w → m i = none → NeedsS ops Post m a0 a w o.after o.op.operands.toList → Oper.wp P o a w (Aft WInv R Post c m i o.dst a w) Q
def regionOkS (ops : Array Oper) (n : Nat) (gl : List (Nat × Option Bool)) : Bool :=
  (List.range ops.size).all fun i => match ops[i]? with
    | none => true
    | some o => (match o.guard with | none => true | some p => (gl.lookup p.1).isSome && (dstAt ops p.1).isSome && o.after.toList.any fun e => Region.binds .any e && e.on == p.1)
      && (match o.dst with | none => true | some d => decide (d < n) && (List.range ops.size).all fun j => j == i || dstAt ops j != some d)
      && (o.after.toList.all fun e => !Region.binds .any e || decide (e.on < i))
      && (o.op.operands.toList.all fun x => match x with
          | .tmp t => (match findDst ops.toList 0 t with | none => true | some j => (o.after.toList.any fun e => Region.binds .any e && e.on == j) || needsB ops ops.size j i)
          | _ => true)
def Step1S (gl : List (Nat × Option Bool)) (P : Program) (ops : Array Oper) (Q : Exit → Act → World → Prop) (WInv : Nat → (Nat → Option Value) → World → Prop) (R : World → World → Prop) (Post : Nat → Value → World → Prop) (a0 : Act) (i : Nat) (o : Oper) : Prop :=
  match o.guard with
  | none => StepAtS P ops Q WInv R Post a0 i o
  | some p => match gl.lookup p.1 == some (some p.2) with
    | true => StepAtS P ops Q WInv R Post a0 i o
    | false => SkipAt ops WInv R Post i
def StepsAllS (gl : List (Nat × Option Bool)) (P : Program) (ops : Array Oper) (Q : Exit → Act → World → Prop) (WInv : Nat → (Nat → Option Value) → World → Prop) (R : World → World → Prop) (Post : Nat → Value → World → Prop) (a0 : Act) : List Oper → Nat → Prop
  | [], _ => True
  | o :: os, i => Step1S gl P ops Q WInv R Post a0 i o ∧ StepsAllS gl P ops Q WInv R Post a0 os (i + 1)
section
variable {P : Program} {ops : Array Oper} {Q : Exit → Act → World → Prop} {WInv : Nat → (Nat → Option Value) → World → Prop} {R : World → World → Prop} {Post : Nat → Value → World → Prop} {a0 : Act} {vs : Nat → Value}
theorem putAll_notyet {t : Tmp} {j : Nat} (ok : SlotsOk ops a0.tmps.size) (hj : dstAt ops j = some t) (D : List Nat) (h : j ∉ D) : (putAll ops vs a0 D).tmps.getD t undef = a0.tmps.getD t undef :=
  putAll_other D fun i hi hd => h (by rw [ok.one _ _ _ hj hd]; exact hi)
theorem needsS_of {listed : Array Bool} {w : World} {af : Array Edge} (ok : SlotsOk ops a0.tmps.size) (hp : ∀ j ∈ dones ops listed, Post j (vs j) w) :
    ∀ xs : List Operand, (∀ t, Operand.tmp t ∈ xs → ∀ j, findDst ops.toList 0 t = some j → ∀ e ∈ af, Region.binds .any e = true → e.on = j → j ∈ dones ops listed) →
      (∀ t, Operand.tmp t ∈ xs → ∀ j, findDst ops.toList 0 t = some j → (∀ e ∈ af, Region.binds .any e = true → ¬ e.on = j) → j ∉ dones ops listed) →
      NeedsS ops Post (memo ops.size listed vs) a0 (putAll ops vs a0 (dones ops listed)) w af xs
  | [], _, _ => trivial
  | .tmp t :: xs, h, h' => by
    refine ⟨?_, needsS_of ok hp xs (fun t' ht' => h t' (List.mem_cons_of_mem _ ht')) (fun t' ht' => h' t' (List.mem_cons_of_mem _ ht'))⟩
    split
    · rename_i j hj
      have hdst : dstAt ops j = some t := by
        obtain ⟨k, o, rfl, ho, hd⟩ := findDst_some _ _ _ _ hj
        rw [Nat.zero_add]
        unfold dstAt
        rw [← Array.getElem?_toList, ho]; exact hd
      split
      · rename_i hany
        rw [List.any_eq_true] at hany
        obtain ⟨e, he, h1⟩ := hany
        rw [Bool.and_eq_true, beq_iff_eq] at h1
        have hm := h t (List.mem_cons_self ..) j hj e (by simpa using he) h1.1 h1.2
        exact ⟨vs j, by have := putAll_get (vs := vs) ok hdst _ hm; rwa [Array.getD_eq_getD_getElem?] at this, if_pos (dones_mem.1 hm), hp j hm⟩
      · rename_i hany
        have hm := h' t (List.mem_cons_self ..) j hj (fun e he hb hon => by
          have : (af.toList.any fun e => Region.binds .any e && e.on == j) = true := List.any_eq_true.2 ⟨e, by simpa using he, by rw [Bool.and_eq_true, beq_iff_eq]; exact ⟨hb, hon⟩⟩
          rw [hany] at this; cases this)
        rw [← Array.getD_eq_getD_getElem?, ← Array.getD_eq_getD_getElem?]
        exact putAll_notyet ok hdst _ hm
    · rename_i hn
      rw [← Array.getD_eq_getD_getElem?, ← Array.getD_eq_getD_getElem?]
      refine putAll_other _ fun i hi hd => ?_
      unfold dstAt at hd
      rw [← Array.getElem?_toList] at hd
      cases ho : ops.toList[i]? with
      | none => rw [ho] at hd; cases hd
      | some o => rw [ho] at hd; exact findDst_none _ _ _ hn i o ho hd
  | .const _ :: xs, h, h' => needsS_of ok hp xs (fun t' ht' => h t' (List.mem_cons_of_mem _ ht')) (fun t' ht' => h' t' (List.mem_cons_of_mem _ ht'))
  | .global _ :: xs, h, h' => needsS_of ok hp xs (fun t' ht' => h t' (List.mem_cons_of_mem _ ht')) (fun t' ht' => h' t' (List.mem_cons_of_mem _ ht'))
  | .func _ :: xs, h, h' => needsS_of ok hp xs (fun t' ht' => h t' (List.mem_cons_of_mem _ ht')) (fun t' ht' => h' t' (List.mem_cons_of_mem _ ht'))
theorem StepsAllS.at {gl : List (Nat × Option Bool)} : ∀ (os : List Oper) (i : Nat), StepsAllS gl P ops Q WInv R Post a0 os i → ∀ k o, os[k]? = some o → Step1S gl P ops Q WInv R Post a0 (i + k) o
  | [], _, _, k, o, ho => by simp at ho
  | o :: os, i, h, k, o', ho => by
    cases k with
    | zero => simp at ho; subst ho; exact h.1
    | succ k =>
      have := StepsAllS.at os (i + 1) h.2 k o' (by simpa using ho)
      rwa [Nat.add_assoc, Nat.add_comm 1 k] at this
structure RegOkS (ops : Array Oper) (n : Nat) (gl : List (Nat × Option Bool)) : Prop where
  slots : SlotsOk ops n
  guard : ∀ (i : Nat) (o : Oper), ops[i]? = some o → o.guard = none ∨ ∃ p b d, o.guard = some p ∧ gl.lookup p.1 = some b ∧ dstAt ops p.1 = some d ∧ ∃ e ∈ o.after, Region.binds .any e = true ∧ e.on = p.1
  back : ∀ (i : Nat) (o : Oper), ops[i]? = some o → ∀ e ∈ o.after, Region.binds .any e = true → e.on < i
  deps : ∀ (i : Nat) (o : Oper), ops[i]? = some o → ∀ t, Operand.tmp t ∈ o.op.operands.toList → ∀ j, findDst ops.toList 0 t = some j → (∃ e ∈ o.after, Region.binds .any e = true ∧ e.on = j) ∨ needsB ops ops.size j i = true
theorem regionOkS_spec {n : Nat} {gl : List (Nat × Option Bool)} (h : regionOkS ops n gl = true) : RegOkS ops n gl := by
  unfold regionOkS at h
  rw [List.all_eq_true] at h
  have H : ∀ (i : Nat) (o : Oper), ops[i]? = some o → _ := fun i o ho => by
    have := h i (List.mem_range.2 (Array.getElem?_eq_some_iff.1 ho).1)
    rw [ho] at this
    exact this
  refine ⟨⟨fun i d hd => ?_, fun i j d hd hd' => ?_⟩, fun i o ho => ?_, fun i o ho e he hb => ?_, fun i o ho t ht j hj => ?_⟩
  · have hil := dstAt_lt hd
    have := H i _ (Array.getElem?_eq_getElem hil)
    have hd2 : (ops[i]'hil).dst = some d := by unfold dstAt at hd; rw [Array.getElem?_eq_getElem hil] at hd; exact hd
    simp only [hd2, Bool.and_eq_true, decide_eq_true_eq] at this
    exact this.1.1.2.1
  · have hil := dstAt_lt hd
    have := H i _ (Array.getElem?_eq_getElem hil)
    have hd2 : (ops[i]'hil).dst = some d := by unfold dstAt at hd; rw [Array.getElem?_eq_getElem hil] at hd; exact hd
    simp only [hd2, Bool.and_eq_true, List.all_eq_true, List.mem_range, Bool.or_eq_true, beq_iff_eq, bne_iff_ne] at this
    rcases this.1.1.2.2 j (dstAt_lt hd') with h1 | h1
    · exact h1.symm
    · exact absurd hd' h1
  · have := H i o ho
    simp only [Bool.and_eq_true] at this
    have h1 := this.1.1.1
    cases hg : o.guard with
    | none => exact .inl rfl
    | some p =>
      simp only [hg, Bool.and_eq_true, List.any_eq_true, beq_iff_eq] at h1
      obtain ⟨⟨h2, h3⟩, e, he, h4, h5⟩ := h1
      obtain ⟨d, hd⟩ := Option.isSome_iff_exists.1 h3
      obtain ⟨b, hb⟩ := Option.isSome_iff_exists.1 h2
      exact .inr ⟨p, b, d, rfl, hb, hd, e, by simpa using he, h4, h5⟩
  · have := H i o ho
    simp only [Bool.and_eq_true, List.all_eq_true, Bool.or_eq_true, Bool.not_eq_true', decide_eq_true_eq] at this
    rcases this.1.2 e (by simpa using he) with h1 | h1
    · rw [hb] at h1; cases h1
    · exact h1
  · have := H i o ho
    simp only [Bool.and_eq_true] at this
    have h2 := List.all_eq_true.1 this.2 _ ht
    simp only [hj, Bool.or_eq_true, List.any_eq_true, Bool.and_eq_true, beq_iff_eq] at h2
    rcases h2 with ⟨e, he, h3⟩ | h2
    · exact .inl ⟨e, by simpa using he, h3⟩
    · exact .inr h2

theorem wp_region_rs (gl : List (Nat × Option Bool)) {id : Nat} {w : World} (hm : P.follows .mixedOrders = true) (hok : regionOkS ops a0.tmps.size gl = true) (hguard : ∀ i b, gl.lookup i = some b → ∀ v w, Post i v w → boolOf v = b)
    (hmono : ∀ c c' m w, WInv c m w → c ≤ c' → c' ≤ ops.size → WInv c' m w)
    (hstab : ∀ i v w1 w2, Post i v w1 → R w1 w2 → Post i v w2)
    (h0 : WInv 0 (fun _ => none) w.drew) (hstep : StepsAllS gl P ops Q WInv R Post a0 ops.toList 0)
    (hend : ∀ m w', WInv ops.size m w' → AllVals Post m w' (fun a' => Q .normal a' w') ops.toList 0 a0) : (Code.region id ops true).wp P Q a0 w := by
  have ok := regionOkS_spec hok
  refine wp_region_inv (Inv := fun listed a w => ∃ vs : Nat → Value, listed.size = ops.size ∧ a = putAll ops vs a0 (dones ops listed) ∧ WInv (dones ops listed).length (memo ops.size listed vs) w ∧ (∀ j ∈ dones ops listed, Post j (vs j) w) ∧ Closed ops (dones ops listed)) hm ?_ ?_ ?_
  · have hd : dones ops (Array.replicate ops.size false) = [] := by
      unfold dones
      rw [List.filter_eq_nil_iff]
      intro i hi
      simp only [List.mem_range] at hi
      simp [hi]
    refine ⟨fun _ => undef, by simp, ?_, ?_, ?_, ?_⟩
    · rw [hd]; rfl
    · have hm0 : memo ops.size (Array.replicate ops.size false) (fun _ => undef) = fun _ => none := by
        funext i
        unfold memo
        by_cases hi : i < ops.size <;> simp [hi]
      rw [hd, hm0]; exact h0
    · rw [hd]; intro j hj; cases hj
    · rw [hd]; intro j hj; cases hj
  · rintro listed a w i ⟨vs, hsz, rfl, hw, hp, hclo⟩ hi
    obtain ⟨hun, o, ho, hall⟩ := mem_ready.1 hi
    have hil : i < ops.size := (Array.getElem?_eq_some_iff.1 ho).1
    have hlil : i < listed.size := by omega
    have hni : i ∉ dones ops listed := fun hh => by
      have h2 := (dones_mem.1 hh).2
      simp [hlil] at hun h2
      rw [h2] at hun; cases hun
    have hmem : ∀ j, j ∈ dones ops (listed.setIfInBounds i true) ↔ j ∈ i :: dones ops listed := fun j => by
      rw [dones_mem, List.mem_cons, dones_mem]
      by_cases hij : i = j
      · subst hij; simp [hil, hlil]
      · rw [getD_set_ne false hij]
        constructor
        · exact .inr
        · rintro (rfl | h1)
          · exact absurd rfl hij
          · exact h1
    have hcl : (dones ops listed).length + 1 ≤ (dones ops (listed.setIfInBounds i true)).length := by
      unfold dones
      rw [← List.countP_eq_length_filter, ← List.countP_eq_length_filter]
      refine countP_less (fun j hj => getD_set_true hj) (i := i) (by simp [hlil]) ?_ (List.mem_range.2 hil)
      simp [hlil] at hun ⊢
      exact hun
    have hcu : (dones ops (listed.setIfInBounds i true)).length ≤ ops.size := by
      unfold dones
      exact Nat.le_trans (List.length_filter_le _ _) (by simp)
    have hst := StepsAllS.at _ _ hstep i o (by rw [Array.getElem?_toList]; exact ho)
    rw [Nat.zero_add] at hst
    have hmn : memo ops.size listed vs i = none := if_neg fun hh => hni (dones_mem.2 hh)
    -- what follows, for a value and a world
    have hnext : ∀ v w', WInv ((dones ops listed).length + 1) (upd (memo ops.size listed vs) i v) w' → R w w' → Post i v w' →
        ∃ vs' : Nat → Value, (listed.setIfInBounds i true).size = ops.size ∧ (putAll ops vs a0 (dones ops listed)).put o.dst v = putAll ops vs' a0 (dones ops (listed.setIfInBounds i true)) ∧
          WInv (dones ops (listed.setIfInBounds i true)).length (memo ops.size (listed.setIfInBounds i true) vs') w' ∧ (∀ j ∈ dones ops (listed.setIfInBounds i true), Post j (vs' j) w') ∧ Closed ops (dones ops (listed.setIfInBounds i true)) := by
      intro v w' hw' hR hpv
      have hdst : dstAt ops i = o.dst := by unfold dstAt; rw [ho]; rfl
      refine ⟨fun k => if k = i then v else vs k, by simpa using hsz, ?_, ?_, ?_, ?_⟩
      · have e1 : (putAll ops vs a0 (dones ops listed)).put o.dst v = putAll ops (fun k => if k = i then v else vs k) a0 (i :: dones ops listed) := by
          rw [putAll, hdst, if_pos rfl]
          congr 1
          exact putAll_ext ok.slots (fun _ => Iff.rfl) fun j hj => (if_neg (fun e : j = i => hni (by rw [← e]; exact hj))).symm
        rw [e1]
        exact putAll_ext ok.slots (fun j => (hmem j).symm) fun _ _ => rfl
      · have hme : memo ops.size (listed.setIfInBounds i true) (fun k => if k = i then v else vs k) = upd (memo ops.size listed vs) i v := by
          funext j
          unfold memo upd
          by_cases hji : j = i
          · subst hji; simp [hil, hlil]
          · rw [getD_set_ne false (Ne.symm hji)]
            simp only [hji, if_false]
        rw [hme]
        exact hmono _ _ _ _ hw' hcl hcu
      · intro j hj
        rcases List.mem_cons.1 ((hmem j).1 hj) with rfl | h1
        · simp only [if_true]; exact hpv
        · have hji : j ≠ i := fun e => hni (by rw [← e]; exact h1)
          simp only [hji, if_false]
          exact hstab _ _ _ _ (hp j h1) hR
      · intro j hj o' ho' e he hb
        rcases List.mem_cons.1 ((hmem j).1 hj) with rfl | h1
        · rw [ho] at ho'
          cases ho'
          exact (hmem _).2 (List.mem_cons_of_mem _ (dones_mem.2 ⟨Nat.lt_trans (ok.back _ o ho e he hb) hil, hall e he hb⟩))
        · exact (hmem _).2 (List.mem_cons_of_mem _ (hclo j h1 o' ho' e he hb))
    unfold wpOp
    rw [ho]
    simp only
    have hyield : ∀ (j : Nat) (b : Option Bool), ∀ d, dstAt ops j = some d → (∃ e ∈ o.after, Region.binds .any e = true ∧ e.on = j) → gl.lookup j = some b → yielded ops (putAll ops vs a0 (dones ops listed)).tmps j = b := by
      rintro j b d hd ⟨e, he, hb, heq⟩ hq
      have hdn : j ∈ dones ops listed := dones_mem.2 ⟨dstAt_lt hd, by rw [← heq]; exact hall e he hb⟩
      have hv := hguard j b hq _ _ (hp j hdn)
      have hget := putAll_get (vs := vs) ok.slots hd _ hdn
      have hlt : d < (putAll ops vs a0 (dones ops listed)).tmps.size := by rw [putAll_size]; exact ok.slots.lt _ _ hd
      have hsome : (putAll ops vs a0 (dones ops listed)).tmps[d]? = some (vs j) := by
        rw [Array.getD_eq_getD_getElem?, Array.getElem?_eq_getElem hlt] at hget
        rw [Array.getElem?_eq_getElem hlt]
        simp only [Option.getD_some] at hget
        rw [hget]
      have hd' : (ops[j]?).bind (·.dst) = some d := hd
      unfold yielded
      rw [hd']
      simp only [Option.bind_some, hsome]
      rw [← hv]
      unfold boolOf
      cases vs j <;> rfl
    have hrun : StepAtS P ops Q WInv R Post a0 i o → Oper.wp P o (putAll ops vs a0 (dones ops listed)) w (fun a' w' => ∃ vs' : Nat → Value, (listed.setIfInBounds i true).size = ops.size ∧ a' = putAll ops vs' a0 (dones ops (listed.setIfInBounds i true)) ∧
          WInv (dones ops (listed.setIfInBounds i true)).length (memo ops.size (listed.setIfInBounds i true) vs') w' ∧ (∀ j ∈ dones ops (listed.setIfInBounds i true), Post j (vs' j) w') ∧ Closed ops (dones ops (listed.setIfInBounds i true))) Q := by
      intro hst
      have hne : NeedsS ops Post (memo ops.size listed vs) a0 (putAll ops vs a0 (dones ops listed)) w o.after o.op.operands.toList := needsS_of ok.slots hp _ (fun t ht j hj e he hb hon => by
        subst hon
        have h1 := hall e he hb
        refine dones_mem.2 ⟨?_, h1⟩
        exact Nat.lt_trans (ok.back i o ho e he hb) hil) (fun t ht j hj hno hdn => by
        rcases ok.deps i o ho t ht j hj with ⟨e, he, hb, rfl⟩ | hn
        · exact hno e he hb rfl
        · exact hni (hclo.needs hn hdn))
      refine Oper.wp_mono ?_ (hst _ _ _ _ (by omega) hw hmn hne)
      rintro a' w' ⟨v, rfl, hw', hR, hpv⟩
      exact hnext v w' hw' hR hpv
    unfold Step1S at hst
    rcases ok.guard i o ho with hg | ⟨q, b, d, hg, hq, hd, he⟩
    · rw [hg] at hst
      rw [if_pos (by simp [Region.wanted, hg])]
      exact .inl (hrun hst)
    · rw [hg] at hst
      have hy := hyield q.1 b d hd he hq
      obtain ⟨q1, q2⟩ := q
      simp only at hy hq
      simp only [hq] at hst
      by_cases hc : b = some q2
      · subst hc
        simp only [BEq.rfl] at hst
        rw [if_pos (by simp [Region.wanted, hg, hy])]
        exact .inl (hrun hst)
      · have hc' : (some b == some (some q2)) = false := by simpa using hc
        rw [hc'] at hst
        rw [if_neg (by simp [Region.wanted, hg, hy, hc])]
        obtain ⟨h1, h2, h3⟩ := hst _ _ _ (by omega) hw hmn
        exact hnext undef w h1 h2 h3
  · rintro listed a w ⟨vs, hsz, rfl, hw, hp, _⟩ hr
    have hall : ∀ i, i < ops.size → listed.getD i false = true := by
      intro i
      induction i using Nat.strongRecOn with
      | ind i ih =>
        intro hil
        have hlil : i < listed.size := by omega
        by_cases hl : listed.getD i false = true
        · exact hl
        · have : i ∈ Region.ready .any ops listed := mem_ready.2 ⟨by simp [hlil] at hl ⊢; exact hl, _, Array.getElem?_eq_getElem hil, fun e he hb => by
            have hlt := ok.back i _ (Array.getElem?_eq_getElem hil) e he hb
            exact ih _ hlt (Nat.lt_trans hlt hil)⟩
          rw [hr] at this
          cases this
    have hmem : ∀ j, j ∈ dones ops listed ↔ j ∈ (List.range' 0 ops.toList.length).reverse := fun j => by
      rw [dones_mem, List.mem_reverse, List.mem_range'_1]
      simp only [Array.length_toList, Nat.zero_le, true_and, Nat.zero_add]
      exact ⟨fun h => h.1, fun h => ⟨h, hall j h⟩⟩
    have hcu : (dones ops listed).length ≤ ops.size := by
      unfold dones
      exact Nat.le_trans (List.length_filter_le _ _) (by simp)
    have h1 := AllVals.use (vs := vs) _ _ _ (hend _ w (hmono _ _ _ _ hw hcu (Nat.le_refl _))) fun k hk => by
      rw [Nat.zero_add]
      have hk' : k < ops.size := by simpa using hk
      exact ⟨if_pos ⟨hk', hall k hk'⟩, hp k (dones_mem.2 ⟨hk', hall k hk'⟩)⟩
    rw [seqPut_eq (ops := ops) _ _ _ (fun k o ho => by rw [Nat.zero_add]; unfold dstAt; rw [← Array.getElem?_toList, ho]; rfl)] at h1
    rwa [putAll_ext ok.slots hmem (fun _ _ => rfl)]
end
end Go.Proofs.Ytenbbkmbnpdfaaa
