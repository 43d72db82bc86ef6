/- A region that draws its order, with guards within guards: each guard's operation is known to give true, false, or nothing (it was passed over). -/
import Derived.Test.YtenbbkmbnpdfaaaRg
namespace Go.Proofs.Ytenbbkmbnpdfaaa
def boolOf : Value → Option Bool
  | .bool b => some b
  | _ => none
def regionOkO (ops : Array Oper) (n : Nat) (gl : List (Nat × Option Bool)) : Bool :=
  (List.range ops.size).all fun i => match ops[i]? with
    | none => true
    | some o => (match o.guard with | none => true | some p => (gl.lookup p.1).isSome && (dstAt ops p.1).isSome && o.after.toList.any fun e => Region.binds .any e && e.on == p.1)
      && (match o.dst with | none => true | some d => decide (d < n) && (List.range ops.size).all fun j => j == i || dstAt ops j != some d)
      && (o.after.toList.all fun e => !Region.binds .any e || decide (e.on < i))
      && (o.op.operands.toList.all fun x => match x with
          | .tmp t => (match findDst ops.toList 0 t with | none => true | some j => o.after.toList.any fun e => Region.binds .any e && e.on == j)
          | _ => true)
def Step1O (gl : List (Nat × Option Bool)) (P : Program) (ops : Array Oper) (Q : Exit → Act → World → Prop) (WInv : Nat → (Nat → Option Value) → World → Prop) (R : World → World → Prop) (Post : Nat → Value → World → Prop) (a0 : Act) (i : Nat) (o : Oper) : Prop :=
  match o.guard with
  | none => StepAt P ops Q WInv R Post a0 i o
  | some p => match gl.lookup p.1 == some (some p.2) with
    | true => StepAt P ops Q WInv R Post a0 i o
    | false => SkipAt ops WInv R Post i
def StepsAllO (gl : List (Nat × Option Bool)) (P : Program) (ops : Array Oper) (Q : Exit → Act → World → Prop) (WInv : Nat → (Nat → Option Value) → World → Prop) (R : World → World → Prop) (Post : Nat → Value → World → Prop) (a0 : Act) : List Oper → Nat → Prop
  | [], _ => True
  | o :: os, i => Step1O gl P ops Q WInv R Post a0 i o ∧ StepsAllO gl P ops Q WInv R Post a0 os (i + 1)
/-- The values that are known; of another nothing is said. -/
def PV (vs : List (Option Value)) (i : Nat) (v : Value) (_ : World) : Prop := match vs.getD i none with
  | some u => v = u
  | none => True
section
variable {P : Program} {ops : Array Oper} {Q : Exit → Act → World → Prop} {WInv : Nat → (Nat → Option Value) → World → Prop} {R : World → World → Prop} {Post : Nat → Value → World → Prop} {a0 : Act} {vs : Nat → Value}
theorem StepsAllO.at {gl : List (Nat × Option Bool)} : ∀ (os : List Oper) (i : Nat), StepsAllO gl P ops Q WInv R Post a0 os i → ∀ k o, os[k]? = some o → Step1O gl P ops Q WInv R Post a0 (i + k) o
  | [], _, _, k, o, ho => by simp at ho
  | o :: os, i, h, k, o', ho => by
    cases k with
    | zero => simp at ho; subst ho; exact h.1
    | succ k =>
      have := StepsAllO.at os (i + 1) h.2 k o' (by simpa using ho)
      rwa [Nat.add_assoc, Nat.add_comm 1 k] at this
structure RegOkO (ops : Array Oper) (n : Nat) (gl : List (Nat × Option Bool)) : Prop where
  slots : SlotsOk ops n
  guard : ∀ (i : Nat) (o : Oper), ops[i]? = some o → o.guard = none ∨ ∃ p b d, o.guard = some p ∧ gl.lookup p.1 = some b ∧ dstAt ops p.1 = some d ∧ ∃ e ∈ o.after, Region.binds .any e = true ∧ e.on = p.1
  back : ∀ (i : Nat) (o : Oper), ops[i]? = some o → ∀ e ∈ o.after, Region.binds .any e = true → e.on < i
  deps : ∀ (i : Nat) (o : Oper), ops[i]? = some o → ∀ t, Operand.tmp t ∈ o.op.operands.toList → ∀ j, findDst ops.toList 0 t = some j → ∃ e ∈ o.after, Region.binds .any e = true ∧ e.on = j
theorem regionOkO_spec {n : Nat} {gl : List (Nat × Option Bool)} (h : regionOkO ops n gl = true) : RegOkO ops n gl := by
  unfold regionOkO at h
  rw [List.all_eq_true] at h
  have H : ∀ (i : Nat) (o : Oper), ops[i]? = some o → _ := fun i o ho => by
    have := h i (List.mem_range.2 (Array.getElem?_eq_some_iff.1 ho).1)
    rw [ho] at this
    exact this
  refine ⟨⟨fun i d hd => ?_, fun i j d hd hd' => ?_⟩, fun i o ho => ?_, fun i o ho e he hb => ?_, fun i o ho t ht j hj => ?_⟩
  · have hil := dstAt_lt hd
    have := H i _ (Array.getElem?_eq_getElem hil)
    have hd2 : (ops[i]'hil).dst = some d := by unfold dstAt at hd; rw [Array.getElem?_eq_getElem hil] at hd; exact hd
    simp only [hd2, Bool.and_eq_true, decide_eq_true_eq] at this
    exact this.1.1.2.1
  · have hil := dstAt_lt hd
    have := H i _ (Array.getElem?_eq_getElem hil)
    have hd2 : (ops[i]'hil).dst = some d := by unfold dstAt at hd; rw [Array.getElem?_eq_getElem hil] at hd; exact hd
    simp only [hd2, Bool.and_eq_true, List.all_eq_true, List.mem_range, Bool.or_eq_true, beq_iff_eq, bne_iff_ne] at this
    rcases this.1.1.2.2 j (dstAt_lt hd') with h1 | h1
    · exact h1.symm
    · exact absurd hd' h1
  · have := H i o ho
    simp only [Bool.and_eq_true] at this
    have h1 := this.1.1.1
    cases hg : o.guard with
    | none => exact .inl rfl
    | some p =>
      simp only [hg, Bool.and_eq_true, List.any_eq_true, beq_iff_eq] at h1
      obtain ⟨⟨h2, h3⟩, e, he, h4, h5⟩ := h1
      obtain ⟨d, hd⟩ := Option.isSome_iff_exists.1 h3
      obtain ⟨b, hb⟩ := Option.isSome_iff_exists.1 h2
      exact .inr ⟨p, b, d, rfl, hb, hd, e, by simpa using he, h4, h5⟩
  · have := H i o ho
    simp only [Bool.and_eq_true, List.all_eq_true, Bool.or_eq_true, Bool.not_eq_true', decide_eq_true_eq] at this
    rcases this.1.2 e (by simpa using he) with h1 | h1
    · rw [hb] at h1; cases h1
    · exact h1
  · have := H i o ho
    simp only [Bool.and_eq_true] at this
    have h2 := List.all_eq_true.1 this.2 _ ht
    simp only [hj, List.any_eq_true, Bool.and_eq_true, beq_iff_eq] at h2
    obtain ⟨e, he, h3⟩ := h2
    exact ⟨e, by simpa using he, h3⟩

theorem wp_region_ro (gl : List (Nat × Option Bool)) {id : Nat} {w : World} (hm : P.follows .mixedOrders = true) (hok : regionOkO ops a0.tmps.size gl = true) (hguard : ∀ i b, gl.lookup i = some b → ∀ v w, Post i v w → boolOf v = b)
    (hmono : ∀ c c' m w, WInv c m w → c ≤ c' → c' ≤ ops.size → WInv c' m w)
    (hstab : ∀ i v w1 w2, Post i v w1 → R w1 w2 → Post i v w2)
    (h0 : WInv 0 (fun _ => none) w.drew) (hstep : StepsAllO gl P ops Q WInv R Post a0 ops.toList 0)
    (hend : ∀ m w', WInv ops.size m w' → AllVals Post m w' (fun a' => Q .normal a' w') ops.toList 0 a0) : (Code.region id ops true).wp P Q a0 w := by
  have ok := regionOkO_spec hok
  refine wp_region_inv (Inv := fun listed a w => ∃ vs : Nat → Value, listed.size = ops.size ∧ a = putAll ops vs a0 (dones ops listed) ∧ WInv (dones ops listed).length (memo ops.size listed vs) w ∧ ∀ j ∈ dones ops listed, Post j (vs j) w) hm ?_ ?_ ?_
  · have hd : dones ops (Array.replicate ops.size false) = [] := by
      unfold dones
      rw [List.filter_eq_nil_iff]
      intro i hi
      simp only [List.mem_range] at hi
      simp [hi]
    refine ⟨fun _ => undef, by simp, ?_, ?_, ?_⟩
    · rw [hd]; rfl
    · have hm0 : memo ops.size (Array.replicate ops.size false) (fun _ => undef) = fun _ => none := by
        funext i
        unfold memo
        by_cases hi : i < ops.size <;> simp [hi]
      rw [hd, hm0]; exact h0
    · rw [hd]; intro j hj; cases hj
  · rintro listed a w i ⟨vs, hsz, rfl, hw, hp⟩ hi
    obtain ⟨hun, o, ho, hall⟩ := mem_ready.1 hi
    have hil : i < ops.size := (Array.getElem?_eq_some_iff.1 ho).1
    have hlil : i < listed.size := by omega
    have hni : i ∉ dones ops listed := fun hh => by
      have h2 := (dones_mem.1 hh).2
      simp [hlil] at hun h2
      rw [h2] at hun; cases hun
    have hmem : ∀ j, j ∈ dones ops (listed.setIfInBounds i true) ↔ j ∈ i :: dones ops listed := fun j => by
      rw [dones_mem, List.mem_cons, dones_mem]
      by_cases hij : i = j
      · subst hij; simp [hil, hlil]
      · rw [getD_set_ne false hij]
        constructor
        · exact .inr
        · rintro (rfl | h1)
          · exact absurd rfl hij
          · exact h1
    have hcl : (dones ops listed).length + 1 ≤ (dones ops (listed.setIfInBounds i true)).length := by
      unfold dones
      rw [← List.countP_eq_length_filter, ← List.countP_eq_length_filter]
      refine countP_less (fun j hj => getD_set_true hj) (i := i) (by simp [hlil]) ?_ (List.mem_range.2 hil)
      simp [hlil] at hun ⊢
      exact hun
    have hcu : (dones ops (listed.setIfInBounds i true)).length ≤ ops.size := by
      unfold dones
      exact Nat.le_trans (List.length_filter_le _ _) (by simp)
    have hst := StepsAllO.at _ _ hstep i o (by rw [Array.getElem?_toList]; exact ho)
    rw [Nat.zero_add] at hst
    have hmn : memo ops.size listed vs i = none := if_neg fun hh => hni (dones_mem.2 hh)
    -- what follows, for a value and a world
    have hnext : ∀ v w', WInv ((dones ops listed).length + 1) (upd (memo ops.size listed vs) i v) w' → R w w' → Post i v w' →
        ∃ vs' : Nat → Value, (listed.setIfInBounds i true).size = ops.size ∧ (putAll ops vs a0 (dones ops listed)).put o.dst v = putAll ops vs' a0 (dones ops (listed.setIfInBounds i true)) ∧
          WInv (dones ops (listed.setIfInBounds i true)).length (memo ops.size (listed.setIfInBounds i true) vs') w' ∧ ∀ j ∈ dones ops (listed.setIfInBounds i true), Post j (vs' j) w' := by
      intro v w' hw' hR hpv
      have hdst : dstAt ops i = o.dst := by unfold dstAt; rw [ho]; rfl
      refine ⟨fun k => if k = i then v else vs k, by simpa using hsz, ?_, ?_, ?_⟩
      · have e1 : (putAll ops vs a0 (dones ops listed)).put o.dst v = putAll ops (fun k => if k = i then v else vs k) a0 (i :: dones ops listed) := by
          rw [putAll, hdst, if_pos rfl]
          congr 1
          exact putAll_ext ok.slots (fun _ => Iff.rfl) fun j hj => (if_neg (fun e : j = i => hni (by rw [← e]; exact hj))).symm
        rw [e1]
        exact putAll_ext ok.slots (fun j => (hmem j).symm) fun _ _ => rfl
      · have hme : memo ops.size (listed.setIfInBounds i true) (fun k => if k = i then v else vs k) = upd (memo ops.size listed vs) i v := by
          funext j
          unfold memo upd
          by_cases hji : j = i
          · subst hji; simp [hil, hlil]
          · rw [getD_set_ne false (Ne.symm hji)]
            simp only [hji, if_false]
        rw [hme]
        exact hmono _ _ _ _ hw' hcl hcu
      · intro j hj
        rcases List.mem_cons.1 ((hmem j).1 hj) with rfl | h1
        · simp only [if_true]; exact hpv
        · have hji : j ≠ i := fun e => hni (by rw [← e]; exact h1)
          simp only [hji, if_false]
          exact hstab _ _ _ _ (hp j h1) hR
    unfold wpOp
    rw [ho]
    simp only
    have hyield : ∀ (j : Nat) (b : Option Bool), ∀ d, dstAt ops j = some d → (∃ e ∈ o.after, Region.binds .any e = true ∧ e.on = j) → gl.lookup j = some b → yielded ops (putAll ops vs a0 (dones ops listed)).tmps j = b := by
      rintro j b d hd ⟨e, he, hb, heq⟩ hq
      have hdn : j ∈ dones ops listed := dones_mem.2 ⟨dstAt_lt hd, by rw [← heq]; exact hall e he hb⟩
      have hv := hguard j b hq _ _ (hp j hdn)
      have hget := putAll_get (vs := vs) ok.slots hd _ hdn
      have hlt : d < (putAll ops vs a0 (dones ops listed)).tmps.size := by rw [putAll_size]; exact ok.slots.lt _ _ hd
      have hsome : (putAll ops vs a0 (dones ops listed)).tmps[d]? = some (vs j) := by
        rw [Array.getD_eq_getD_getElem?, Array.getElem?_eq_getElem hlt] at hget
        rw [Array.getElem?_eq_getElem hlt]
        simp only [Option.getD_some] at hget
        rw [hget]
      have hd' : (ops[j]?).bind (·.dst) = some d := hd
      unfold yielded
      rw [hd']
      simp only [Option.bind_some, hsome]
      rw [← hv]
      unfold boolOf
      cases vs j <;> rfl
    have hrun : StepAt P ops Q WInv R Post a0 i o → Oper.wp P o (putAll ops vs a0 (dones ops listed)) w (fun a' w' => ∃ vs' : Nat → Value, (listed.setIfInBounds i true).size = ops.size ∧ a' = putAll ops vs' a0 (dones ops (listed.setIfInBounds i true)) ∧
          WInv (dones ops (listed.setIfInBounds i true)).length (memo ops.size (listed.setIfInBounds i true) vs') w' ∧ ∀ j ∈ dones ops (listed.setIfInBounds i true), Post j (vs' j) w') Q := by
      intro hst
      have hne : Needs ops Post (memo ops.size listed vs) a0 (putAll ops vs a0 (dones ops listed)) w o.op.operands.toList := needs_of ok.slots hp _ fun t ht j hj => by
        obtain ⟨e, he, hb, rfl⟩ := ok.deps i o ho t ht j hj
        have h1 := hall e he hb
        refine dones_mem.2 ⟨?_, h1⟩
        exact Nat.lt_trans (ok.back i o ho e he hb) hil
      refine Oper.wp_mono ?_ (hst _ _ _ _ (by omega) hw hmn hne)
      rintro a' w' ⟨v, rfl, hw', hR, hpv⟩
      exact hnext v w' hw' hR hpv
    unfold Step1O at hst
    rcases ok.guard i o ho with hg | ⟨q, b, d, hg, hq, hd, he⟩
    · rw [hg] at hst
      rw [if_pos (by simp [Region.wanted, hg])]
      exact .inl (hrun hst)
    · rw [hg] at hst
      have hy := hyield q.1 b d hd he hq
      obtain ⟨q1, q2⟩ := q
      simp only at hy hq
      simp only [hq] at hst
      by_cases hc : b = some q2
      · subst hc
        simp only [BEq.rfl] at hst
        rw [if_pos (by simp [Region.wanted, hg, hy])]
        exact .inl (hrun hst)
      · have hc' : (some b == some (some q2)) = false := by simpa using hc
        rw [hc'] at hst
        rw [if_neg (by simp [Region.wanted, hg, hy, hc])]
        obtain ⟨h1, h2, h3⟩ := hst _ _ _ (by omega) hw hmn
        exact hnext undef w h1 h2 h3
  · rintro listed a w ⟨vs, hsz, rfl, hw, hp⟩ hr
    have hall : ∀ i, i < ops.size → listed.getD i false = true := by
      intro i
      induction i using Nat.strongRecOn with
      | ind i ih =>
        intro hil
        have hlil : i < listed.size := by omega
        by_cases hl : listed.getD i false = true
        · exact hl
        · have : i ∈ Region.ready .any ops listed := mem_ready.2 ⟨by simp [hlil] at hl ⊢; exact hl, _, Array.getElem?_eq_getElem hil, fun e he hb => by
            have hlt := ok.back i _ (Array.getElem?_eq_getElem hil) e he hb
            exact ih _ hlt (Nat.lt_trans hlt hil)⟩
          rw [hr] at this
          cases this
    have hmem : ∀ j, j ∈ dones ops listed ↔ j ∈ (List.range' 0 ops.toList.length).reverse := fun j => by
      rw [dones_mem, List.mem_reverse, List.mem_range'_1]
      simp only [Array.length_toList, Nat.zero_le, true_and, Nat.zero_add]
      exact ⟨fun h => h.1, fun h => ⟨h, hall j h⟩⟩
    have hcu : (dones ops listed).length ≤ ops.size := by
      unfold dones
      exact Nat.le_trans (List.length_filter_le _ _) (by simp)
    have h1 := AllVals.use (vs := vs) _ _ _ (hend _ w (hmono _ _ _ _ hw hcu (Nat.le_refl _))) fun k hk => by
      rw [Nat.zero_add]
      have hk' : k < ops.size := by simpa using hk
      exact ⟨if_pos ⟨hk', hall k hk'⟩, hp k (dones_mem.2 ⟨hk', hall k hk'⟩)⟩
    rw [seqPut_eq (ops := ops) _ _ _ (fun k o ho => by rw [Nat.zero_add]; unfold dstAt; rw [← Array.getElem?_toList, ho]; rfl)] at h1
    rwa [putAll_ext ok.slots hmem (fun _ _ => rfl)]
end
theorem lookup_mem {gl : List (Nat × Option Bool)} {i : Nat} {b : Option Bool} (h : gl.lookup i = some b) : (i, b) ∈ gl := by
  induction gl with
  | nil => simp at h
  | cons p gl ih =>
    obtain ⟨j, c⟩ := p
    rw [List.lookup_cons] at h
    split at h
    · rename_i hij
      simp only [beq_iff_eq] at hij
      injection h with h
      subst hij h
      exact List.mem_cons_self ..
    · exact List.mem_cons_of_mem _ (ih h)
theorem pv_guard {gl : List (Nat × Option Bool)} {vs : List (Option Value)} (h : ∀ p ∈ gl, (vs.getD p.1 none).map boolOf = some p.2) : ∀ i b, gl.lookup i = some b → ∀ v w, PV vs i v w → boolOf v = b := fun i b hl v w hv => by
  have h1 := h _ (lookup_mem hl)
  unfold PV at hv
  simp only at h1
  cases hx : vs.getD i none with
  | none => rw [hx] at h1; cases h1
  | some u =>
    rw [hx] at h1 hv
    simp only at hv
    subst hv
    simpa using h1
end Go.Proofs.Ytenbbkmbnpdfaaa
