/- A region that draws its order: every operation has a fact of its own value; the facts stand behind whatever the other operations do. -/
import Derived.Test.YtenbbkmbnpdfaaaR
import Derived.Laws.World
namespace Go.Proofs.Ytenbbkmbnpdfaaa

def dstAt (ops : Array Oper) (i : Nat) : Option Tmp := (ops[i]?).bind (·.dst)
def putAll (ops : Array Oper) (vs : Nat → Value) (a : Act) : List Nat → Act
  | [] => a
  | i :: D => (putAll ops vs a D).put (dstAt ops i) (vs i)
def findDst : List Oper → Nat → Tmp → Option Nat
  | [], _, _ => none
  | o :: os, i, t => if o.dst = some t then some i else findDst os (i + 1) t
/-- No two operations write one slot; a guard is one of gl, and comes ahead; each comes behind those of a smaller number alone, and behind all whose slots it reads. -/
def regionOkG (ops : Array Oper) (n : Nat) (gl : List (Nat × Bool)) : Bool :=
  (List.range ops.size).all fun i => match ops[i]? with
    | none => true
    | some o => (match o.guard with | none => true | some p => (gl.contains p || gl.contains (p.1, !p.2)) && (dstAt ops p.1).isSome && o.after.toList.any fun e => Region.binds .any e && e.on == p.1)
      && (match o.dst with | none => true | some d => decide (d < n) && (List.range ops.size).all fun j => j == i || dstAt ops j != some d)
      && (o.after.toList.all fun e => !Region.binds .any e || decide (e.on < i))
      && (o.op.operands.toList.all fun x => match x with
          | .tmp t => (match findDst ops.toList 0 t with | none => true | some j => o.after.toList.any fun e => Region.binds .any e && e.on == j)
          | _ => true)

def regionOk (ops : Array Oper) (n : Nat) : Bool := regionOkG ops n []

theorem put_size (a : Act) (x : Option Tmp) (v : Value) : (a.put x v).tmps.size = a.tmps.size := by
  cases x <;> simp [Act.put]
theorem put_getD (a : Act) (d : Tmp) (v : Value) (h : d < a.tmps.size) : (a.put (some d) v).tmps.getD d undef = v := by
  simp [Act.put, h]
theorem put_getD_ne (a : Act) (x : Option Tmp) (v : Value) (t : Tmp) (h : x ≠ some t) : (a.put x v).tmps.getD t undef = a.tmps.getD t undef := by
  cases x with
  | none => rfl
  | some d =>
    have : d ≠ t := fun e => h (by rw [e])
    simp [Act.put, Array.getElem?_setIfInBounds_ne this]

section
variable {ops : Array Oper} {vs vs' : Nat → Value} {a : Act}
theorem putAll_size : ∀ D, (putAll ops vs a D).tmps.size = a.tmps.size
  | [] => rfl
  | i :: D => by rw [putAll, put_size, putAll_size D]
theorem putAll_defers : ∀ D, (putAll ops vs a D).defers = a.defers
  | [] => rfl
  | i :: D => by
    rw [putAll, ← putAll_defers D]
    cases dstAt ops i <;> rfl
theorem putAll_append (D : List Nat) : ∀ D', putAll ops vs a (D' ++ D) = putAll ops vs (putAll ops vs a D) D'
  | [] => rfl
  | i :: D' => by rw [List.cons_append, putAll, putAll, putAll_append D D']

structure SlotsOk (ops : Array Oper) (n : Nat) : Prop where
  lt : ∀ i d, dstAt ops i = some d → d < n
  one : ∀ i j d, dstAt ops i = some d → dstAt ops j = some d → i = j

theorem dstAt_lt {i : Nat} {d : Tmp} (h : dstAt ops i = some d) : i < ops.size := by
  unfold dstAt at h
  rcases Nat.lt_or_ge i ops.size with h1 | h1
  · exact h1
  · rw [Array.getElem?_eq_none h1] at h; cases h
theorem putAll_get (ok : SlotsOk ops a.tmps.size) {d : Tmp} {i : Nat} (hd : dstAt ops i = some d) : ∀ D, i ∈ D → (putAll ops vs a D).tmps.getD d undef = vs i
  | [], h => by cases h
  | j :: D, h => by
    rw [putAll]
    by_cases hij : j = i
    · subst hij
      rw [hd]
      exact put_getD _ _ _ (by rw [putAll_size]; exact ok.lt _ _ hd)
    · rw [put_getD_ne _ _ _ _ (fun e => hij (ok.one _ _ _ e hd))]
      exact putAll_get ok hd D (by rcases List.mem_cons.1 h with h1 | h1; exact absurd h1.symm hij; exact h1)
theorem putAll_other {t : Tmp} : ∀ D, (∀ i ∈ D, dstAt ops i ≠ some t) → (putAll ops vs a D).tmps.getD t undef = a.tmps.getD t undef
  | [], _ => rfl
  | j :: D, h => by
    rw [putAll, put_getD_ne _ _ _ _ (h j (List.mem_cons_self ..))]
    exact putAll_other D fun i hi => h i (List.mem_cons_of_mem _ hi)
theorem putAll_ext (ok : SlotsOk ops a.tmps.size) {D D' : List Nat} (h : ∀ i, i ∈ D ↔ i ∈ D') (hv : ∀ i ∈ D, vs i = vs' i) : putAll ops vs a D = putAll ops vs' a D' := by
  have ht : (putAll ops vs a D).tmps = (putAll ops vs' a D').tmps := by
    apply Array.ext
    · rw [putAll_size, putAll_size]
    · intro t h1 h2
      have e1 : (putAll ops vs a D).tmps[t] = (putAll ops vs a D).tmps.getD t undef := by simp [h1]
      have e2 : (putAll ops vs' a D').tmps[t] = (putAll ops vs' a D').tmps.getD t undef := by simp [h2]
      rw [e1, e2]
      by_cases hx : ∃ i ∈ D, dstAt ops i = some t
      · obtain ⟨i, hi, hd⟩ := hx
        rw [putAll_get ok hd D hi, putAll_get ok hd D' ((h i).1 hi), hv i hi]
      · rw [putAll_other D (fun i hi hd => hx ⟨i, hi, hd⟩), putAll_other D' (fun i hi hd => hx ⟨i, (h i).2 hi, hd⟩)]
  have hdf : (putAll ops vs a D).defers = (putAll ops vs' a D').defers := by rw [putAll_defers, putAll_defers]
  generalize putAll ops vs a D = x at *
  generalize putAll ops vs' a D' = y at *
  cases x; cases y
  simp only at ht hdf
  rw [ht, hdf]
end

theorem findDst_some : ∀ (os : List Oper) (i : Nat) (t : Tmp) (j : Nat), findDst os i t = some j → ∃ k o, j = i + k ∧ os[k]? = some o ∧ o.dst = some t
  | [], _, _, _, h => by simp [findDst] at h
  | o :: os, i, t, j, h => by
    unfold findDst at h
    split at h
    · injection h with h; exact ⟨0, o, by omega, rfl, by assumption⟩
    · obtain ⟨k, o', hj, ho, hd⟩ := findDst_some os (i + 1) t j h
      exact ⟨k + 1, o', by omega, by simpa using ho, hd⟩
theorem findDst_none : ∀ (os : List Oper) (i : Nat) (t : Tmp), findDst os i t = none → ∀ (k : Nat) (o : Oper), os[k]? = some o → o.dst ≠ some t
  | [], _, _, _, k, o, ho => by simp at ho
  | o :: os, i, t, h, k, o', ho => by
    unfold findDst at h
    split at h
    · cases h
    · cases k with
      | zero => simp at ho; subst ho; assumption
      | succ k => exact findDst_none os (i + 1) t h k o' (by simpa using ho)

/-- What is known of an operation's operands: a slot that another operation of the region writes holds a value with that one's fact; another holds what it held. -/
def Needs (ops : Array Oper) (Post : Nat → Value → World → Prop) (m : Nat → Option Value) (a0 a : Act) (w : World) : List Operand → Prop
  | [] => True
  | .tmp t :: xs => (match findDst ops.toList 0 t with
      | some j => ∃ v, a.tmps[t]?.getD undef = v ∧ m j = some v ∧ Post j v w
      | none => a.tmps[t]?.getD undef = a0.tmps[t]?.getD undef) ∧ Needs ops Post m a0 a w xs
  | _ :: xs => Needs ops Post m a0 a w xs
/-- Which operations are done, and what they gave. -/
def memo (n : Nat) (listed : Array Bool) (vs : Nat → Value) : Nat → Option Value := fun i => if i < n ∧ listed.getD i false = true then some (vs i) else none
def upd (m : Nat → Option Value) (i : Nat) (v : Value) : Nat → Option Value := fun k => if k = i then some v else m k
/-- What an operation leaves. -/
def Aft (WInv : Nat → (Nat → Option Value) → World → Prop) (R : World → World → Prop) (Post : Nat → Value → World → Prop) (c : Nat) (m : Nat → Option Value) (i : Nat) (dst : Option Tmp) (a : Act) (w : World) (a' : Act) (w' : World) : Prop :=
  ∃ v, a' = a.put dst v ∧ WInv (c + 1) (upd m i v) w' ∧ R w w' ∧ Post i v w'
def StepAt (P : Program) (ops : Array Oper) (Q : Exit → Act → World → Prop) (WInv : Nat → (Nat → Option Value) → World → Prop) (R : World → World → Prop) (Post : Nat → Value → World → Prop) (a0 : Act) (i : Nat) (o : Oper) : Prop :=
  ∀ c m a w, c < ops.size → WInv c m w → m i = none → Needs ops Post m a0 a w o.op.operands.toList → Oper.wp P o a w (Aft WInv R Post c m i o.dst a w) Q
/-- An operation that its guard passes over. -/
def SkipAt (ops : Array Oper) (WInv : Nat → (Nat → Option Value) → World → Prop) (R : World → World → Prop) (Post : Nat → Value → World → Prop) (i : Nat) : Prop :=
  ∀ c m w, c < ops.size → WInv c m w → m i = none → WInv (c + 1) (upd m i undef) w ∧ R w w ∧ Post i undef w
def Step1 (gl : List (Nat × Bool)) (P : Program) (ops : Array Oper) (Q : Exit → Act → World → Prop) (WInv : Nat → (Nat → Option Value) → World → Prop) (R : World → World → Prop) (Post : Nat → Value → World → Prop) (a0 : Act) (i : Nat) (o : Oper) : Prop :=
  match o.guard with
  | none => StepAt P ops Q WInv R Post a0 i o
  | some p => match gl.contains p with
    | true => StepAt P ops Q WInv R Post a0 i o
    | false => SkipAt ops WInv R Post i
def StepsAll (gl : List (Nat × Bool)) (P : Program) (ops : Array Oper) (Q : Exit → Act → World → Prop) (WInv : Nat → (Nat → Option Value) → World → Prop) (R : World → World → Prop) (Post : Nat → Value → World → Prop) (a0 : Act) : List Oper → Nat → Prop
  | [], _ => True
  | o :: os, i => Step1 gl P ops Q WInv R Post a0 i o ∧ StepsAll gl P ops Q WInv R Post a0 os (i + 1)
/-- Behind the region: for whatever values that have the facts. -/
def AllVals (Post : Nat → Value → World → Prop) (m : Nat → Option Value) (w : World) (K : Act → Prop) : List Oper → Nat → Act → Prop
  | [], _, a => K a
  | o :: os, i, a => ∀ v, m i = some v → Post i v w → AllVals Post m w K os (i + 1) (a.put o.dst v)

section
variable {P : Program} {ops : Array Oper} {Q : Exit → Act → World → Prop} {WInv : Nat → (Nat → Option Value) → World → Prop} {R : World → World → Prop} {Post : Nat → Value → World → Prop} {a0 : Act} {vs : Nat → Value}
theorem StepsAll.at {gl : List (Nat × Bool)} : ∀ (os : List Oper) (i : Nat), StepsAll gl P ops Q WInv R Post a0 os i → ∀ k o, os[k]? = some o → Step1 gl P ops Q WInv R Post a0 (i + k) o
  | [], _, _, k, o, ho => by simp at ho
  | o :: os, i, h, k, o', ho => by
    cases k with
    | zero => simp at ho; subst ho; exact h.1
    | succ k =>
      have := StepsAll.at os (i + 1) h.2 k o' (by simpa using ho)
      rwa [Nat.add_assoc, Nat.add_comm 1 k] at this
def seqPut (vs : Nat → Value) : List Oper → Nat → Act → Act
  | [], _, a => a
  | o :: os, i, a => seqPut vs os (i + 1) (a.put o.dst (vs i))
theorem AllVals.use {m : Nat → Option Value} {w : World} {K : Act → Prop} : ∀ (os : List Oper) (i : Nat) (a : Act), AllVals Post m w K os i a → (∀ k, k < os.length → m (i + k) = some (vs (i + k)) ∧ Post (i + k) (vs (i + k)) w) → K (seqPut vs os i a)
  | [], _, _, h, _ => h
  | o :: os, i, a, h, hp => by
    unfold seqPut
    refine AllVals.use os (i + 1) _ (h (vs i) (hp 0 (by simp)).1 (hp 0 (by simp)).2) fun k hk => ?_
    have := hp (k + 1) (by simp; omega)
    rwa [show i + 1 + k = i + (k + 1) by omega]
theorem seqPut_eq : ∀ (os : List Oper) (i : Nat) (a : Act), (∀ k o, os[k]? = some o → dstAt ops (i + k) = o.dst) → seqPut vs os i a = putAll ops vs a (List.range' i os.length).reverse
  | [], _, _, _ => rfl
  | o :: os, i, a, h => by
    unfold seqPut
    rw [seqPut_eq os (i + 1) _ (fun k o' ho => by have := h (k + 1) o' (by simpa using ho); rwa [show i + 1 + k = i + (k + 1) by omega]), List.length_cons, List.range'_succ, List.reverse_cons, putAll_append]
    have : dstAt ops i = o.dst := h 0 o rfl
    simp only [putAll, this]

def dones (ops : Array Oper) (listed : Array Bool) : List Nat := (List.range ops.size).filter fun i => listed.getD i false
theorem dones_mem {listed : Array Bool} {i : Nat} : i ∈ dones ops listed ↔ i < ops.size ∧ listed.getD i false = true := by
  unfold dones; rw [List.mem_filter, List.mem_range]

theorem needs_of {listed : Array Bool} {w : World} (ok : SlotsOk ops a0.tmps.size) (hp : ∀ j ∈ dones ops listed, Post j (vs j) w) :
    ∀ xs : List Operand, (∀ t, Operand.tmp t ∈ xs → ∀ j, findDst ops.toList 0 t = some j → j ∈ dones ops listed) → Needs ops Post (memo ops.size listed vs) a0 (putAll ops vs a0 (dones ops listed)) w xs
  | [], _ => trivial
  | .tmp t :: xs, h => by
    refine ⟨?_, needs_of ok hp xs fun t' ht' => h t' (List.mem_cons_of_mem _ ht')⟩
    split
    · rename_i j hj
      have hm := h t (List.mem_cons_self ..) j hj
      obtain ⟨k, o, rfl, ho, hd⟩ := findDst_some _ _ _ _ hj
      rw [Nat.zero_add] at hm ⊢
      have hdst : dstAt ops k = some t := by
        unfold dstAt
        rw [← Array.getElem?_toList, ho]; exact hd
      exact ⟨vs k, by have := putAll_get (vs := vs) ok hdst _ hm; rwa [Array.getD_eq_getD_getElem?] at this, if_pos (dones_mem.1 hm), hp k hm⟩
    · rename_i hn
      rw [← Array.getD_eq_getD_getElem?, ← Array.getD_eq_getD_getElem?]
      refine putAll_other _ fun i hi hd => ?_
      have hil := dstAt_lt hd
      unfold dstAt at hd
      rw [← Array.getElem?_toList] at hd
      cases ho : ops.toList[i]? with
      | none => rw [ho] at hd; cases hd
      | some o =>
        rw [ho] at hd
        exact findDst_none _ _ _ hn i o ho hd
  | .const _ :: xs, h => needs_of ok hp xs fun t' ht' => h t' (List.mem_cons_of_mem _ ht')
  | .global _ :: xs, h => needs_of ok hp xs fun t' ht' => h t' (List.mem_cons_of_mem _ ht')
  | .func _ :: xs, h => needs_of ok hp xs fun t' ht' => h t' (List.mem_cons_of_mem _ ht')

structure RegOk (ops : Array Oper) (n : Nat) (gl : List (Nat × Bool)) : Prop where
  slots : SlotsOk ops n
  guard : ∀ (i : Nat) (o : Oper), ops[i]? = some o → o.guard = none ∨ ∃ p d, o.guard = some p ∧ (p ∈ gl ∨ (p.1, !p.2) ∈ gl) ∧ dstAt ops p.1 = some d ∧ ∃ e ∈ o.after, Region.binds .any e = true ∧ e.on = p.1
  back : ∀ (i : Nat) (o : Oper), ops[i]? = some o → ∀ e ∈ o.after, Region.binds .any e = true → e.on < i
  deps : ∀ (i : Nat) (o : Oper), ops[i]? = some o → ∀ t, Operand.tmp t ∈ o.op.operands.toList → ∀ j, findDst ops.toList 0 t = some j → ∃ e ∈ o.after, Region.binds .any e = true ∧ e.on = j
theorem regionOk_spec {n : Nat} {gl : List (Nat × Bool)} (h : regionOkG ops n gl = true) : RegOk ops n gl := by
  unfold regionOkG at h
  rw [List.all_eq_true] at h
  have H : ∀ (i : Nat) (o : Oper), ops[i]? = some o → _ := fun i o ho => by
    have := h i (List.mem_range.2 (Array.getElem?_eq_some_iff.1 ho).1)
    rw [ho] at this
    exact this
  refine ⟨⟨fun i d hd => ?_, fun i j d hd hd' => ?_⟩, fun i o ho => ?_, fun i o ho e he hb => ?_, fun i o ho t ht j hj => ?_⟩
  · have hil := dstAt_lt hd
    have := H i _ (Array.getElem?_eq_getElem hil)
    have hd2 : (ops[i]'hil).dst = some d := by unfold dstAt at hd; rw [Array.getElem?_eq_getElem hil] at hd; exact hd
    simp only [hd2, Bool.and_eq_true, decide_eq_true_eq] at this
    exact this.1.1.2.1
  · have hil := dstAt_lt hd
    have := H i _ (Array.getElem?_eq_getElem hil)
    have hd2 : (ops[i]'hil).dst = some d := by unfold dstAt at hd; rw [Array.getElem?_eq_getElem hil] at hd; exact hd
    simp only [hd2, Bool.and_eq_true, List.all_eq_true, List.mem_range, Bool.or_eq_true, beq_iff_eq, bne_iff_ne] at this
    rcases this.1.1.2.2 j (dstAt_lt hd') with h1 | h1
    · exact h1.symm
    · exact absurd hd' h1
  · have := H i o ho
    simp only [Bool.and_eq_true] at this
    have h1 := this.1.1.1
    cases hg : o.guard with
    | none => exact .inl rfl
    | some p =>
      simp only [hg, Bool.and_eq_true, Bool.or_eq_true, List.any_eq_true, beq_iff_eq, List.contains_iff_mem] at h1
      obtain ⟨⟨h2, h3⟩, e, he, h4, h5⟩ := h1
      obtain ⟨d, hd⟩ := Option.isSome_iff_exists.1 h3
      exact .inr ⟨p, d, rfl, h2, hd, e, by simpa using he, h4, h5⟩
  · have := H i o ho
    simp only [Bool.and_eq_true, List.all_eq_true, Bool.or_eq_true, Bool.not_eq_true', decide_eq_true_eq] at this
    rcases this.1.2 e (by simpa using he) with h1 | h1
    · rw [hb] at h1; cases h1
    · exact h1
  · have := H i o ho
    simp only [Bool.and_eq_true] at this
    have h2 := List.all_eq_true.1 this.2 _ ht
    simp only [hj, List.any_eq_true, Bool.and_eq_true, beq_iff_eq] at h2
    obtain ⟨e, he, h3⟩ := h2
    exact ⟨e, by simpa using he, h3⟩

theorem wp_region_rgg (gl : List (Nat × Bool)) {id : Nat} {w : World} (hm : P.follows .mixedOrders = true) (hok : regionOkG ops a0.tmps.size gl = true) (hguard : ∀ p ∈ gl, ∀ v w, Post p.1 v w → v = .bool p.2)
    (hmono : ∀ c c' m w, WInv c m w → c ≤ c' → c' ≤ ops.size → WInv c' m w)
    (hstab : ∀ i v w1 w2, Post i v w1 → R w1 w2 → Post i v w2)
    (h0 : WInv 0 (fun _ => none) w.drew) (hstep : StepsAll gl P ops Q WInv R Post a0 ops.toList 0)
    (hend : ∀ m w', WInv ops.size m w' → AllVals Post m w' (fun a' => Q .normal a' w') ops.toList 0 a0) : (Code.region id ops true).wp P Q a0 w := by
  have ok := regionOk_spec hok
  refine wp_region_inv (Inv := fun listed a w => ∃ vs : Nat → Value, listed.size = ops.size ∧ a = putAll ops vs a0 (dones ops listed) ∧ WInv (dones ops listed).length (memo ops.size listed vs) w ∧ ∀ j ∈ dones ops listed, Post j (vs j) w) hm ?_ ?_ ?_
  · have hd : dones ops (Array.replicate ops.size false) = [] := by
      unfold dones
      rw [List.filter_eq_nil_iff]
      intro i hi
      simp only [List.mem_range] at hi
      simp [hi]
    refine ⟨fun _ => undef, by simp, ?_, ?_, ?_⟩
    · rw [hd]; rfl
    · have hm0 : memo ops.size (Array.replicate ops.size false) (fun _ => undef) = fun _ => none := by
        funext i
        unfold memo
        by_cases hi : i < ops.size <;> simp [hi]
      rw [hd, hm0]; exact h0
    · rw [hd]; intro j hj; cases hj
  · rintro listed a w i ⟨vs, hsz, rfl, hw, hp⟩ hi
    obtain ⟨hun, o, ho, hall⟩ := mem_ready.1 hi
    have hil : i < ops.size := (Array.getElem?_eq_some_iff.1 ho).1
    have hlil : i < listed.size := by omega
    have hni : i ∉ dones ops listed := fun hh => by
      have h2 := (dones_mem.1 hh).2
      simp [hlil] at hun h2
      rw [h2] at hun; cases hun
    have hmem : ∀ j, j ∈ dones ops (listed.setIfInBounds i true) ↔ j ∈ i :: dones ops listed := fun j => by
      rw [dones_mem, List.mem_cons, dones_mem]
      by_cases hij : i = j
      · subst hij; simp [hil, hlil]
      · rw [getD_set_ne false hij]
        constructor
        · exact .inr
        · rintro (rfl | h1)
          · exact absurd rfl hij
          · exact h1
    have hcl : (dones ops listed).length + 1 ≤ (dones ops (listed.setIfInBounds i true)).length := by
      unfold dones
      rw [← List.countP_eq_length_filter, ← List.countP_eq_length_filter]
      refine countP_less (fun j hj => getD_set_true hj) (i := i) (by simp [hlil]) ?_ (List.mem_range.2 hil)
      simp [hlil] at hun ⊢
      exact hun
    have hcu : (dones ops (listed.setIfInBounds i true)).length ≤ ops.size := by
      unfold dones
      exact Nat.le_trans (List.length_filter_le _ _) (by simp)
    have hst := StepsAll.at _ _ hstep i o (by rw [Array.getElem?_toList]; exact ho)
    rw [Nat.zero_add] at hst
    have hmn : memo ops.size listed vs i = none := if_neg fun hh => hni (dones_mem.2 hh)
    -- what follows, for a value and a world
    have hnext : ∀ v w', WInv ((dones ops listed).length + 1) (upd (memo ops.size listed vs) i v) w' → R w w' → Post i v w' →
        ∃ vs' : Nat → Value, (listed.setIfInBounds i true).size = ops.size ∧ (putAll ops vs a0 (dones ops listed)).put o.dst v = putAll ops vs' a0 (dones ops (listed.setIfInBounds i true)) ∧
          WInv (dones ops (listed.setIfInBounds i true)).length (memo ops.size (listed.setIfInBounds i true) vs') w' ∧ ∀ j ∈ dones ops (listed.setIfInBounds i true), Post j (vs' j) w' := by
      intro v w' hw' hR hpv
      have hdst : dstAt ops i = o.dst := by unfold dstAt; rw [ho]; rfl
      refine ⟨fun k => if k = i then v else vs k, by simpa using hsz, ?_, ?_, ?_⟩
      · have e1 : (putAll ops vs a0 (dones ops listed)).put o.dst v = putAll ops (fun k => if k = i then v else vs k) a0 (i :: dones ops listed) := by
          rw [putAll, hdst, if_pos rfl]
          congr 1
          exact putAll_ext ok.slots (fun _ => Iff.rfl) fun j hj => (if_neg (fun e : j = i => hni (by rw [← e]; exact hj))).symm
        rw [e1]
        exact putAll_ext ok.slots (fun j => (hmem j).symm) fun _ _ => rfl
      · have hme : memo ops.size (listed.setIfInBounds i true) (fun k => if k = i then v else vs k) = upd (memo ops.size listed vs) i v := by
          funext j
          unfold memo upd
          by_cases hji : j = i
          · subst hji; simp [hil, hlil]
          · rw [getD_set_ne false (Ne.symm hji)]
            simp only [hji, if_false]
        rw [hme]
        exact hmono _ _ _ _ hw' hcl hcu
      · intro j hj
        rcases List.mem_cons.1 ((hmem j).1 hj) with rfl | h1
        · simp only [if_true]; exact hpv
        · have hji : j ≠ i := fun e => hni (by rw [← e]; exact h1)
          simp only [hji, if_false]
          exact hstab _ _ _ _ (hp j h1) hR
    unfold wpOp
    rw [ho]
    simp only
    have hyield : ∀ q : Nat × Bool, ∀ d, dstAt ops q.1 = some d → (∃ e ∈ o.after, Region.binds .any e = true ∧ e.on = q.1) → q ∈ gl → yielded ops (putAll ops vs a0 (dones ops listed)).tmps q.1 = some q.2 := by
      rintro q d hd ⟨e, he, hb, heq⟩ hq
      have hdn : q.1 ∈ dones ops listed := dones_mem.2 ⟨dstAt_lt hd, by rw [← heq]; exact hall e he hb⟩
      have hv := hguard q hq _ _ (hp q.1 hdn)
      have hget := putAll_get (vs := vs) ok.slots hd _ hdn
      have hlt : d < (putAll ops vs a0 (dones ops listed)).tmps.size := by rw [putAll_size]; exact ok.slots.lt _ _ hd
      have hsome : (putAll ops vs a0 (dones ops listed)).tmps[d]? = some (.bool q.2) := by
        rw [Array.getD_eq_getD_getElem?, Array.getElem?_eq_getElem hlt] at hget
        rw [Array.getElem?_eq_getElem hlt]
        simp only [Option.getD_some] at hget
        rw [hget, hv]
      have hd' : (ops[q.1]?).bind (·.dst) = some d := hd
      unfold yielded
      rw [hd']
      simp only [Option.bind_some, hsome]
    have hrun : StepAt P ops Q WInv R Post a0 i o → Oper.wp P o (putAll ops vs a0 (dones ops listed)) w (fun a' w' => ∃ vs' : Nat → Value, (listed.setIfInBounds i true).size = ops.size ∧ a' = putAll ops vs' a0 (dones ops (listed.setIfInBounds i true)) ∧
          WInv (dones ops (listed.setIfInBounds i true)).length (memo ops.size (listed.setIfInBounds i true) vs') w' ∧ ∀ j ∈ dones ops (listed.setIfInBounds i true), Post j (vs' j) w') Q := by
      intro hst
      have hne : Needs ops Post (memo ops.size listed vs) a0 (putAll ops vs a0 (dones ops listed)) w o.op.operands.toList := needs_of ok.slots hp _ fun t ht j hj => by
        obtain ⟨e, he, hb, rfl⟩ := ok.deps i o ho t ht j hj
        have h1 := hall e he hb
        refine dones_mem.2 ⟨?_, h1⟩
        exact Nat.lt_trans (ok.back i o ho e he hb) hil
      refine Oper.wp_mono ?_ (hst _ _ _ _ (by omega) hw hmn hne)
      rintro a' w' ⟨v, rfl, hw', hR, hpv⟩
      exact hnext v w' hw' hR hpv
    unfold Step1 at hst
    rcases ok.guard i o ho with hg | ⟨q, d, hg, hq, hd, he⟩
    · rw [hg] at hst
      rw [if_pos (by simp [Region.wanted, hg])]
      exact .inl (hrun hst)
    · rw [hg] at hst
      simp only at hst
      by_cases hc : gl.contains q = true
      · rw [hc] at hst
        have hy := hyield q d hd he (by simpa using hc)
        obtain ⟨q1, q2⟩ := q
        simp only at hy
        rw [if_pos (by simp [Region.wanted, hg, hy])]
        exact .inl (hrun hst)
      · have hc' : gl.contains q = false := by simpa using hc
        rw [hc'] at hst
        have hq' : (q.1, !q.2) ∈ gl := by
          rcases hq with h1 | h1
          · exact absurd (by simpa using h1) hc
          · exact h1
        have hy := hyield (q.1, !q.2) d hd he hq'
        obtain ⟨q1, q2⟩ := q
        simp only at hy
        rw [if_neg (by simp [Region.wanted, hg, hy])]
        obtain ⟨h1, h2, h3⟩ := hst _ _ _ (by omega) hw hmn
        exact hnext undef w h1 h2 h3
  · rintro listed a w ⟨vs, hsz, rfl, hw, hp⟩ hr
    have hall : ∀ i, i < ops.size → listed.getD i false = true := by
      intro i
      induction i using Nat.strongRecOn with
      | ind i ih =>
        intro hil
        have hlil : i < listed.size := by omega
        by_cases hl : listed.getD i false = true
        · exact hl
        · have : i ∈ Region.ready .any ops listed := mem_ready.2 ⟨by simp [hlil] at hl ⊢; exact hl, _, Array.getElem?_eq_getElem hil, fun e he hb => by
            have hlt := ok.back i _ (Array.getElem?_eq_getElem hil) e he hb
            exact ih _ hlt (Nat.lt_trans hlt hil)⟩
          rw [hr] at this
          cases this
    have hmem : ∀ j, j ∈ dones ops listed ↔ j ∈ (List.range' 0 ops.toList.length).reverse := fun j => by
      rw [dones_mem, List.mem_reverse, List.mem_range'_1]
      simp only [Array.length_toList, Nat.zero_le, true_and, Nat.zero_add]
      exact ⟨fun h => h.1, fun h => ⟨h, hall j h⟩⟩
    have hcu : (dones ops listed).length ≤ ops.size := by
      unfold dones
      exact Nat.le_trans (List.length_filter_le _ _) (by simp)
    have h1 := AllVals.use (vs := vs) _ _ _ (hend _ w (hmono _ _ _ _ hw hcu (Nat.le_refl _))) fun k hk => by
      rw [Nat.zero_add]
      have hk' : k < ops.size := by simpa using hk
      exact ⟨if_pos ⟨hk', hall k hk'⟩, hp k (dones_mem.2 ⟨hk', hall k hk'⟩)⟩
    rw [seqPut_eq (ops := ops) _ _ _ (fun k o ho => by rw [Nat.zero_add]; unfold dstAt; rw [← Array.getElem?_toList, ho]; rfl)] at h1
    rwa [putAll_ext ok.slots hmem (fun _ _ => rfl)]
theorem wp_region_rg {id : Nat} {w : World} (hm : P.follows .mixedOrders = true) (hok : regionOk ops a0.tmps.size = true)
    (hmono : ∀ c c' m w, WInv c m w → c ≤ c' → c' ≤ ops.size → WInv c' m w)
    (hstab : ∀ i v w1 w2, Post i v w1 → R w1 w2 → Post i v w2)
    (h0 : WInv 0 (fun _ => none) w.drew) (hstep : StepsAll [] P ops Q WInv R Post a0 ops.toList 0)
    (hend : ∀ m w', WInv ops.size m w' → AllVals Post m w' (fun a' => Q .normal a' w') ops.toList 0 a0) : (Code.region id ops true).wp P Q a0 w :=
  wp_region_rgg [] hm hok (fun p hp => by cases hp) hmono hstab h0 hstep hend
end
end Go.Proofs.Ytenbbkmbnpdfaaa
