import Derived.Test.YtgacaemgmgoiaaaSt
/- A region that draws its order, with stores and with calls that change boxes: each operation is shown once; R tells what stays, Inv what changes by what has been done. -/
namespace Go.Proofs.YtgacaemgmgoiaaaW.Rg
open Go.RowKit Go.Proofs.YtgacaemgmgoiaaaW.PrintWords Go.Proofs.YtgacaemgmgoiaaaW.PrintLast
set_option linter.unusedVariables false
set_option linter.unusedSimpArgs false
section
variable {P : Program} {ops : Array Oper} {Q : Exit → Act → World → Prop}
/-- The frame, where some operations fill no slot. -/
structure FrO (a0 a : Act) (ds : List (Option Tmp)) (b : Nat → Bool) (V : Nat → Value) : Prop where
  d : a.defers = a0.defers
  s : a.tmps.size = a0.tmps.size
  on : ∀ i t, ds[i]? = some (some t) → b i = true → a.tmps[t]? = some (V i)
  off : ∀ t, (∀ i, ds[i]? = some (some t) → b i = false) → a.tmps[t]? = a0.tmps[t]?
/-- All slots filled, in the list's order. -/
def fillO (V : Nat → Value) : Nat → List (Option Tmp) → Act → Act
  | _, [], a => a
  | k, t :: r, a => fillO V (k + 1) r (a.put t (V k))
theorem fillO_size (V : Nat → Value) : ∀ (r : List (Option Tmp)) (k : Nat) (a : Act), (fillO V k r a).tmps.size = a.tmps.size ∧ (fillO V k r a).defers = a.defers
  | [], _, _ => ⟨rfl, rfl⟩
  | t :: r, k, a => by
    have := fillO_size V r (k + 1) (a.put t (V k))
    refine ⟨this.1.trans ?_, this.2.trans ?_⟩ <;> cases t <;> simp [Act.put]
/-- No slot is filled twice. -/
def once : List (Option Tmp) → Bool
  | [] => true
  | none :: r => once r
  | some t :: r => !(r.contains (some t)) && once r
theorem fillO_get (V : Nat → Value) : ∀ (r : List (Option Tmp)) (k : Nat) (a : Act) (s : Tmp), once r = true → (∀ t, some t ∈ r → t < a.tmps.size) → (fillO V k r a).tmps[s]? = match r.findIdx? (· == some s) with
    | some i => some (V (k + i))
    | none => a.tmps[s]?
  | [], _, _, _, _, _ => rfl
  | none :: r, k, a, s, hn, hl => by
    unfold fillO
    rw [fillO_get V r (k + 1) _ s hn (fun u hu => by simpa [Act.put] using hl u (List.mem_cons_of_mem _ hu)), List.findIdx?_cons]
    have h1 : ((none : Option Tmp) == some s) = false := rfl
    simp only [h1]
    cases hf : r.findIdx? (· == some s) with
    | none => simp [Act.put]
    | some i => simp only [Option.map_some]; rw [show k + 1 + i = k + (i + 1) by omega]; rfl
  | some t :: r, k, a, s, hn, hl => by
    simp only [once, Bool.and_eq_true, Bool.not_eq_true'] at hn
    unfold fillO
    rw [fillO_get V r (k + 1) _ s hn.2 (fun u hu => by simpa [Act.put] using hl u (List.mem_cons_of_mem _ hu)), List.findIdx?_cons]
    by_cases hts : t = s
    · subst hts
      have h0 : r.findIdx? (· == some t) = none := by
        rw [List.findIdx?_eq_none_iff]
        intro x hx
        refine beq_eq_false_iff_ne.2 (fun e => ?_)
        have h2 : r.contains (some t) = true := List.contains_iff_mem.2 (e ▸ hx)
        rw [hn.1] at h2
        cases h2
      have h1 := hl t (List.mem_cons_self ..)
      simp [h0, Act.put, h1]
    · have h1 : (some t == some s) = false := beq_eq_false_iff_ne.2 (fun e => hts (Option.some.inj e))
      simp only [h1]
      cases hf : r.findIdx? (· == some s) with
      | none => simp [Act.put, Array.getElem?_setIfInBounds_ne hts]
      | some i => simp only [Option.map_some]; rw [show k + 1 + i = k + (i + 1) by omega]; rfl
theorem FrO.all {a0 a : Act} {ds : List (Option Tmp)} {b : Nat → Bool} {V : Nat → Value} (h : FrO a0 a ds b V) (hn : once ds = true) (hl : ∀ t, some t ∈ ds → t < a0.tmps.size) (hb : ∀ i, i < ds.length → b i = true) : a = fillO V 0 ds a0 := by
  refine act_ext (h.d.trans (fillO_size V ds 0 a0).2.symm) (fun s => ?_)
  rw [fillO_get V ds 0 a0 s hn hl]
  cases hf : ds.findIdx? (· == some s) with
  | none =>
    rw [List.findIdx?_eq_none_iff] at hf
    exact h.off s (fun i hi => absurd (hf _ (List.mem_of_getElem? hi)) (by simp))
  | some i =>
    rw [List.findIdx?_eq_some_iff_getElem] at hf
    obtain ⟨hi, he, _⟩ := hf
    have he' : ds[i] = some s := by simpa using he
    simp only [Nat.zero_add]
    exact h.on i s (by rw [List.getElem?_eq_getElem hi, he']) (hb i hi)
theorem once_inj : ∀ {ds : List (Option Tmp)}, once ds = true → ∀ {i j : Nat} {t : Tmp}, ds[i]? = some (some t) → ds[j]? = some (some t) → i = j
  | [], _, i, j, t, h, _ => by simp at h
  | none :: r, hn, 0, j, t, h, _ => by simp at h
  | none :: r, hn, i + 1, 0, t, _, h => by simp at h
  | none :: r, hn, i + 1, j + 1, t, h1, h2 => by
    have := once_inj (ds := r) (i := i) (j := j) (t := t) hn (by simpa using h1) (by simpa using h2)
    omega
  | some u :: r, hn, i, j, t, h1, h2 => by
    simp only [once, Bool.and_eq_true, Bool.not_eq_true'] at hn
    have hno : ∀ {k : Nat}, r[k]? = some (some u) → False := fun {k} hk => by
      have h3 : r.contains (some u) = true := List.contains_iff_mem.2 (List.mem_of_getElem? hk)
      rw [hn.1] at h3
      cases h3
    cases i with
    | zero =>
      cases j with
      | zero => rfl
      | succ j =>
        simp only [List.getElem?_cons_zero, Option.some.injEq] at h1
        subst h1
        exact (hno (by simpa using h2)).elim
    | succ i =>
      cases j with
      | zero =>
        simp only [List.getElem?_cons_zero, Option.some.injEq] at h2
        subst h2
        exact (hno (by simpa using h1)).elim
      | succ j =>
        have := once_inj (ds := r) (i := i) (j := j) (t := t) hn.2 (by simpa using h1) (by simpa using h2)
        omega
theorem FrO.step {a0 a : Act} {ds : List (Option Tmp)} {b : Nat → Bool} {V : Nat → Value} (h : FrO a0 a ds b V) (hn : once ds = true) (hl : ∀ t, some t ∈ ds → t < a0.tmps.size) {i : Nat} {d : Option Tmp} (ht : ds[i]? = some d) (v : Value) : FrO a0 (a.put d v) ds (upb b i) (upv V i v) := by
  cases d with
  | none =>
    refine ⟨h.d, by simpa [Act.put] using h.s, fun j s hj hb => ?_, fun s hs => ?_⟩
    · have hji : j ≠ i := fun e => by subst e; rw [hj] at ht; cases ht
      have hb' : b j = true := by simpa [upb, hji] using hb
      simp only [Act.put, upv, if_neg hji]
      exact h.on j s hj hb'
    · refine h.off s (fun j hj => ?_)
      have hji : j ≠ i := fun e => by subst e; rw [hj] at ht; cases ht
      simpa [upb, hji] using hs j hj
  | some t =>
    have htl : t < a.tmps.size := by rw [h.s]; exact hl t (List.mem_of_getElem? ht)
    refine ⟨h.d, by simpa [Act.put] using h.s, fun j s hj hb => ?_, fun s hs => ?_⟩
    · by_cases hji : j = i
      · subst hji
        rw [hj] at ht
        obtain rfl := Option.some.inj (Option.some.inj ht)
        simp [Act.put, htl, upv]
      · have hne : t ≠ s := fun e => by
          subst e
          exact hji (once_inj hn hj ht)
        have hb' : b j = true := by simpa [upb, hji] using hb
        simp only [Act.put, Array.getElem?_setIfInBounds_ne hne, upv, if_neg hji]
        exact h.on j s hj hb'
    · have hne : t ≠ s := fun e => by
        subst e
        have := hs i ht
        simp [upb] at this
      simp only [Act.put, Array.getElem?_setIfInBounds_ne hne]
      refine h.off s (fun j hj => ?_)
      have := hs j hj
      by_cases hji : j = i
      · subst hji; simp [upb] at this
      · simpa [upb, hji] using this
/-- One operation, whatever came up before it. -/
def StepD (P : Program) (ops : Array Oper) (Q : Exit → Act → World → Prop) (a0 : Act) (R : World → World → Prop) (Inv : (Nat → Bool) → World → Prop) (w1 : World) (ds : List (Option Tmp)) (φs : List (Value → World → Prop)) (i : Nat) : Prop :=
  ∃ oi d φ, ops[i]? = some oi ∧ oi.dst = d ∧ ds[i]? = some d ∧ φs[i]? = some φ ∧ ∀ b a w, (∀ j, preE ops i j = true → b j = true) → b i = false → (∀ k j, preE ops k j = true → b k = true → b j = true) → R w1 w → Inv b w →
    (∀ s, (ds.contains (some s)) = false → a.tmps[s]? = a0.tmps[s]?) →
    (∀ j, preE ops i j = true → ∀ d ψ, ds[j]? = some d → φs[j]? = some ψ → ∃ v, (∀ s, d = some s → a.tmps[s]? = some v) ∧ ψ v w) →
    ∀ K : Act → World → Prop, Shut (∀ v w', R w w' → Inv (upb b i) w' → φ v w' → K (a.put d v) w') → OpG P ops oi a w K Q
/-- What an operation must come behind: through its edges. -/
inductive Reach (ops : Array Oper) : Nat → Nat → Prop
  | one {k j : Nat} (h : preE ops k j = true) : Reach ops k j
  | more {k e j : Nat} (h : preE ops k e = true) (r : Reach ops e j) : Reach ops k j
def rb (ops : Array Oper) : Nat → Nat → Nat → Bool
  | 0, _, _ => false
  | f + 1, k, j => match ops[k]? with
    | some o => o.after.toList.any fun e => Region.binds .any e && (e.on == j || rb ops f e.on j)
    | none => false
theorem rb_reach {ops : Array Oper} : ∀ {f k j : Nat}, rb ops f k j = true → Reach ops k j
  | 0, k, j, h => by simp [rb] at h
  | f + 1, k, j, h => by
    unfold rb at h
    cases ho : ops[k]? with
    | none => rw [ho] at h; cases h
    | some o =>
      rw [ho] at h
      obtain ⟨e, he, h2⟩ := List.any_eq_true.1 h
      simp only [Bool.and_eq_true, Bool.or_eq_true, beq_iff_eq] at h2
      have hp : preE ops k e.on = true := by
        unfold preE
        rw [ho]
        exact List.any_eq_true.2 ⟨e, he, by simp [h2.1]⟩
      rcases h2.2 with h3 | h3
      · subst h3; exact .one hp
      · exact .more hp (rb_reach h3)
theorem Reach.closed {ops : Array Oper} {b : Nat → Bool} (hc : ∀ k j, preE ops k j = true → b k = true → b j = true) {k j : Nat} (h : Reach ops k j) (hk : ∀ e, preE ops k e = true → b e = true) : b j = true := by
  induction h with
  | one h => exact hk _ h
  | more h r ih => exact ih (fun e' he' => hc _ _ he' (hk _ h))
/-- From operation M on, each comes behind all ahead of it. -/
def tailed (ops : Array Oper) (M : Nat) : Bool := (List.range' M (ops.size - M)).all fun k => (List.range k).all fun j => rb ops ops.size k j
theorem tailed_reach {ops : Array Oper} {M : Nat} (h : tailed ops M = true) {k j : Nat} (h1 : M ≤ k) (h2 : k < ops.size) (hj : j < k) : Reach ops k j :=
  rb_reach (List.all_eq_true.1 (List.all_eq_true.1 h k (List.mem_range'_1.2 ⟨h1, by omega⟩)) j (List.mem_range.2 hj))
theorem ready_lt {listed : Array Bool} {i : Nat} (hi : i ∈ Region.ready .any ops listed) : i < ops.size := by
  obtain ⟨_, o, ho, _⟩ := mem_ready.1 hi
  exact (Array.getElem?_eq_some_iff.1 ho).1
theorem ready_off {listed : Array Bool} {i : Nat} (hsz : listed.size = ops.size) (hi : i ∈ Region.ready .any ops listed) : listed.getD i false = false := by
  have hl := ready_lt hi
  obtain ⟨h1, _⟩ := mem_ready.1 hi
  have hil : i < listed.size := by omega
  simp only [Array.getD_eq_getD_getElem?, Array.getElem?_eq_getElem hil] at h1 ⊢
  simpa using h1
theorem ready_pre {listed : Array Bool} {i : Nat} (hi : i ∈ Region.ready .any ops listed) : ∀ j, preE ops i j = true → listed.getD j false = true := fun j hj => by
  obtain ⟨_, o, ho, hpre⟩ := mem_ready.1 hi
  unfold preE at hj
  rw [ho] at hj
  obtain ⟨e, he, hej⟩ := List.any_eq_true.1 hj
  replace he := Array.mem_toList_iff.1 he
  simp only [Bool.and_eq_true, beq_iff_eq] at hej
  rw [← hej.2]
  exact hpre e he hej.1
theorem ready_some (hac : acyc ops = true) {listed : Array Bool} (hsz : listed.size = ops.size) (hex : ∃ j, j < ops.size ∧ listed.getD j false = false) : Region.ready .any ops listed ≠ [] := by
  have hmin : ∀ k, (∃ j, j ≤ k ∧ j < ops.size ∧ listed.getD j false = false) → ∃ j, j < ops.size ∧ listed.getD j false = false ∧ ∀ i, i < j → listed.getD i false = true := by
    intro k
    induction k with
    | zero => rintro ⟨j, hj, h1, h2⟩; exact ⟨j, h1, h2, fun i hi => by omega⟩
    | succ k ih =>
      rintro ⟨j, hj, h1, h2⟩
      by_cases hlow : ∃ i, i ≤ k ∧ i < ops.size ∧ listed.getD i false = false
      · exact ih hlow
      · refine ⟨j, h1, h2, fun i hi => ?_⟩
        cases hb : listed.getD i false with
        | true => rfl
        | false => exact absurd ⟨i, by omega, by omega, hb⟩ hlow
  obtain ⟨j0, h1, h2⟩ := hex
  obtain ⟨j, hj, hjf, hlow⟩ := hmin j0 ⟨j0, Nat.le_refl _, h1, h2⟩
  intro hnil
  have hin : j ∈ Region.ready .any ops listed := by
    rw [mem_ready]
    refine ⟨?_, ops[j], Array.getElem?_eq_getElem hj, fun e he _ => hlow e.on ?_⟩
    · simp only [Array.getD_eq_getD_getElem?] at hjf ⊢
      rw [Array.getElem?_eq_getElem (by omega)] at hjf ⊢
      simpa using hjf
    · have := List.all_eq_true.1 hac j (List.mem_range.2 hj)
      rw [Array.getElem?_eq_getElem hj] at this
      simpa using Array.all_eq_true_iff_forall_mem.1 this e he
  rw [hnil] at hin
  cases hin
theorem listed_set {listed : Array Bool} {n i : Nat} (hsz : listed.size = n) (hi : i < n) {b : Nat → Bool} (hlb : ∀ j, j < n → listed.getD j false = b j) : ∀ j, j < n → (listed.setIfInBounds i true).getD j false = upb b i j := fun j hj => by
  by_cases hji : j = i
  · subst hji
    simp [upb, Array.getD_eq_getD_getElem?, show j < listed.size by omega]
  · have h2 := hlb j hj
    simp only [Array.getD_eq_getD_getElem?] at h2 ⊢
    rw [Array.getElem?_setIfInBounds_ne (Ne.symm hji), h2]
    simp [upb, hji]
/-- The tail, where one thing after the other is ready. -/
theorem tail_any (hac : acyc ops = true) {M : Nat} (ht : tailed ops M = true) : ∀ (d k : Nat) (listed : Array Bool) (a : Act) (w : World), M ≤ k → k + d = ops.size → listed.size = ops.size → (∀ j, j < ops.size → listed.getD j false = decide (j < k)) → wpOps P ops Q (List.range' k d) a w → wpAny P .any ops Q d listed a w := by
  intro d
  induction d with
  | zero =>
    intro k listed a w hMk hk hsz hl h
    refine ⟨List.eq_nil_iff_forall_not_mem.2 (fun i hi => ?_), h⟩
    have h1 := ready_lt hi
    have h2 := ready_off hsz hi
    rw [hl i h1] at h2
    simp at h2
    omega
  | succ d ih =>
    intro k listed a w hMk hk hsz hl h
    rw [List.range'_succ, wpOps_cons] at h
    refine ⟨fun hnil => absurd hnil (ready_some hac hsz ⟨k, by omega, by rw [hl k (by omega)]; simp⟩), fun i hi => ?_⟩
    have h1 := ready_lt hi
    have h2 := ready_off hsz hi
    have h3 := ready_pre hi
    rw [hl i h1] at h2
    have hik : i = k := by
      by_cases e : i = k
      · exact e
      exfalso
      have hki : k < i := by simp at h2; omega
      have hb : decide (k < k) = true := Reach.closed (b := fun j => decide (j < k)) (fun x y hxy hx => ?_) (tailed_reach ht (k := i) (j := k) (by omega) h1 hki) (fun e he => ?_)
      · simp at hb
      · have hx' : x < k := by simpa using hx
        have hyx : y < x := by
          unfold preE at hxy
          have hxs : x < ops.size := by omega
          rw [Array.getElem?_eq_getElem hxs] at hxy
          obtain ⟨e, he, hej⟩ := List.any_eq_true.1 hxy
          have := List.all_eq_true.1 hac x (List.mem_range.2 hxs)
          rw [Array.getElem?_eq_getElem hxs] at this
          have h5 := Array.all_eq_true_iff_forall_mem.1 this e (Array.mem_toList_iff.1 he)
          simp only [Bool.and_eq_true, beq_iff_eq, decide_eq_true_eq] at hej h5
          omega
        simpa using (by omega : y < k)
      · have h4 := h3 e he
        by_cases hes : e < ops.size
        · rw [hl e hes] at h4; exact h4
        · simp [Array.getD_eq_getD_getElem?, Array.getElem?_eq_none (show listed.size ≤ e by omega)] at h4
    subst hik
    refine wpOp_mono (fun a w h => ih (i + 1) _ a w (by omega) (by omega) (by simpa using hsz) (fun j hj => ?_) h) h
    rw [listed_set hsz h1 hl j hj]
    unfold upb
    by_cases e : j = i
    · subst e; simp
    · rw [if_neg e, decide_eq_decide]; omega
theorem rgd_any {a0 : Act} {R : World → World → Prop} {Inv : (Nat → Bool) → World → Prop} (hR : ∀ {x y z}, R x y → R y z → R x z) {w1 : World} (hac : acyc ops = true) {M : Nat} (hM : M ≤ ops.size) (htl : tailed ops M = true) (ds : List (Option Tmp)) (φs : List (Value → World → Prop)) (hds : ds.length = M) (hn : once ds = true) (hl : ∀ t, some t ∈ ds → t < a0.tmps.size)
    (hst : ∀ φ ∈ φs, ∀ v w w', R w w' → φ v w → φ v w') (hs : ∀ i ∈ List.range M, StepD P ops Q a0 R Inv w1 ds φs i)
    (hend : ∀ (V : Nat → Value) w, R w1 w → (∀ b : Nat → Bool, (∀ i, i < M → b i = true) → Inv b w → (∀ i φ, φs[i]? = some φ → i < M → φ (V i) w) → wpOps P ops Q (List.range' M (ops.size - M)) (fillO V 0 ds a0) w)) :
    ∀ (m : Nat) (listed : Array Bool) (b : Nat → Bool) (V : Nat → Value) (a : Act) (w : World), listed.size = ops.size → (∀ j, j < ops.size → listed.getD j false = b j) → (∀ j, M ≤ j → b j = false) → (∀ k j, preE ops k j = true → b k = true → b j = true) → ((listed.toList.take M).filter fun x => !x).length = m → FrO a0 a ds b V → R w1 w → Inv b w →
      (∀ i φ, φs[i]? = some φ → i < M → b i = true → φ (V i) w) → wpAny P .any ops Q (m + (ops.size - M)) listed a w := by
  intro m
  induction m with
  | zero =>
    intro listed b V a w hsz hlb hbo hcl hm hF hRw hI hφ
    have hbt : ∀ j, j < M → b j = true := by
      intro j hj
      cases hb : b j with
      | true => rfl
      | false =>
        have hjl : j < listed.size := by omega
        have he : listed[j] = false := by
          have := hlb j (by omega)
          simp only [Array.getD_eq_getD_getElem?, Array.getElem?_eq_getElem hjl] at this
          rw [hb] at this
          simpa using this
        have hmem : listed[j] ∈ listed.toList.take M := List.mem_iff_getElem.2 ⟨j, by simp; omega, by simp⟩
        have : listed[j] ∈ (listed.toList.take M).filter fun x => !x := List.mem_filter.2 ⟨hmem, by rw [he]; rfl⟩
        rw [List.eq_nil_of_length_eq_zero hm] at this
        cases this
    rw [Nat.zero_add]
    refine tail_any hac htl (ops.size - M) M listed a w (Nat.le_refl _) (by omega) hsz (fun j hj => ?_) ?_
    · rw [hlb j hj]
      by_cases h : j < M
      · rw [hbt j h]; simp [h]
      · rw [hbo j (by omega)]; simp [h]
    · rw [hF.all hn hl (fun i hi => hbt i (by omega))]
      exact hend V w hRw b hbt hI (fun i φ h1 h2 => hφ i φ h1 h2 (hbt i h2))
  | succ m ih =>
    intro listed b V a w hsz hlb hbo hcl hm hF hRw hI hφ
    have hex : ∃ j, j < M ∧ listed.getD j false = false := by
      have : ∃ x, x ∈ (listed.toList.take M).filter fun x => !x := by
        cases hf : (listed.toList.take M).filter (fun x => !x) with
        | nil => rw [hf] at hm; simp at hm
        | cons x r => exact ⟨x, List.mem_cons_self ..⟩
      obtain ⟨x, hx⟩ := this
      rw [List.mem_filter] at hx
      obtain ⟨j, hj, he⟩ := List.mem_iff_getElem.1 hx.1
      have hjM : j < M := by rw [List.length_take] at hj; omega
      have hjl : j < listed.size := by omega
      refine ⟨j, hjM, ?_⟩
      simp only [Array.getD_eq_getD_getElem?, Array.getElem?_eq_getElem hjl]
      have hxf : x = false := by simpa using hx.2
      rw [List.getElem_take] at he
      simp only [Array.getElem_toList] at he
      simp [he, hxf]
    obtain ⟨j0, hj0, hj0f⟩ := hex
    rw [show m + 1 + (ops.size - M) = (m + (ops.size - M)) + 1 by omega]
    refine ⟨fun hnil => absurd hnil (ready_some hac hsz ⟨j0, by omega, hj0f⟩), fun i hi => ?_⟩
    have hil := ready_lt hi
    have hoff := ready_off hsz hi
    have hpre := ready_pre hi
    have hpreb : ∀ j, preE ops i j = true → b j = true := fun j hj => by
      have h4 := hpre j hj
      by_cases hes : j < ops.size
      · rw [hlb j hes] at h4; exact h4
      · simp [Array.getD_eq_getD_getElem?, Array.getElem?_eq_none (show listed.size ≤ j by omega)] at h4
    have hbi : b i = false := by rw [← hlb i hil]; exact hoff
    have hiM : i < M := by
      by_cases h : i < M
      · exact h
      exfalso
      have := Reach.closed hcl (tailed_reach htl (k := i) (j := j0) (by omega) hil (by omega)) hpreb
      rw [← hlb j0 (by omega), hj0f] at this
      cases this
    obtain ⟨oi, d, φ, ho, hdst, hti, hφi, hstep⟩ := hs i (List.mem_range.2 hiM)
    unfold wpOp
    rw [ho]
    refine opg_to (hstep b a w hpreb hbi hcl hRw hI (fun s hs' => ?_) (fun j hj d' ψ hs' hψ => ?_) _ (fun v w' hM' hI' hv => ?_))
    · refine hF.off s (fun k hk => ?_)
      have : ds.contains (some s) = true := List.contains_iff_mem.2 (List.mem_of_getElem? hk)
      rw [hs'] at this
      cases this
    · have hjs : j < M := by
        have := (List.getElem?_eq_some_iff.1 hs').1
        omega
      exact ⟨V j, fun s hs2 => by subst hs2; exact hF.on j s hs' (hpreb j hj), hφ j ψ hψ hjs (hpreb j hj)⟩
    · refine ih (listed.setIfInBounds i true) (upb b i) (upv V i v) (a.put d v) w' (by simpa using hsz) (listed_set hsz hil hlb) (fun j hj => ?_) (fun k j hk hbk => ?_) ?_ (hF.step hn hl hti v) (hR hRw hM') hI' (fun j ψ hj hjl' hb => ?_)
      · have : j ≠ i := by omega
        simp [upb, this, hbo j hj]
      · by_cases hki : k = i
        · subst hki
          by_cases hjk : j = k
          · simp [upb, hjk]
          · simp [upb, hjk, hpreb j hk]
        · have hb' : b k = true := by simpa [upb, hki] using hbk
          by_cases hji : j = i
          · simp [upb, hji]
          · simp [upb, hji, hcl k j hk hb']
      · have hcount : ∀ (l : List Bool) (k : Nat) (hk : k < l.length), l[k] = false → ((l.set k true).filter fun x => !x).length + 1 = (l.filter fun x => !x).length := by
          intro l
          induction l with
          | nil => intro k hk; simp at hk
          | cons x r ihl =>
            intro k hk he
            cases k with
            | zero =>
              simp only [List.getElem_cons_zero] at he
              subst he
              simp
            | succ k =>
              simp only [List.getElem_cons_succ] at he
              have := ihl k (by simpa using hk) he
              cases x
              · simp only [List.set_cons_succ, List.filter_cons, Bool.not_false, if_true, List.length_cons]; omega
              · simpa using this
        have hjl : i < listed.size := by omega
        have hif : listed[i] = false := by
          simp only [Array.getD_eq_getD_getElem?, Array.getElem?_eq_getElem hjl] at hoff
          simpa using hoff
        have := hcount (listed.toList.take M) i (by rw [List.length_take]; simp; omega) (by rw [List.getElem_take]; simpa using hif)
        rw [Array.toList_setIfInBounds, List.take_set]
        omega
      · by_cases hji : j = i
        · subst hji
          obtain rfl := Option.some.inj (hj.symm.trans hφi)
          simpa [upv] using hv
        · have hb' : b j = true := by simpa [upb, hji] using hb
          simp only [upv, if_neg hji]
          exact hst ψ (List.mem_of_getElem? hj) _ _ _ hM' (hφ j ψ hj hjl' hb')
/-- THE REGION: its first M operations in any order, the others as they stand. -/
theorem rgd {id : Nat} {a0 : Act} {R : World → World → Prop} {Inv : (Nat → Bool) → World → Prop} {w : World} (hm : P.follows .mixedOrders = true) (hac : acyc ops = true) (M : Nat) (hM : decide (M ≤ ops.size) = true) (htl : tailed ops M = true) (ds : List (Option Tmp)) (φs : List (Value → World → Prop)) (hds : ds.length = M) (hn : once ds = true) (hl : (ds.all fun d => match d with | some t => decide (t < a0.tmps.size) | none => true) = true)
    (hR : ∀ {x y z}, R x y → R y z → R x z) (hdr : R w w.drew) (hI : Inv (fun _ => false) w.drew)
    (hst : ∀ φ ∈ φs, ∀ v w w', R w w' → φ v w → φ v w') (hs : ∀ i ∈ List.range M, StepD P ops Q a0 R Inv w ds φs i)
    (hend : ∀ (V : Nat → Value) w', R w w' → (∀ b : Nat → Bool, (∀ i, i < M → b i = true) → Inv b w' → (∀ i φ, φs[i]? = some φ → i < M → φ (V i) w') → wpOps P ops Q (List.range' M (ops.size - M)) (fillO V 0 ds a0) w')) : (Code.region id ops true).wp P Q a0 w := by
  refine wp_region_any hm ?_
  have hl' : ∀ t, some t ∈ ds → t < a0.tmps.size := fun t ht => by simpa using List.all_eq_true.1 hl (some t) ht
  have hM' : M ≤ ops.size := of_decide_eq_true hM
  have := rgd_any (R := R) (Inv := Inv) hR (w1 := w) hac hM' htl ds φs hds hn hl' hst hs hend M (Array.replicate ops.size false) (fun _ => false) (fun _ => undef) a0 w.drew (by simp) (fun j hj => by simp [Array.getD_eq_getD_getElem?, hj]) (fun _ _ => rfl) (fun _ _ _ h => (by cases h)) (by simp [List.take_replicate, Nat.min_eq_left hM']) ⟨rfl, rfl, fun _ _ _ h => (by cases h), fun _ _ => rfl⟩ hdr hI (fun _ _ _ _ h => (by cases h))
  rwa [show M + (ops.size - M) = ops.size by omega] at this
theorem stdd_nil {a0 : Act} {R : World → World → Prop} {Inv : (Nat → Bool) → World → Prop} {w1 : World} {ds : List (Option Tmp)} {φs : List (Value → World → Prop)} : ∀ i ∈ ([] : List Nat), StepD P ops Q a0 R Inv w1 ds φs i := fun _ h => by cases h
theorem stdd_cons {a0 : Act} {R : World → World → Prop} {Inv : (Nat → Bool) → World → Prop} {w1 : World} {ds : List (Option Tmp)} {φs : List (Value → World → Prop)} {i : Nat} {rs : List Nat} (h : StepD P ops Q a0 R Inv w1 ds φs i) (hs : ∀ j ∈ rs, StepD P ops Q a0 R Inv w1 ds φs j) : ∀ j ∈ i :: rs, StepD P ops Q a0 R Inv w1 ds φs j := fun j hj => by
  rcases List.mem_cons.1 hj with rfl | hj
  · exact h
  · exact hs j hj
/-- A step with no guard. -/
theorem stdd {a0 : Act} {R : World → World → Prop} {Inv : (Nat → Bool) → World → Prop} {w1 : World} {ds : List (Option Tmp)} {φs : List (Value → World → Prop)} {i : Nat} {oi : Oper} {d : Option Tmp} {φ : Value → World → Prop} (h1 : ops[i]? = some oi) (h2 : oi.dst = d) (h3 : ds[i]? = some d) (h4 : φs[i]? = some φ) (hg : oi.guard = none)
    (h : ∀ b a w, (∀ j, preE ops i j = true → b j = true) → b i = false → (∀ k j, preE ops k j = true → b k = true → b j = true) → R w1 w → Inv b w → (∀ s, (ds.contains (some s)) = false → a.tmps[s]? = a0.tmps[s]?) → (∀ j, preE ops i j = true → ∀ d ψ, ds[j]? = some d → φs[j]? = some ψ → ∃ v, (∀ s, d = some s → a.tmps[s]? = some v) ∧ ψ v w) →
      ∀ K : Act → World → Prop, Shut (∀ v w', R w w' → Inv (upb b i) w' → φ v w' → K (a.put d v) w') → Oper.wp P oi a w K Q) : StepD P ops Q a0 R Inv w1 ds φs i :=
  ⟨oi, d, φ, h1, h2, h3, h4, fun b a w hb hi hc hM hI hoff hp K hK => og_plain hg (h b a w hb hi hc hM hI hoff hp K hK)⟩
/-! ### a region that draws, whose first operations make memory at most -/
theorem fillO_some (V : Nat → Value) : ∀ (ts : List Tmp) (k : Nat) (a : Act), fillO V k (ts.map some) a = fillAll V k ts a
  | [], _, _ => rfl
  | t :: r, k, a => fillO_some V r (k + 1) (a.put (some t) (V k))
theorem once_some : ∀ {ts : List Tmp}, ts.Nodup → once (ts.map some) = true
  | [], _ => rfl
  | t :: r, h => by
    rw [List.nodup_cons] at h
    have h1 : (r.map some).contains (some t) = false := by
      cases hc : (r.map some).contains (some t) with
      | false => rfl
      | true =>
        have := List.contains_iff_mem.1 hc
        obtain ⟨x, hx, e⟩ := List.mem_map.1 this
        cases e
        exact absurd hx h.1
    simp only [List.map_cons, once, h1, once_some h.2]
    rfl
def StepR (P : Program) (ops : Array Oper) (Q : Exit → Act → World → Prop) (a0 : Act) (S : Nat → Prop) (w1 : World) (ts : List Tmp) (φs : List (Value → World → Prop)) (i : Nat) : Prop :=
  ∃ oi t φ, ops[i]? = some oi ∧ oi.dst = some t ∧ ts[i]? = some t ∧ φs[i]? = some φ ∧ ∀ a w, Rl S w1 w → True →
    (∀ s, (ts.contains s) = false → a.tmps[s]? = a0.tmps[s]?) →
    (∀ j, preE ops i j = true → ∀ s ψ, ts[j]? = some s → φs[j]? = some ψ → ∃ v, a.tmps[s]? = some v ∧ ψ v w) →
    ∀ K : Act → World → Prop, Shut (∀ v w', Rl S w w' → True → φ v w' → K (a.put (some t) v) w') → OpG P ops oi a w K Q
theorem str {a0 : Act} {S : Nat → Prop} {w1 : World} {ts : List Tmp} {φs : List (Value → World → Prop)} {i : Nat} {oi : Oper} {t : Tmp} {φ : Value → World → Prop} (h1 : ops[i]? = some oi) (h2 : oi.dst = some t) (h3 : ts[i]? = some t) (h4 : φs[i]? = some φ) (hg : oi.guard = none)
    (h : ∀ a w, Rl S w1 w → True → (∀ s, (ts.contains s) = false → a.tmps[s]? = a0.tmps[s]?) → (∀ j, preE ops i j = true → ∀ s ψ, ts[j]? = some s → φs[j]? = some ψ → ∃ v, a.tmps[s]? = some v ∧ ψ v w) →
      ∀ K : Act → World → Prop, Shut (∀ v w', Rl S w w' → True → φ v w' → K (a.put (some t) v) w') → Oper.wp P oi a w K Q) : StepR P ops Q a0 S w1 ts φs i :=
  ⟨oi, t, φ, h1, h2, h3, h4, fun a w hM hI hoff hp K hK => og_plain hg (h a w hM hI hoff hp K hK)⟩
theorem stry {a0 : Act} {S : Nat → Prop} {w1 : World} {ts : List Tmp} {φs : List (Value → World → Prop)} {i : Nat} {oi : Oper} {t : Tmp} {φ : Value → World → Prop} (j : Nat) {b : Bool} {s : Tmp} (h1 : ops[i]? = some oi) (h2 : oi.dst = some t) (h3 : ts[i]? = some t) (h4 : φs[i]? = some φ) (hg : oi.guard = some (j, b)) (hj : (ops[j]?).bind (·.dst) = some s) (hpj : preE ops i j = true) (hsj : ts[j]? = some s) (hφj : φs[j]? = some (isV (.bool b)))
    (h : ∀ a w, Rl S w1 w → True → (∀ s, (ts.contains s) = false → a.tmps[s]? = a0.tmps[s]?) → (∀ j, preE ops i j = true → ∀ s ψ, ts[j]? = some s → φs[j]? = some ψ → ∃ v, a.tmps[s]? = some v ∧ ψ v w) →
      ∀ K : Act → World → Prop, Shut (∀ v w', Rl S w w' → True → φ v w' → K (a.put (some t) v) w') → Oper.wp P oi a w K Q) : StepR P ops Q a0 S w1 ts φs i :=
  ⟨oi, t, φ, h1, h2, h3, h4, fun a w hM hI hoff hp K hK => by
    obtain ⟨_, eg, rfl⟩ := hp j hpj s _ hsj hφj
    exact og_yes hg hj eg (h a w hM hI hoff hp K hK)⟩
theorem strn {a0 : Act} {S : Nat → Prop} {w1 : World} {ts : List Tmp} {φs : List (Value → World → Prop)} {i : Nat} {oi : Oper} {t : Tmp} (j : Nat) {b : Bool} {s : Tmp} {x : Value} (h1 : ops[i]? = some oi) (h2 : oi.dst = some t) (h3 : ts[i]? = some t) (h4 : φs[i]? = some (isV undef)) (hg : oi.guard = some (j, b)) (hj : (ops[j]?).bind (·.dst) = some s) (hpj : preE ops i j = true) (hsj : ts[j]? = some s) (hφj : φs[j]? = some (isV x)) (hx : x = .bool (!b) ∨ x = undef) : StepR P ops Q a0 S w1 ts φs i :=
  ⟨oi, t, _, h1, h2, h3, h4, fun a w hM hI hoff hp K hK => by
    obtain ⟨_, eg, rfl⟩ := hp j hpj s _ hsj hφj
    rw [← h2] at hK
    exact og_no hg hj eg hx (hK _ _ (Rl.refl _ _) trivial rfl)⟩
theorem str_nil {a0 : Act} {S : Nat → Prop} {w1 : World} {ts : List Tmp} {φs : List (Value → World → Prop)} : ∀ i ∈ ([] : List Nat), StepR P ops Q a0 S w1 ts φs i := fun _ h => by cases h
theorem str_cons {a0 : Act} {S : Nat → Prop} {w1 : World} {ts : List Tmp} {φs : List (Value → World → Prop)} {i : Nat} {rs : List Nat} (h : StepR P ops Q a0 S w1 ts φs i) (hs : ∀ j ∈ rs, StepR P ops Q a0 S w1 ts φs j) : ∀ j ∈ i :: rs, StepR P ops Q a0 S w1 ts φs j := fun j hj => by
  rcases List.mem_cons.1 hj with rfl | hj
  · exact h
  · exact hs j hj
/-- THE REGION: its first M operations make memory at most, in any order; the others as they stand. -/
theorem rgr {id : Nat} {a0 : Act} {S : Nat → Prop} {w : World} (hm : P.follows .mixedOrders = true) (hac : acyc ops = true) (M : Nat) (hM : decide (M ≤ ops.size) = true) (htl : tailed ops M = true) (ts : List Tmp) (φs : List (Value → World → Prop)) (hts : ts.length = M) (hn : ts.Nodup) (hl : (ts.all fun t => decide (t < a0.tmps.size)) = true)
    (hst : ∀ φ ∈ φs, StbR S φ) (hs : ∀ i ∈ List.range M, StepR P ops Q a0 S w ts φs i)
    (hend : ∀ (V : Nat → Value) w', Rl S w w' → (∀ i φ, φs[i]? = some φ → i < M → φ (V i) w') → wpOps P ops Q (List.range' M (ops.size - M)) (fillAll V 0 ts a0) w') : (Code.region id ops true).wp P Q a0 w := by
  refine rgd (R := Rl S) (Inv := fun _ _ => True) hm hac M hM htl (ts.map some) φs (by simpa using hts) (once_some hn) ?_ (fun h k => h.trans k) (Rl.of_below (below_drew (Below.refl _ _))) trivial hst (fun i hi => ?_) (fun V w' hR b _ _ hφ => ?_)
  · simpa [List.all_map] using hl
  · obtain ⟨oi, t, φ, h1, h2, h3, h4, h⟩ := hs i hi
    refine ⟨oi, some t, φ, h1, h2, by simp [h3], h4, fun b a w' _ _ _ hRw _ hoff hp K hK => h a w' hRw trivial (fun s hs' => hoff s ?_) (fun j hj s ψ hs' hψ => ?_) K hK⟩
    · cases hc : (ts.map some).contains (some s) with
      | false => rfl
      | true =>
        obtain ⟨x, hx, e⟩ := List.mem_map.1 (List.contains_iff_mem.1 hc)
        cases e
        rw [List.contains_iff_mem.2 hx] at hs'
        cases hs'
    · obtain ⟨v, hv, hψv⟩ := hp j hj (some s) ψ (by simp [hs']) hψ
      exact ⟨v, hv s rfl, hψv⟩
  · rw [fillO_some]
    exact hend V w' hR hφ
end
theorem sr_Ptr (S : Nat → Prop) (x : Int) : StbR S (isPtr (.int .u8 x)) := fun _ _ _ hm ⟨ad, h1, h2⟩ => ⟨ad, h1, hm.keep.byte _ _ h2⟩
/-- A new box. -/
def isBoxC (B : Nat) (cs : Array Value) (t : TypeId) : Value → World → Prop := fun v w => ∃ b, v = .pointer (some ⟨b, 0, none⟩) ∧ B ≤ b ∧ w.heap[b]? = some (.cells cs t (0, 0))
theorem sr_BoxC (B : Nat) (cs : Array Value) (t : TypeId) : StbR (fun _ => False) (isBoxC B cs t) := fun _ _ _ hm ⟨b, h1, h2, h3⟩ => ⟨b, h1, h2, hm.chg.blk h3 (fun h => h)⟩
end Go.Proofs.YtgacaemgmgoiaaaW.Rg
