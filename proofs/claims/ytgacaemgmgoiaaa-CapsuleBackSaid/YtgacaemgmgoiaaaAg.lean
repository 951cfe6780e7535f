import Derived.Test.YtgacaemgmgoiaaaDr
/- Walking a function with its frame held abstract: what each slot holds is a fact by itself, and what stands behind a piece of code is hidden. -/
namespace Go.Proofs.YtgacaemgmgoiaaaW.Rg
open Go.RowKit Go.Proofs.YtgacaemgmgoiaaaW.PrintWords Go.Proofs.YtgacaemgmgoiaaaW.PrintLast
set_option linter.unusedVariables false
set_option linter.unusedSimpArgs false
section
variable {P : Program} {ops : Array Oper} {Q : Exit → Act → World → Prop} {a : Act} {w : World}
theorem new_ne {a b c : Nat} (h1 : a < b) (h2 : b ≤ c) : c ≠ a := by omega
theorem ne_new {a b c : Nat} (h1 : a < b) (h2 : b ≤ c) : a ≠ c := by omega
theorem old_new {x n b : Nat} (hx : x < n) (hg : n ≤ b) (h : x = b) : False := by omega
abbrev Tr : World → Prop := fun _ => True
/-- An operation that yields a value, as the walk finds it. -/
theorem ov {oi : Oper} {v : Value} {w' : World} {K : Act → World → Prop} (h : K (a.put oi.dst v) w') (hrun : (execOp a.eval oi).run P w = .ok (.value v) w' := by first | (go_simp; done) | (go_simp; rfl)) : Oper.wp P oi a w K Q := op_val hrun h
theorem then_r {K : Act → World → Prop} (h : Q .ret a w) : Exit.then K Q .ret a w := h
theorem then_x {K : Act → World → Prop} {i : Nat} (h : Q (.exit i) a w) : Exit.then K Q (.exit i) a w := h
theorem inb_n {id : Nat} (h : Q .normal a w) : Exit.inBlock id Q .normal a w := h
theorem inb_r {id : Nat} (h : Q .ret a w) : Exit.inBlock id Q .ret a w := h
theorem inb_x {id : Nat} (h : Q .normal a w) : Exit.inBlock id Q (.exit id) a w := by
  show (if id = id then Q .normal a w else Q (.exit id) a w)
  rw [if_pos rfl]
  exact h
theorem inb_y {id i : Nat} (hne : (i == id) = false) (h : Q (.exit i) a w) : Exit.inBlock id Q (.exit i) a w := by
  show (if i = id then Q .normal a w else Q (.exit i) a w)
  rw [if_neg (by simpa using hne)]
  exact h
theorem put_same {t : Tmp} {v : Value} (h : t < a.tmps.size) : (a.put (some t) v).tmps[t]? = some v := by simp [Act.put, h]
theorem put_ne {t s : Tmp} {v : Value} (h : t ≠ s) : (a.put (some t) v).tmps[s]? = a.tmps[s]? := by simp [Act.put, Array.getElem?_setIfInBounds_ne h]
/-- A frame's size, out of the walk's sight. -/
structure Sz (a : Act) (n : Nat) : Prop where
  h : a.tmps.size = n
/-- A slot is filled. -/
theorem abs_put {t : Tmp} {v : Value} {n : Nat} {K : Act → Prop} (hs : Sz a n) (ht : decide (t < n) = true) (h : ∀ a' : Act, Sz a' n → a'.defers = a.defers → a'.tmps[t]? = some v → (∀ s, (s == t) = false → a'.tmps[s]? = a.tmps[s]?) → K a') : K (a.put (some t) v) :=
  h _ ⟨by simpa [Act.put] using hs.h⟩ rfl (put_same (by rw [hs.h]; simpa using ht)) (fun s hne => put_ne (by intro e; subst e; simp at hne))
theorem wpo_all {M : Nat} (h0 : ops.size - M = 0) (h : Q .normal a w) : wpOps P ops Q (List.range' M (ops.size - M)) a w := by
  rw [h0]
  exact h
theorem wpo_step (m n : Nat) {o : Oper} (hn : ops.size - m = n + 1) (ho : ops[m]? = some o) (h : OpG P ops o a w (wpOps P ops Q (List.range' (m + 1) (ops.size - (m + 1)))) Q) : wpOps P ops Q (List.range' m (ops.size - m)) a w := by
  rw [hn]
  refine wpo_cons ho ?_
  rw [show n = ops.size - (m + 1) by omega]
  exact h
/-- Into a function's body. -/
theorem enterA {f : FuncId} {fn : Func} {c : Code} {args : Array Value} {R : Ending → World → Prop} {n : Nat} (hf : P.funcs[f]? = some fn) (hb : fn.body = some c) (hn : args.size + (fn.ntmps - args.size) = n)
    (h : ∀ a : Act, Sz a n → a.defers = [] → (∀ (i : Nat) (v : Value), args[i]? = some v → a.tmps[i]? = some v) → c.wp P (bodyPost P fn R) a w) : Calls P f args w R :=
  calls_of_wp hf hb (h _ ⟨by simpa using hn⟩ rfl (fun i v hi => by
    show (args ++ Array.replicate (fn.ntmps - args.size) undef)[i]? = some v
    rw [Array.getElem?_append_left (Array.getElem?_eq_some_iff.1 hi).1]
    exact hi))
theorem getD_of {t : Tmp} {v : Value} (h : a.tmps[t]? = some v) : a.tmps.getD t undef = v := by simp [h]
theorem ret1 {fn : Func} {R : Ending → World → Prop} {t : Tmp} {v : Value} (hf : fn.results = #[.tmp t]) (hd : a.defers = []) (h : a.tmps[t]? = some v) (hR : R (.returned v) w) : bodyPost P fn R .ret a w :=
  bodyPost_ret (by rw [results_tmp hf, getD_of h]) hd hR
theorem ret2 {fn : Func} {R : Ending → World → Prop} {t u : Tmp} {v x : Value} (hf : fn.results = #[.tmp t, .tmp u]) (hd : a.defers = []) (h : a.tmps[t]? = some v) (k : a.tmps[u]? = some x) (hR : R (.returned (.tuple #[v, x])) w) : bodyPost P fn R .ret a w :=
  bodyPost_ret (by rw [results_tmp2 hf, getD_of h, getD_of k]) hd hR
theorem retc {fn : Func} {R : Ending → World → Prop} {p u : Tmp} {ty : TypeId} (hf : fn.results = #[.cell p ty, .tmp u]) (hd : a.defers = []) (g : Nat) (t : TypeId) (cs : Array Value) (fr : Nat × Nat) (d : TypeDesc) {x : Value}
    (hp : a.tmps[p]? = some (.pointer (some ⟨g, 0, none⟩))) (hx : a.tmps[u]? = some x) (hg : w.heap[g]? = some (.cells cs t fr))
    (hu : P.underlying ty = some d) (hdd : (match d with | .struct _ | .array _ _ => true | _ => false) = true) (hi : (P.info? ty).map (·.size) = some cs.size) (hR : R (.returned (.tuple #[.agg cs, x])) w) : bodyPost P fn R .ret a w := by
  refine bodyPost_ret (res_cell hf a.tmps w g t cs fr d (getD_of hp) hg hu hdd hi) hd ?_
  rw [getD_of hx]
  exact hR
theorem retc1 {fn : Func} {R : Ending → World → Prop} {p : Tmp} {ty : TypeId} (hf : fn.results = #[.cell p ty]) (hd : a.defers = []) (g : Nat) (t : TypeId) (cs : Array Value) (fr : Nat × Nat) (d : TypeDesc)
    (hp : a.tmps[p]? = some (.pointer (some ⟨g, 0, none⟩))) (hg : w.heap[g]? = some (.cells cs t fr))
    (hu : P.underlying ty = some d) (hdd : (match d with | .struct _ | .array _ _ => true | _ => false) = true) (hi : (P.info? ty).map (·.size) = some cs.size) (hR : R (.returned (.agg cs)) w) : bodyPost P fn R .ret a w := by
  refine bodyPost_ret (v := .agg cs) ?_ hd hR
  have := results_cell_row (P := P) hf a.tmps w g t cs fr d (getD_of hp) hg hu hdd hi
  exact this
/-- What a region leaves: its slots filled, the others as they were. -/
theorem fill_facts {a0 : Act} {V : Nat → Value} {ts : List Tmp} (hn : ts.Nodup) (hl : ∀ t ∈ ts, t < a0.tmps.size) :
    (∀ s, ts.contains s = false → (fillAll V 0 ts a0).tmps[s]? = a0.tmps[s]?) ∧ ∀ i t, ts[i]? = some t → (fillAll V 0 ts a0).tmps[t]? = some (V i) := by
  refine ⟨fun s hs => ?_, fun i t hi => ?_⟩
  · rw [fillAll_get V ts 0 a0 s hn hl]
    cases hf : ts.findIdx? (· == s) with
    | none => rfl
    | some i =>
      rw [List.findIdx?_eq_some_iff_getElem] at hf
      obtain ⟨hi, he, _⟩ := hf
      have he' : ts[i] = s := by simpa using he
      have : ts.contains s = true := List.contains_iff_mem.2 (he' ▸ List.getElem_mem hi)
      rw [hs] at this
      cases this
  · rw [fillAll_get V ts 0 a0 t hn hl]
    obtain ⟨hil, hie⟩ := List.getElem?_eq_some_iff.1 hi
    cases hf : ts.findIdx? (· == t) with
    | none =>
      rw [List.findIdx?_eq_none_iff] at hf
      exact absurd (hf t (hie ▸ List.getElem_mem hil)) (by simp)
    | some j =>
      rw [List.findIdx?_eq_some_iff_getElem] at hf
      obtain ⟨hj, he, _⟩ := hf
      have he' : ts[j] = t := by simpa using he
      have : j = i := (List.getElem_inj hn).1 (he'.trans hie.symm)
      subst this
      simp
/-- A region in the list's order, its first M operations; I tells the changing box. -/
theorem raI {id : Nat} {a0 : Act} {S : Nat → Prop} {w : World} (n M : Nat) (hsz : Sz a0 n) (ts : List Tmp) (φs : List (Value → World → Prop)) (I : List (World → Prop)) (hts : ts.length = M) (hM : decide (M ≤ ops.size) = true) (hn : ts.Nodup) (hl : (ts.all fun t => decide (t < n)) = true)
    (hI : ∀ J, I[0]? = some J → J w) (hst : ∀ φ ∈ φs, StbR S φ) (hs : ∀ i ∈ List.range M, StepI P ops Q a0 S w ts φs I i)
    (hend : ∀ (a' : Act) w', Sz a' n → a'.defers = a0.defers → (∀ s, ts.contains s = false → a'.tmps[s]? = a0.tmps[s]?) → (∀ (i : Nat) (t : Tmp) (φ : Value → World → Prop), ts[i]? = some t → φs[i]? = some φ → ∃ v, a'.tmps[t]? = some v ∧ φ v w') → Rl S w w' → (∀ J, I[M]? = some J → J w') → wpOps P ops Q (List.range' M (ops.size - M)) a' w') : (Code.region id ops false).wp P Q a0 w := by
  refine rgi M ts φs I hts (of_decide_eq_true hM) hn (by rw [hsz.h]; exact hl) hI hst hs (fun V w' hR hJ hφ => ?_)
  have hl' : ∀ t ∈ ts, t < a0.tmps.size := fun t ht => by rw [hsz.h]; simpa using List.all_eq_true.1 hl t ht
  obtain ⟨h1, h2⟩ := fill_facts (V := V) hn hl'
  obtain ⟨h3, h4⟩ := fillAll_size V ts 0 a0
  exact hend _ w' ⟨h3.trans hsz.h⟩ h4 h1 (fun i t φ hi hφi => ⟨V i, h2 i t hi, hφ i φ hφi (by have := (List.getElem?_eq_some_iff.1 hi).1; omega)⟩) hR hJ
/-- A region that draws; its first M operations make memory at most, the others come one behind the other. -/
theorem raR {id : Nat} {a0 : Act} {S : Nat → Prop} {w : World} (n M : Nat) (hsz : Sz a0 n) (hm : P.follows .mixedOrders = true) (hac : acyc ops = true) (hM : decide (M ≤ ops.size) = true) (htl : tailed ops M = true) (ts : List Tmp) (φs : List (Value → World → Prop)) (hts : ts.length = M) (hn : ts.Nodup) (hl : (ts.all fun t => decide (t < n)) = true)
    (hst : ∀ φ ∈ φs, StbR S φ) (hs : ∀ i ∈ List.range M, StepR P ops Q a0 S w ts φs i)
    (hend : ∀ (a' : Act) w', Sz a' n → a'.defers = a0.defers → (∀ s, ts.contains s = false → a'.tmps[s]? = a0.tmps[s]?) → (∀ (i : Nat) (t : Tmp) (φ : Value → World → Prop), ts[i]? = some t → φs[i]? = some φ → ∃ v, a'.tmps[t]? = some v ∧ φ v w') → Rl S w w' → wpOps P ops Q (List.range' M (ops.size - M)) a' w') : (Code.region id ops true).wp P Q a0 w := by
  refine rgr hm hac M hM htl ts φs hts hn (by rw [hsz.h]; exact hl) hst hs (fun V w' hR hφ => ?_)
  have hl' : ∀ t ∈ ts, t < a0.tmps.size := fun t ht => by rw [hsz.h]; simpa using List.all_eq_true.1 hl t ht
  obtain ⟨h1, h2⟩ := fill_facts (V := V) hn hl'
  obtain ⟨h3, h4⟩ := fillAll_size V ts 0 a0
  exact hend _ w' ⟨h3.trans hsz.h⟩ h4 h1 (fun i t φ hi hφi => ⟨V i, h2 i t hi, hφ i φ hφi (by have := (List.getElem?_eq_some_iff.1 hi).1; omega)⟩) hR
end
/-- A pair whose first part is told by ψ. -/
def isPair (ψ : Value → World → Prop) (y : Value) : Value → World → Prop := fun v w => ∃ u, v = .tuple #[u, y] ∧ ψ u w
theorem sr_Pair {S : Nat → Prop} {ψ : Value → World → Prop} (h : StbR S ψ) (y : Value) : StbR S (isPair ψ y) := fun _ _ _ hm ⟨u, h1, h2⟩ => ⟨u, h1, h _ _ _ hm h2⟩
theorem sr_BoxS {S : Nat → Prop} (B : Nat) (cs : Array Value) (t : TypeId) (hS : ∀ b, B ≤ b → ¬ S b) : StbR S (isBoxC B cs t) := fun _ _ _ hm ⟨b, h1, h2, h3⟩ => ⟨b, h1, h2, hm.chg.blk h3 (hS b h2)⟩
/-! ### bytes that change: what lies behind a block -/
theorem Row.chg {B : Nat} {S : Nat → Prop} {w w' : World} {v : Value} {r : List Int} (h : Row B w v r) (hc : Chg S w w') (hS : ∀ k, B ≤ k → ¬ S k) : Row B w' v r := by
  obtain ⟨A, c, h1, h2, ⟨h3, h4, h5⟩, h6⟩ := h
  refine ⟨A, c, h1, h2, ⟨h3, h4, fun hn => ?_⟩, h6⟩
  obtain ⟨ad, he, hk⟩ := h5 hn
  refine ⟨ad, he, fun j p hj => ?_⟩
  obtain ⟨cs, hl, hK, hcell⟩ := hk j p hj
  refine ⟨cs, hl, hK, fun i u hu => ?_⟩
  have hbk : ∀ n, (ad.add n).block = ad.block := fun n => by unfold Addr.add; first | rfl | (split <;> rfl)
  have h7 := hcell i u hu
  have h8 : ∃ o, w.heap[ad.block]? = some o := by
    cases ho : w.heap[ad.block]? with
    | none =>
      unfold World.cell? at h7
      rw [hbk, ho] at h7
      cases h7
    | some o => exact ⟨o, rfl⟩
  obtain ⟨o, ho⟩ := h8
  unfold World.cell? at h7 ⊢
  rw [hbk] at h7 ⊢
  rw [hc.blk ho (hS _ (h6 ad he)), ← ho]
  exact h7
/-- n bytes of one's own, in block g (where there are any). -/
def OwnN (n g : Nat) (w : World) (v : Value) : Prop := ∃ A c, v = .slice A n c ∧ n ≤ 9223372036854775807 ∧ (0 < n → ∃ cur, A = some ⟨g, 0, none⟩ ∧ w.heap[g]? = some (.cells cur 5 (0, 0)) ∧ ∀ j, j < n → ∃ x, cur[j]? = some (.int .u8 x))
theorem own_of {B : Nat} {w : World} {v : Value} {l : List Int} (h : (Kd.int .u8).R 5 w B (fun _ => True) v l) : ∃ g, OwnN l.length g w v ∧ (0 < l.length → B ≤ g ∧ g < w.heap.size) := by
  obtain ⟨inner, ho⟩ := Kd.R_own h
  obtain ⟨A, c, hv, hc, hC⟩ := Kd.R_reads h
  obtain ⟨_, hm, hr⟩ := hC
  rcases ho.2 with ⟨e, hz⟩ | ⟨g, cap, cur, e, hg, hh, r1, r2, r3, r4⟩
  · exact ⟨0, ⟨A, c, hv, hm, fun hn => by omega⟩, fun hn => by omega⟩
  · refine ⟨g, ⟨A, c, hv, hm, fun hn => ?_⟩, fun _ => ⟨hg, blk_lt hh⟩⟩
    rw [e] at hv
    injection hv with hA _ hcc
    subst hA
    refine ⟨cur, rfl, hh, fun j hj => ?_⟩
    obtain ⟨ad, ha, hk⟩ := hr hn
    cases ha
    obtain ⟨cs, hl, hK, hcell⟩ := hk j l[j] (List.getElem?_eq_getElem hj)
    have hK' : cs = [.int .u8 l[j]] := hK
    subst hK'
    have := hcell 0 _ rfl
    rw [show (Kd.int .u8).sz = 1 from rfl, Nat.mul_one, Nat.add_zero, add_plain, blk_cell hh] at this
    exact ⟨_, by simpa using this⟩
theorem OwnN.chg {n g : Nat} {S : Nat → Prop} {w w' : World} {v : Value} (h : OwnN n g w v) (hc : Chg S w w') (hS : 0 < n → ¬ S g) : OwnN n g w' v := by
  obtain ⟨A, c, h1, h2, h3⟩ := h
  refine ⟨A, c, h1, h2, fun hn => ?_⟩
  obtain ⟨cur, k1, k2, k3⟩ := h3 hn
  exact ⟨cur, k1, hc.blk k2 (hS hn), k3⟩
theorem OwnN.lt {n g : Nat} {w : World} {v : Value} (h : OwnN n g w v) (hn : 0 < n) : g < w.heap.size := by
  obtain ⟨_, _, _, _, h3⟩ := h
  obtain ⟨_, _, h4, _⟩ := h3 hn
  exact blk_lt h4
def isOwnR (B : Nat) (l : List Int) : Value → World → Prop := fun v w => ∃ g, OwnN l.length g w v ∧ (0 < l.length → B ≤ g ∧ g < w.heap.size) ∧ Row B w v l
theorem sr_OwnR (B : Nat) (l : List Int) : StbR (fun _ => False) (isOwnR B l) := fun _ _ _ hm ⟨g, h1, h2, h3⟩ => ⟨g, h1.chg hm.chg (fun _ h => h), fun h => ⟨(h2 h).1, Nat.lt_of_lt_of_le (h2 h).2 hm.keep.size⟩, h3.keep hm.keep⟩
theorem isOwnR.lower {B B' : Nat} {l : List Int} {v : Value} {w : World} (h : isOwnR B l v w) (hB : B' ≤ B) : isOwnR B' l v w := by
  obtain ⟨g, h1, h2, h3⟩ := h
  exact ⟨g, h1, fun hn => ⟨Nat.le_trans hB (h2 hn).1, (h2 hn).2⟩, h3.lower hB⟩
theorem isOwnR.of {B : Nat} {w : World} {v : Value} {l : List Int} (h : (Kd.int .u8).R 5 w B (fun _ => True) v l) : isOwnR B l v w := by
  obtain ⟨g, h1, h2⟩ := own_of h
  exact ⟨g, h1, h2, Row.of_R h⟩
/-- The number that a slot holds. -/
def slotN (a : Act) (t : Tmp) : Nat := match a.tmps[t]? with
  | some (.int _ n) => n.toNat
  | _ => 0
theorem slotN_of {a : Act} {t : Tmp} {k : IntKind} {n : Int} (h : a.tmps[t]? = some (.int k n)) : slotN a t = n.toNat := by
  unfold slotN
  rw [h]
section
variable {P : Program} {o : Oper} {a : Act} {w : World} {K : Act → World → Prop} {Q : Exit → Act → World → Prop}
theorem own_at {g n c i : Nat} (W : World) (t e : TypeId) (ht : P.underlying t = some (.slice e)) (hi : ∃ x, P.info? e = some x ∧ x.size = 1) (hlt : i < n) : (Instr.indexAt t (.slice (some ⟨g, 0, none⟩) n c) (.int .i64 (i : Int))).run P W = .ok (.pointer (some ⟨g, i, none⟩)) W := by
  obtain ⟨x, hx, hsz⟩ := hi
  have hel : P.elem t = e := by simp [Program.elem, ht]
  have hu : P.underlying t = some (.slice (P.elem t)) := by rw [hel]; exact ht
  rw [run_indexAt_slice (h := hu)]
  simp [hlt, hel, hx, hsz, sizeOf, typeInfo, Result.andThen, Addr.add]
  exact fun h => h.symm
/-- A store of one cell, of any kind: what is known of the block alone. -/
theorem op_store_any (ty : TypeId) (x y : Operand) (ho : o.op = .store ty x y) (g i : Nat) (v : Value) (hx : a.eval x = .pointer (some ⟨g, i, none⟩)) (hy : a.eval y = v)
    (t : TypeId) (old : Array Value) (hg : w.heap[g]? = some (.cells old t (0, 0))) (hi : (P.info? ty).map (·.size) = some 1) (hlt : i < old.size) (h1 : v.oneCell' = true)
    (h : ∀ w', w'.heap[g]? = some (.cells (old.setIfInBounds i v) t (0, 0)) → Chg (· = g) w w' → K (a.put o.dst undef) w') : o.wp P a w K Q := by
  have hs : (w.setCell ⟨g, i, none⟩ v).heap.size = w.heap.size := by unfold World.setCell; simp
  have k2 : Chg (· = g) w (w.setCell ⟨g, i, none⟩ v) := ⟨rfl, rfl, rfl, by omega, fun k _ hk => Below.heap_setCell w _ v k hk⟩
  have hc : v.cells = #[v] := by
    cases v <;> first | rfl | (simp [Value.oneCell'] at h1)
  have hcell : w.cell? ⟨g, i, none⟩ = some old[i] := by rw [blk_cell hg]; simp [hlt]
  have hst : (store ⟨g, i, none⟩ v).run P w = .ok () (w.setCell ⟨g, i, none⟩ v) := by
    rw [run_store P w _ v _ h1]
    simp [hcell, blk_frozen hg]
  unfold Oper.wp execOp
  cases hq : P.info? ty with
  | none => simp [hq] at hi
  | some info =>
    have hs : info.size = 1 := by simpa [hq] using hi
    simp only [ho, hx, hy, Instr.storeAt, Instr.sureAddr, Sem.run_bind, Sem.run_pure, Result.andThen_ok]
    simp [storeVar, sizeOf, typeInfo, hq, hc, hs, storeCells, Addr.add, hst]
    exact h _ (blk_set hg i v) k2
end
theorem own_set {n g i : Nat} {w' : World} {c : Nat} {cur : Array Value} {y : Int} (hm : n ≤ 9223372036854775807) (hcur : ∀ j, j < n → ∃ x, cur[j]? = some (.int .u8 x)) (hg : w'.heap[g]? = some (.cells (cur.setIfInBounds i (.int .u8 y)) 5 (0, 0))) : OwnN n g w' (.slice (some ⟨g, 0, none⟩) n c) :=
  ⟨_, _, rfl, hm, fun _ => ⟨_, rfl, hg, fun j hj => by
    obtain ⟨x, hx⟩ := hcur j hj
    by_cases e : i = j
    · subst e
      exact ⟨y, by rw [Array.getElem?_setIfInBounds_self_of_lt (Array.getElem?_eq_some_iff.1 hx).1]⟩
    · exact ⟨x, by rw [Array.getElem?_setIfInBounds_ne e]; exact hx⟩⟩⟩
def isByte : Value → World → Prop := fun v _ => ∃ y, v = .int .u8 y
theorem sr_Byte (S : Nat → Prop) : StbR S isByte := fun _ _ _ _ h => h
end Go.Proofs.YtgacaemgmgoiaaaW.Rg
