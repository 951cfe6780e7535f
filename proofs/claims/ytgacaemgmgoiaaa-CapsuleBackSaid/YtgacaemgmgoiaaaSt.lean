import Derived.Test.YtgacaemgmgoiaaaRg
import Derived.Laws.Tables
import Derived.Laws.Rows
import Derived.Laws.ResultCell
/- Walking a list of operations one by one, with boxes that change: what stays is told by 'Chg' (all but some blocks) and 'Keep8' (every byte). -/
namespace Go.Proofs.YtgacaemgmgoiaaaW.Rg
open Go.RowKit Go.Proofs.YtgacaemgmgoiaaaW.PrintWords Go.Proofs.YtgacaemgmgoiaaaW.PrintLast
set_option linter.unusedVariables false
set_option linter.unusedSimpArgs false
/-- Every byte reads as it did, and every block keeps its shape. -/
structure Keep8 (w w' : World) : Prop where
  size : w.heap.size ≤ w'.heap.size
  byte : ∀ a x, w.cell? a = some (.int .u8 x) → w'.cell? a = some (.int .u8 x)
theorem Keep8.refl (w : World) : Keep8 w w := ⟨Nat.le_refl _, fun _ _ h => h⟩
theorem Keep8.trans {a b c : World} (h : Keep8 a b) (k : Keep8 b c) : Keep8 a c := ⟨Nat.le_trans h.size k.size, fun x v hx => k.byte x v (h.byte x v hx)⟩
theorem Keep8.of_mono {w w' : World} (h : Mono w w') : Keep8 w w' := ⟨h.size, fun a _ hx => h.cell a _ hx⟩
theorem Row.keep {B : Nat} {w w' : World} {v : Value} {r : List Int} (h : Row B w v r) (k : Keep8 w w') : Row B w' v r := by
  obtain ⟨A, c, h1, h2, ⟨h3, h4, h5⟩, h6⟩ := h
  refine ⟨A, c, h1, h2, ⟨h3, h4, fun hn => ?_⟩, h6⟩
  obtain ⟨ad, he, hc⟩ := h5 hn
  refine ⟨ad, he, fun j p hj => ?_⟩
  obtain ⟨cs, hl, hK, hcell⟩ := hc j p hj
  refine ⟨cs, hl, hK, fun i u hu => ?_⟩
  have hK' : cs = [.int .u8 p] := hK
  subst hK'
  have hu' : u = .int .u8 p := by
    have := List.mem_of_getElem? hu
    simpa using this
  subst hu'
  exact k.byte _ _ (hcell i _ hu)
/-- All blocks but these are as they were; what is new lies behind. -/
structure Chg (S : Nat → Prop) (w w' : World) : Prop where
  os : w'.os = w.os
  tape : w'.tape = w.tape
  output : w'.output = w.output
  size : w.heap.size ≤ w'.heap.size
  block : ∀ k, k < w.heap.size → ¬ S k → w'.heap[k]? = w.heap[k]?
theorem Chg.refl (S : Nat → Prop) (w : World) : Chg S w w := ⟨rfl, rfl, rfl, Nat.le_refl _, fun _ _ _ => rfl⟩
theorem Chg.trans {S T : Nat → Prop} {a b c : World} (h : Chg S a b) (k : Chg T b c) (hST : ∀ x, x < a.heap.size → T x → S x) : Chg S a c :=
  ⟨k.os.trans h.os, k.tape.trans h.tape, k.output.trans h.output, Nat.le_trans h.size k.size, fun x hx hs => (k.block x (Nat.lt_of_lt_of_le hx h.size) (fun t => hs (hST x hx t))).trans (h.block x hx hs)⟩
theorem Chg.of_below {S : Nat → Prop} {w w' : World} (h : Below w.heap.size w w') : Chg S w w' := ⟨h.os, h.tape, h.output, h.size, fun k hk _ => h.block k hk⟩
theorem Chg.below {S : Nat → Prop} {w w' : World} (h : Chg S w w') (hS : ∀ k, k < w.heap.size → ¬ S k) : Below w.heap.size w w' := ⟨h.os, h.tape, h.output, h.size, fun k hk => h.block k hk (hS k hk)⟩
theorem Chg.blk {S : Nat → Prop} {w w' : World} (h : Chg S w w') {g : Nat} {o : Obj} (hg : w.heap[g]? = some o) (hS : ¬ S g) : w'.heap[g]? = some o := (h.block g (blk_lt hg) hS).trans hg
theorem keep8_alloc (w : World) (o : Obj) : Keep8 w (w.alloc o) := .of_mono (Mono.alloc w o)
theorem chg_alloc {S : Nat → Prop} (w : World) (o : Obj) : Chg S w (w.alloc o) := .of_below (below_alloc (Below.refl _ _) o)
section
variable {P : Program} {ops : Array Oper} {Q : Exit → Act → World → Prop} {rest : List Oper} {o : Oper} {a : Act} {w : World} {K : Act → World → Prop}
theorem sq (h : OpG P ops o a w (wpList P ops Q rest) Q) : wpList P ops Q (o :: rest) a w := by
  unfold wpList
  exact opg_to h
theorem setRow_chg (w : World) (g : Nat) {t : TypeId} {old : Array Value} (cs : Array Value) (hg : w.heap[g]? = some (.cells old t (0, 0))) (hb : ∀ x ∈ old, ∀ n, x ≠ .int .u8 n) : (w.setRow g cs).heap[g]? = some (.cells cs t (0, 0)) ∧ Chg (· = g) w (w.setRow g cs) ∧ Keep8 w (w.setRow g cs) := by
  have hs : (w.setRow g cs).heap.size = w.heap.size := by unfold World.setRow; simp
  refine ⟨setRow_heap w g old cs t (0, 0) hg, ⟨rfl, rfl, rfl, by omega, fun k _ hk => setRow_other w g k cs hk⟩, by omega, fun ad x hx => ?_⟩
  by_cases e : ad.block = g
  · exfalso
    unfold World.cell? at hx
    rw [e, hg] at hx
    simp only at hx
    split at hx
    · cases hx
    · exact hb _ (Array.mem_of_getElem? hx) _ rfl
  · unfold World.cell? at hx ⊢
    rw [setRow_other w g _ cs e]; exact hx
/-- A store of a whole struct into its box. -/
theorem op_store_row (ty : TypeId) (x y : Operand) (ho : o.op = .store ty x y) (g : Nat) (cells : Array Value) (hx : a.eval x = .pointer (some ⟨g, 0, none⟩)) (hy : a.eval y = .agg cells)
    (t : TypeId) (old : Array Value) (hg : w.heap[g]? = some (.cells old t (0, 0))) (hi : (P.info? ty).map (·.size) = some cells.size)
    (hold : old.size = cells.size) (h1 : cells.all (·.oneCell') = true) (hb : ∀ x ∈ old, ∀ n, x ≠ .int .u8 n)
    (h : ∀ w', w'.heap[g]? = some (.cells cells t (0, 0)) → Chg (· = g) w w' → Keep8 w w' → K (a.put o.dst undef) w') : o.wp P a w K Q := by
  obtain ⟨k1, k2, k3⟩ := setRow_chg w g cells hg hb
  exact wp_store_row ty x y ho g cells hx hy t old hg hi hold h1 (h _ k1 k2 k3)
theorem setCell_chg (w : World) (g i : Nat) {t : TypeId} {old : Array Value} (v : Value) (hg : w.heap[g]? = some (.cells old t (0, 0))) (hb : ∀ x ∈ old, ∀ n, x ≠ .int .u8 n) : (w.setCell ⟨g, i, none⟩ v).heap[g]? = some (.cells (old.setIfInBounds i v) t (0, 0)) ∧ Chg (· = g) w (w.setCell ⟨g, i, none⟩ v) ∧ Keep8 w (w.setCell ⟨g, i, none⟩ v) := by
  have hs : (w.setCell ⟨g, i, none⟩ v).heap.size = w.heap.size := by unfold World.setCell; simp
  refine ⟨blk_set hg i v, ⟨rfl, rfl, rfl, by omega, fun k _ hk => Below.heap_setCell w _ v k hk⟩, by omega, fun ad x hx => ?_⟩
  by_cases e : ad.block = g
  · exfalso
    unfold World.cell? at hx
    rw [e, hg] at hx
    simp only at hx
    split at hx
    · cases hx
    · exact hb _ (Array.mem_of_getElem? hx) _ rfl
  · unfold World.cell? at hx ⊢
    rw [Below.heap_setCell w _ v _ e]; exact hx
/-- A store of one cell into a box. -/
theorem op_store_cell (ty : TypeId) (x y : Operand) (ho : o.op = .store ty x y) (g i : Nat) (v : Value) (hx : a.eval x = .pointer (some ⟨g, i, none⟩)) (hy : a.eval y = v)
    (t : TypeId) (old : Array Value) (hg : w.heap[g]? = some (.cells old t (0, 0))) (hi : (P.info? ty).map (·.size) = some 1) (hlt : i < old.size) (h1 : v.oneCell' = true) (hb : ∀ x ∈ old, ∀ n, x ≠ .int .u8 n)
    (h : ∀ w', w'.heap[g]? = some (.cells (old.setIfInBounds i v) t (0, 0)) → Chg (· = g) w w' → Keep8 w w' → K (a.put o.dst undef) w') : o.wp P a w K Q := by
  obtain ⟨k1, k2, k3⟩ := setCell_chg w g i v hg hb
  have hc : v.cells = #[v] := by
    cases v <;> first | rfl | (simp [Value.oneCell'] at h1)
  have hcell : w.cell? ⟨g, i, none⟩ = some old[i] := by rw [blk_cell hg]; simp [hlt]
  have hst : (store ⟨g, i, none⟩ v).run P w = .ok () (w.setCell ⟨g, i, none⟩ v) := by
    rw [run_store P w _ v _ h1]
    simp [hcell, blk_frozen hg]
  unfold Oper.wp execOp
  cases hq : P.info? ty with
  | none => simp [hq] at hi
  | some info =>
    have hs : info.size = 1 := by simpa [hq] using hi
    simp only [ho, hx, hy, Instr.storeAt, Instr.sureAddr, Sem.run_bind, Sem.run_pure, Result.andThen_ok]
    simp [storeVar, sizeOf, typeInfo, hq, hc, hs, storeCells, Addr.add, hst]
    exact h _ k1 k2 k3
/-- An assignment, a move: of any value. -/
theorem op_assign {x : Operand} {v : Value} (ho : o.op = .assign x) (hv : a.eval x = v) (h : K (a.put o.dst v) w) : o.wp P a w K Q := by
  subst hv
  unfold Oper.wp execOp
  simp only [ho, Sem.run_bind, Sem.run_pure, Result.andThen_ok]
  exact h
theorem op_move {x : Operand} {v : Value} (ho : o.op = .move x) (hv : a.eval x = v) (h : K (a.put o.dst v) w) : o.wp P a w K Q := by
  subst hv
  unfold Oper.wp execOp
  simp only [ho, Sem.run_bind, Sem.run_pure, Result.andThen_ok]
  exact h
/-- A new variable. -/
theorem op_alloc (t : TypeId) (z : Array Value) (ho : o.op = .alloc t) (hi : (P.info? t).map (·.zero) = some (some (.agg z))) (h : K (a.put o.dst (.pointer (some ⟨w.heap.size, 0, none⟩))) (w.alloc (.cells z t))) : o.wp P a w K Q := by
  unfold Oper.wp execOp
  cases hq : P.info? t with
  | none => simp [hq] at hi
  | some i =>
    have hz : i.zero = some (.agg z) := by simpa [hq] using hi
    simp [ho, Instr.alloc, zeroValue, typeInfo, hq, hz, newVar, newRow, Value.cells, newObj]
    exact h
/-- What a function yields whose first result is a variable. -/
theorem res_cell {fn : Func} {p u : Tmp} {ty : TypeId} (h : fn.results = #[.cell p ty, .tmp u]) (tmps : Array Value) (w : World) (g : Nat) (t : TypeId) (cs : Array Value) (fr : Nat × Nat) (d : TypeDesc)
    (hp : tmps.getD p undef = .pointer (some ⟨g, 0, none⟩)) (hg : w.heap[g]? = some (.cells cs t fr))
    (hu : P.underlying ty = some d) (hd : (match d with | .struct _ | .array _ _ => true | _ => false) = true) (hi : (P.info? ty).map (·.size) = some cs.size) :
    (results fn tmps).run P w = .ok (.tuple #[.agg cs, tmps.getD u undef]) w := by
  rw [results_cell_tmp h, hp]
  simp [asAddr, Result.andThen, run_loadVar_row w g t ty cs fr d hg hu hd hi]
/-- A call through a variable that holds a function. -/
theorem op_callv {f : FuncId} {fn : Func} {x : Operand} {as : Array Operand} {ts : Array TypeId} (hf : P.funcs[f]? = some fn) (hname : (fn.name == "runtime.NumGoroutine") = false) (hb : fn.body.isSome = true) (hx : a.eval x = a.eval (.func f)) (args : Array Value)
    (hop : o.op = .call { callee := .value x, args := as, argTypes := ts }) (hargs : as.map a.eval = args) {R : Ending → World → Prop} (hc : Calls P f args w R) (h : ∀ e w', R e w' → ∃ v, e = .returned v ∧ K (a.put o.dst v) w') : Oper.wp P o a w K Q := by
  have he := enters_ hf hname hb args w
  have hrun : (execOp a.eval o).run P w = .ok (.enter f args) w := by
    unfold execOp
    simp only [hop, resolve, hx]
    simp [Deferred.ofValue, invoke, Act.eval, hargs, he]
  unfold Oper.wp
  rw [hrun, Oper.upon_enter]
  refine hc.mono ?_
  rintro e w' hR
  obtain ⟨v, rfl, hK⟩ := h e w' hR
  exact hK
end
/-! ### a region in the list's own order, with boxes that change: its first operations -/
/-- What stays in such a region: every byte, and all blocks but some. -/
structure Rl (S : Nat → Prop) (w w' : World) : Prop where
  keep : Keep8 w w'
  chg : Chg S w w'
theorem Rl.refl (S : Nat → Prop) (w : World) : Rl S w w := ⟨Keep8.refl w, Chg.refl S w⟩
theorem Rl.trans {S : Nat → Prop} {a b c : World} (h : Rl S a b) (k : Rl S b c) : Rl S a c := ⟨h.keep.trans k.keep, h.chg.trans k.chg (fun _ _ h => h)⟩
theorem Rl.of_below {S : Nat → Prop} {w w' : World} (h : Below w.heap.size w w') : Rl S w w' := ⟨Keep8.of_mono (Mono.of_below h), Chg.of_below h⟩
theorem Rl.alloc (S : Nat → Prop) (w : World) (o : Obj) : Rl S w (w.alloc o) := .of_below (below_alloc (Below.refl _ _) o)
/-- Rows of bytes, their own row in none of these blocks. -/
def isRowsS (S : Nat → Prop) (l : List (List Int)) : Value → World → Prop := fun v w => ∃ A c, v = .slice A l.length c ∧ l.length ≤ c ∧ (Kd.slice 5 (Kd.int .u8)).C w A l.length l ∧ ∀ ad, A = some ad → ¬ S ad.block ∧ ad.block < w.heap.size
theorem isRowsS.rows {S : Nat → Prop} {l : List (List Int)} {v : Value} {w : World} (h : isRowsS S l v w) : RowsB w v l := by
  obtain ⟨A, c, h1, h2, h3, _⟩ := h
  exact ⟨A, c, h1, h2, h3⟩
theorem isRowsS.of {S : Nat → Prop} {l : List (List Int)} {w : World} {g n c : Nat} (h : RowsB w (.slice (some ⟨g, 0, none⟩) n c) l) (hS : ¬ S g) (hg : g < w.heap.size) : isRowsS S l (.slice (some ⟨g, 0, none⟩) n c) w := by
  obtain ⟨A, c', h1, h2, h3⟩ := h
  cases h1
  exact ⟨_, _, rfl, h2, h3, fun ad he => by cases he; exact ⟨hS, hg⟩⟩
def StbR (S : Nat → Prop) (φ : Value → World → Prop) : Prop := ∀ v w w', Rl S w w' → φ v w → φ v w'
theorem sr_V (S : Nat → Prop) (x : Value) : StbR S (isV x) := fun _ _ _ _ h => h
theorem sr_Row (S : Nat → Prop) (B : Nat) (r : List Int) : StbR S (isRow B r) := fun _ _ _ hm h => Row.keep h hm.keep
theorem sr_Tup (S : Nat → Prop) (B : Nat) (r : List Int) (n : Int) : StbR S (isTup B r n) := fun _ _ _ hm ⟨u, h1, h2⟩ => ⟨u, h1, h2.keep hm.keep⟩
theorem C_keep8 {w w' : World} (k : Keep8 w w') {A : Option Addr} {n : Nat} {r : List Int} (h : (Kd.int .u8).C w A n r) : (Kd.int .u8).C w' A n r := by
  obtain ⟨h3, h4, h5⟩ := h
  refine ⟨h3, h4, fun hn => ?_⟩
  obtain ⟨ad, he, hc⟩ := h5 hn
  refine ⟨ad, he, fun j p hj => ?_⟩
  obtain ⟨cs, hl, hK, hcell⟩ := hc j p hj
  refine ⟨cs, hl, hK, fun i u hu => ?_⟩
  have hK' : cs = [.int .u8 p] := hK
  subst hK'
  have hu' : u = .int .u8 p := by
    have := List.mem_of_getElem? hu
    simpa using this
  subst hu'
  exact k.byte _ _ (hcell i _ hu)
theorem sr_Rows (S : Nat → Prop) (l : List (List Int)) : StbR S (isRowsS S l) := fun v w w' hm h => by
  obtain ⟨A, c, h1, h2, ⟨h3, h4, h5⟩, h6⟩ := h
  refine ⟨A, c, h1, h2, ⟨h3, h4, fun hn => ?_⟩, fun ad he => ⟨(h6 ad he).1, Nat.lt_of_lt_of_le (h6 ad he).2 hm.chg.size⟩⟩
  obtain ⟨ad, he, hc⟩ := h5 hn
  refine ⟨ad, he, fun j p hj => ?_⟩
  obtain ⟨cs, hl, hK, hcell⟩ := hc j p hj
  obtain ⟨A', c', k1, k2, k3⟩ := hK
  refine ⟨cs, hl, ⟨A', c', k1, k2, C_keep8 hm.keep k3⟩, fun i u hu => ?_⟩
  have := hcell i u hu
  have hbk : ∀ n, (ad.add n).block = ad.block := fun n => by unfold Addr.add; first | rfl | (split <;> rfl)
  unfold World.cell? at this ⊢
  rw [hbk] at this ⊢
  rw [hm.chg.block _ (h6 ad he).2 (h6 ad he).1]
  exact this
theorem sr_nil (S : Nat → Prop) : ∀ φ ∈ ([] : List (Value → World → Prop)), StbR S φ := fun _ h => by cases h
theorem sr_cons {S : Nat → Prop} {φ : Value → World → Prop} {l : List (Value → World → Prop)} (h : StbR S φ) (hl : ∀ ψ ∈ l, StbR S ψ) : ∀ ψ ∈ φ :: l, StbR S ψ := fun ψ hψ => by
  rcases List.mem_cons.1 hψ with rfl | h2
  · exact h
  · exact hl ψ h2
section
variable {P : Program} {ops : Array Oper} {Q : Exit → Act → World → Prop}
/-- One operation of such a region: I tells the boxes, ahead of it and behind it. -/
def StepI (P : Program) (ops : Array Oper) (Q : Exit → Act → World → Prop) (a0 : Act) (S : Nat → Prop) (w1 : World) (ts : List Tmp) (φs : List (Value → World → Prop)) (I : List (World → Prop)) (i : Nat) : Prop :=
  ∃ oi t φ J J', ops[i]? = some oi ∧ oi.dst = some t ∧ ts[i]? = some t ∧ φs[i]? = some φ ∧ I[i]? = some J ∧ I[i + 1]? = some J' ∧ ∀ a w, Rl S w1 w → J w →
    (∀ s, (ts.contains s) = false → a.tmps[s]? = a0.tmps[s]?) →
    (∀ j, decide (j < i) = true → ∀ s ψ, ts[j]? = some s → φs[j]? = some ψ → ∃ v, a.tmps[s]? = some v ∧ ψ v w) →
    ∀ K : Act → World → Prop, Shut (∀ v w', Rl S w w' → J' w' → φ v w' → K (a.put (some t) v) w') → OpG P ops oi a w K Q
theorem sti {a0 : Act} {S : Nat → Prop} {w1 : World} {ts : List Tmp} {φs : List (Value → World → Prop)} {I : List (World → Prop)} {i : Nat} {oi : Oper} {t : Tmp} {φ : Value → World → Prop} {J J' : World → Prop} (h1 : ops[i]? = some oi) (h2 : oi.dst = some t) (h3 : ts[i]? = some t) (h4 : φs[i]? = some φ) (h5 : I[i]? = some J) (h6 : I[i + 1]? = some J') (hg : oi.guard = none)
    (h : ∀ a w, Rl S w1 w → J w → (∀ s, (ts.contains s) = false → a.tmps[s]? = a0.tmps[s]?) → (∀ j, decide (j < i) = true → ∀ s ψ, ts[j]? = some s → φs[j]? = some ψ → ∃ v, a.tmps[s]? = some v ∧ ψ v w) →
      ∀ K : Act → World → Prop, Shut (∀ v w', Rl S w w' → J' w' → φ v w' → K (a.put (some t) v) w') → Oper.wp P oi a w K Q) : StepI P ops Q a0 S w1 ts φs I i :=
  ⟨oi, t, φ, J, J', h1, h2, h3, h4, h5, h6, fun a w hM hI hoff hp K hK => og_plain hg (h a w hM hI hoff hp K hK)⟩
theorem stiy {a0 : Act} {S : Nat → Prop} {w1 : World} {ts : List Tmp} {φs : List (Value → World → Prop)} {I : List (World → Prop)} {i : Nat} {oi : Oper} {t : Tmp} {φ : Value → World → Prop} {J J' : World → Prop} (j : Nat) {b : Bool} {s : Tmp} (h1 : ops[i]? = some oi) (h2 : oi.dst = some t) (h3 : ts[i]? = some t) (h4 : φs[i]? = some φ) (h5 : I[i]? = some J) (h6 : I[i + 1]? = some J') (hg : oi.guard = some (j, b)) (hj : (ops[j]?).bind (·.dst) = some s) (hpj : decide (j < i) = true) (hsj : ts[j]? = some s) (hφj : φs[j]? = some (isV (.bool b)))
    (h : ∀ a w, Rl S w1 w → J w → (∀ s, (ts.contains s) = false → a.tmps[s]? = a0.tmps[s]?) → (∀ j, decide (j < i) = true → ∀ s ψ, ts[j]? = some s → φs[j]? = some ψ → ∃ v, a.tmps[s]? = some v ∧ ψ v w) →
      ∀ K : Act → World → Prop, Shut (∀ v w', Rl S w w' → J' w' → φ v w' → K (a.put (some t) v) w') → Oper.wp P oi a w K Q) : StepI P ops Q a0 S w1 ts φs I i :=
  ⟨oi, t, φ, J, J', h1, h2, h3, h4, h5, h6, fun a w hM hI hoff hp K hK => by
    obtain ⟨_, eg, rfl⟩ := hp j hpj s _ hsj hφj
    exact og_yes hg hj eg (h a w hM hI hoff hp K hK)⟩
theorem stin {a0 : Act} {S : Nat → Prop} {w1 : World} {ts : List Tmp} {φs : List (Value → World → Prop)} {I : List (World → Prop)} {i : Nat} {oi : Oper} {t : Tmp} {J : World → Prop} (j : Nat) {b : Bool} {s : Tmp} {x : Value} (h1 : ops[i]? = some oi) (h2 : oi.dst = some t) (h3 : ts[i]? = some t) (h4 : φs[i]? = some (isV undef)) (h5 : I[i]? = some J) (h6 : I[i + 1]? = some J) (hg : oi.guard = some (j, b)) (hj : (ops[j]?).bind (·.dst) = some s) (hpj : decide (j < i) = true) (hsj : ts[j]? = some s) (hφj : φs[j]? = some (isV x)) (hx : x = .bool (!b) ∨ x = undef) : StepI P ops Q a0 S w1 ts φs I i :=
  ⟨oi, t, _, J, J, h1, h2, h3, h4, h5, h6, fun a w hM hI hoff hp K hK => by
    obtain ⟨_, eg, rfl⟩ := hp j hpj s _ hsj hφj
    rw [← h2] at hK
    exact og_no hg hj eg hx (hK _ _ (Rl.refl _ _) hI rfl)⟩
theorem sti_nil {a0 : Act} {S : Nat → Prop} {w1 : World} {ts : List Tmp} {φs : List (Value → World → Prop)} {I : List (World → Prop)} : ∀ i ∈ ([] : List Nat), StepI P ops Q a0 S w1 ts φs I i := fun _ h => by cases h
theorem sti_cons {a0 : Act} {S : Nat → Prop} {w1 : World} {ts : List Tmp} {φs : List (Value → World → Prop)} {I : List (World → Prop)} {i : Nat} {rs : List Nat} (h : StepI P ops Q a0 S w1 ts φs I i) (hs : ∀ j ∈ rs, StepI P ops Q a0 S w1 ts φs I j) : ∀ j ∈ i :: rs, StepI P ops Q a0 S w1 ts φs I j := fun j hj => by
  rcases List.mem_cons.1 hj with rfl | hj
  · exact h
  · exact hs j hj
theorem rgi_from {a0 : Act} {S : Nat → Prop} {w1 : World} (M : Nat) (ts : List Tmp) (φs : List (Value → World → Prop)) (I : List (World → Prop)) (hts : ts.length = M) (hM : M ≤ ops.size) (hn : ts.Nodup) (hl : ∀ t ∈ ts, t < a0.tmps.size)
    (hst : ∀ φ ∈ φs, StbR S φ) (hs : ∀ i ∈ List.range M, StepI P ops Q a0 S w1 ts φs I i)
    (hend : ∀ (V : Nat → Value) w, Rl S w1 w → (∀ J, I[M]? = some J → J w) → (∀ i φ, φs[i]? = some φ → i < M → φ (V i) w) → wpOps P ops Q (List.range' M (ops.size - M)) (fillAll V 0 ts a0) w) :
    ∀ (d m : Nat) (b : Nat → Bool) (V : Nat → Value) (a : Act) (w : World), m + d = M → (∀ j, b j = decide (j < m)) → Fr a0 a ts b V → Rl S w1 w → (∀ J, I[m]? = some J → J w) →
      (∀ i φ, φs[i]? = some φ → i < m → φ (V i) w) → wpOps P ops Q (List.range' m (ops.size - m)) a w := by
  intro d
  induction d with
  | zero =>
    intro m b V a w hm hb hF hR hI hφ
    obtain rfl : m = M := by omega
    have hbt : ∀ i, i < ts.length → b i = true := fun i hi => by rw [hb]; simpa using (by omega : i < m)
    rw [hF.all hn hl hbt]
    exact hend V w hR hI (fun i φ h1 h2 => hφ i φ h1 h2)
  | succ d ih =>
    intro m b V a w hm hb hF hR hI hφ
    obtain ⟨oi, t, φ, J, J', ho, hdst, hti, hφi, hJ, hJ', hstep⟩ := hs m (List.mem_range.2 (by omega))
    rw [show ops.size - m = (ops.size - (m + 1)) + 1 by omega, List.range'_succ, wpOps_cons]
    unfold wpOp
    rw [ho]
    refine opg_to (hstep a w hR (hI _ hJ) (fun s hs' => ?_) (fun j hj s ψ hs' hψ => ?_) _ (fun v w' hR' hI' hv => ?_))
    · refine hF.off s (fun k hk => ?_)
      have : ts.contains s = true := List.contains_iff_mem.2 (List.mem_of_getElem? hk)
      rw [hs'] at this
      cases this
    · have hj' : j < m := by simpa using hj
      exact ⟨V j, hF.on j s hs' (by rw [hb]; simpa using hj'), hφ j ψ hψ hj'⟩
    · refine ih (m + 1) (upb b m) (upv V m v) _ w' (by omega) (fun j => ?_) (hF.step hn hl hti v) (hR.trans hR') (fun J2 h2 => by rw [hJ'] at h2; cases h2; exact hI') (fun j ψ hj hjm => ?_)
      · unfold upb
        rw [hb]
        by_cases h : j = m
        · subst h; simp
        · rw [if_neg h, decide_eq_decide]; omega
      · by_cases hji : j = m
        · subst hji
          obtain rfl := Option.some.inj (hj.symm.trans hφi)
          simpa [upv] using hv
        · simp only [upv, if_neg hji]
          exact hst ψ (List.mem_of_getElem? hj) _ _ _ hR' (hφ j ψ hj (by omega))
/-- THE REGION, its first M operations; what is left is walked one by one. -/
theorem rgi {id : Nat} {a0 : Act} {S : Nat → Prop} {w : World} (M : Nat) (ts : List Tmp) (φs : List (Value → World → Prop)) (I : List (World → Prop)) (hts : ts.length = M) (hM : M ≤ ops.size) (hn : ts.Nodup) (hl : (ts.all fun t => decide (t < a0.tmps.size)) = true)
    (hI : ∀ J, I[0]? = some J → J w) (hst : ∀ φ ∈ φs, StbR S φ) (hs : ∀ i ∈ List.range M, StepI P ops Q a0 S w ts φs I i)
    (hend : ∀ (V : Nat → Value) w', Rl S w w' → (∀ J, I[M]? = some J → J w') → (∀ i φ, φs[i]? = some φ → i < M → φ (V i) w') → wpOps P ops Q (List.range' M (ops.size - M)) (fillAll V 0 ts a0) w') : (Code.region id ops false).wp P Q a0 w := by
  refine wp_region ?_
  have hl' : ∀ t ∈ ts, t < a0.tmps.size := fun t ht => by simpa using List.all_eq_true.1 hl t ht
  rw [List.range_eq_range']
  have := rgi_from (S := S) (w1 := w) M ts φs I hts hM hn hl' hst hs hend M 0 (fun _ => false) (fun _ => undef) a0 w (by omega) (fun j => by simp) ⟨rfl, rfl, fun _ _ _ h => (by cases h), fun _ _ => rfl⟩ (Rl.refl S w) hI (fun _ _ _ h => absurd h (Nat.not_lt_zero _))
  simpa using this
theorem wpo_drop {l : List Oper} {M : Nat} {a : Act} {w : World} (h : wpList P l.toArray Q (l.drop M) a w) : wpOps P l.toArray Q (List.range' M (l.toArray.size - M)) a w := by
  have := wpOps_eq_wpList (P := P) (ops := l.toArray) (Q := Q) (l.drop M) M (fun j => by rw [List.getElem?_drop]; simp)
  rw [List.length_drop] at this
  rw [show l.toArray.size = l.length from rfl, this]
  exact h
theorem wpo_nil {a : Act} {w : World} {m : Nat} (h : Q .normal a w) : wpOps P ops Q (List.range' m 0) a w := h
theorem wpo_cons {a : Act} {w : World} {m n : Nat} {o : Oper} (ho : ops[m]? = some o) (h : OpG P ops o a w (wpOps P ops Q (List.range' (m + 1) n)) Q) : wpOps P ops Q (List.range' m (n + 1)) a w := by
  rw [List.range'_succ, wpOps_cons]
  unfold wpOp
  rw [ho]
  exact opg_to h
end
/-- A cell that is no byte. -/
def noByte : Value → Bool
  | .int .u8 _ => false
  | _ => true
theorem nb {l : Array Value} (h : ∀ x ∈ l, noByte x = true) : ∀ x ∈ l, ∀ n, x ≠ .int .u8 n := fun x hx n e => by
  have := h x hx
  rw [e] at this
  cases this
def AllNb : List Value → Prop
  | [] => True
  | x :: l => noByte x = true ∧ AllNb l
theorem allNb : ∀ {l : List Value}, AllNb l → ∀ x ∈ l, noByte x = true
  | [], _, x, hx => by cases hx
  | y :: l, h, x, hx => by
    rcases List.mem_cons.1 hx with rfl | h2
    · exact h.1
    · exact allNb h.2 x h2
theorem nbl {l : List Value} (h : AllNb l) : ∀ x ∈ l.toArray, ∀ n, x ≠ .int .u8 n := nb fun x hx => allNb h x (by simpa using hx)
def AllOne : List Value → Prop
  | [] => True
  | x :: l => x.oneCell' = true ∧ AllOne l
theorem allOne : ∀ {l : List Value}, AllOne l → l.all (·.oneCell') = true
  | [], _ => rfl
  | y :: l, h => by rw [List.all_cons, h.1, allOne h.2]; rfl
theorem onel {l : List Value} (h : AllOne l) : l.toArray.all (·.oneCell') = true := by
  have := allOne h
  simpa using this
theorem row_one {w : World} {B : Nat} {v : Value} {r : List Int} (h : Row B w v r) : v.oneCell' = true := by
  obtain ⟨A, c, rfl, _⟩ := h
  rfl
theorem row_nb {w : World} {B : Nat} {v : Value} {r : List Int} (h : Row B w v r) : noByte v = true := by
  obtain ⟨A, c, rfl, _⟩ := h
  rfl
theorem row_len {P : Program} {w : World} {B : Nat} {v : Value} {r : List Int} (h : Row B w v r) (hu : ∃ e, P.underlying 26 = some (.slice e)) : (Builtin.len_ #[26] 3 #[v]).run P w = .ok (.int .i64 r.length) w := by
  obtain ⟨A, c, rfl, _⟩ := h
  obtain ⟨e, hu⟩ := hu
  have hel : P.elem 26 = e := by simp [Program.elem, hu]
  rw [run_len_slice (h := by rw [hel]; exact hu)]
  rfl
/-- A row that is made: zeros. -/
theorem mk_row {P : Program} (w : World) (m : Nat) (ht : P.underlying 26 = some (.slice 5)) (hinfo : (P.info? 5).map (fun i => (i.zero, i.size, i.bytes)) = some (some (.int .u8 0), 1, 1)) (hm : m ≤ 281474976710656) :
    ∃ w', (Instr.makeSlice 26 (.int .i64 (m : Int)) (.int .i64 (m : Int))).run P w = .ok (.slice (some ⟨w.heap.size, 0, none⟩) m m) w' ∧ Below w.heap.size w w' ∧ Row w.heap.size w' (.slice (some ⟨w.heap.size, 0, none⟩) m m) (List.replicate m 0) := by
  refine ⟨_, print_make 26 5 .u8 1 ht hinfo (by decide) m (by omega) w, below_alloc (Below.refl _ _) _, ?_⟩
  have e : madeCells #[Value.int .u8 0] m = ((List.replicate m (0 : Int)).map fun x => Value.int .u8 x).toArray := by
    apply Array.ext
    · simp [madeCells]
    · intro i h1 h2
      simp [madeCells, Nat.mod_one]
  have := Row.lit (B := w.heap.size) (w := w) (t := 5) (l := List.replicate m 0) (Nat.le_refl _) (by simp; omega)
  rw [← e, List.length_replicate] at this
  exact this
end Go.Proofs.YtgacaemgmgoiaaaW.Rg
