import Derived.Test.YtgacaemgmgoiaaaWWords
import Derived.Test.YtgacaemgmgoiaaaWLast
import Derived.Test.YtgacaemgmgoiaaaWMore
/- A region that draws its order, all of whose operations yield a value and only make new memory: each operation is shown once, whatever came up before it. RowsB of bytes that are read. -/
namespace Go.Proofs.YtgacaemgmgoiaaaW.Rg
open Go.RowKit Go.Proofs.YtgacaemgmgoiaaaW.PrintWords Go.Proofs.YtgacaemgmgoiaaaW.PrintLast
/-- What was there reads as it did. -/
structure Mono (w w' : World) : Prop where
  size : w.heap.size ≤ w'.heap.size
  cell : ∀ a v, w.cell? a = some v → w'.cell? a = some v
  shape : ∀ b s, w.shape? b = some s → w'.shape? b = some s
theorem Mono.refl (w : World) : Mono w w := ⟨Nat.le_refl _, fun _ _ h => h, fun _ _ h => h⟩
theorem Mono.trans {a b c : World} (h : Mono a b) (k : Mono b c) : Mono a c := ⟨Nat.le_trans h.size k.size, fun x v hx => k.cell x v (h.cell x v hx), fun x v hx => k.shape x v (h.shape x v hx)⟩
theorem Mono.of_below {w w' : World} (h : Below w.heap.size w w') : Mono w w' := ⟨h.size, fun _ _ hc => pw_cell_below h hc, fun b s hs => by
  unfold World.shape? at hs ⊢
  by_cases hb : b < w.heap.size
  · rw [h.block b hb]; exact hs
  · rw [Array.getElem?_eq_none (by omega)] at hs
    cases hs⟩
theorem Mono.drew (w : World) : Mono w w.drew := .of_below (below_drew (Below.refl _ _))
theorem Mono.drewN (w : World) (n : Nat) : Mono w (w.drewN n) := .of_below (pw_below_drewN (Below.refl _ _) n)
theorem Mono.alloc (w : World) (o : Obj) : Mono w (w.alloc o) := .of_below (below_alloc (Below.refl _ _) o)
/-- A kind whose cells are told by what reads as it did. -/
def MKd {α : Type} (d : Kd α) : Prop := ∀ w w' x cs, Mono w w' → d.K w x cs → d.K w' x cs
theorem C_mono {α : Type} {d : Kd α} (hd : MKd d) {w w' : World} (hm : Mono w w') {A : Option Addr} {n : Nat} {xs : List α} (h : d.C w A n xs) : d.C w' A n xs := by
  obtain ⟨h1, h2, h3⟩ := h
  refine ⟨h1, h2, fun hn => ?_⟩
  obtain ⟨ad, he, hc⟩ := h3 hn
  refine ⟨ad, he, fun j p hj => ?_⟩
  obtain ⟨c, hl, hK, hcell⟩ := hc j p hj
  exact ⟨c, hl, hd w w' p c hm hK, fun i u hu => hm.cell _ _ (hcell i u hu)⟩
theorem mkd_int (k : IntKind) : MKd (Kd.int k) := fun _ _ _ _ _ h => h
theorem mkd_bool : MKd Kd.bool := fun _ _ _ _ _ h => h
theorem mkd_slice {α : Type} (e : Nat) {d : Kd α} (hd : MKd d) : MKd (Kd.slice e d) := fun w w' x cs hm h => by
  obtain ⟨A, c, h1, h2, h3⟩ := h
  exact ⟨A, c, h1, h2, C_mono hd hm h3⟩
/-- A row of bytes, behind block number B. -/
def Row (B : Nat) (w : World) (v : Value) (r : List Int) : Prop := ∃ A c, v = .slice A r.length c ∧ r.length ≤ c ∧ (Kd.int .u8).C w A r.length r ∧ ∀ ad, A = some ad → B ≤ ad.block
/-- A row of rows of bytes. -/
def RowsB (w : World) (v : Value) (l : List (List Int)) : Prop := ∃ A c, v = .slice A l.length c ∧ l.length ≤ c ∧ (Kd.slice 5 (Kd.int .u8)).C w A l.length l
theorem Row.mono {B : Nat} {w w' : World} {v : Value} {r : List Int} (h : Row B w v r) (hm : Mono w w') : Row B w' v r := by
  obtain ⟨A, c, h1, h2, h3, h4⟩ := h
  exact ⟨A, c, h1, h2, C_mono (mkd_int _) hm h3, h4⟩
theorem Row.lower {B B' : Nat} {w : World} {v : Value} {r : List Int} (h : Row B w v r) (hB : B' ≤ B) : Row B' w v r := by
  obtain ⟨A, c, h1, h2, h3, h4⟩ := h
  exact ⟨A, c, h1, h2, h3, fun ad he => Nat.le_trans hB (h4 ad he)⟩
theorem RowsB.mono {w w' : World} {v : Value} {l : List (List Int)} (h : RowsB w v l) (hm : Mono w w') : RowsB w' v l := by
  obtain ⟨A, c, h1, h2, h3⟩ := h
  exact ⟨A, c, h1, h2, C_mono (mkd_slice 5 (mkd_int _)) hm h3⟩
theorem Row.of_C {w : World} {A : Option Addr} {c : Nat} {r : List Int} (h : (Kd.int .u8).C w A r.length r) (hc : r.length ≤ c) : Row 0 w (.slice A r.length c) r := ⟨A, c, rfl, hc, h, fun _ _ => Nat.zero_le _⟩
theorem Row.nil (B : Nat) (w : World) : Row B w (.slice none 0 0) [] := ⟨none, 0, rfl, Nat.le_refl _, ⟨rfl, by simp, fun h => absurd h (by simp)⟩, fun _ h => by cases h⟩
theorem Row.of_R {e base : Nat} {ok : Nat → Prop} {w : World} {v : Value} {r : List Int} (h : (Kd.int .u8).R e w base ok v r) : Row base w v r := by
  obtain ⟨A, c, rfl⟩ := Kd.R_slice h
  have h2 := Kd.R_reads' h
  refine ⟨A, c, rfl, h2.2.1, h2.2.2, fun ad he => ?_⟩
  subst he
  exact Kd.R_base h ad.block (by simp [Value.ownBlock])
/-- Values, each a row of bytes. -/
def RowL (w : World) : List Value → List (List Int) → Prop
  | [], [] => True
  | v :: vs, r :: rs => Row 0 w v r ∧ RowL w vs rs
  | _, _ => False
theorem RowL.nil (w : World) : RowL w [] [] := trivial
theorem RowL.cons {w : World} {v : Value} {vs : List Value} {r : List Int} {rs : List (List Int)} (h : Row 0 w v r) (k : RowL w vs rs) : RowL w (v :: vs) (r :: rs) := ⟨h, k⟩
theorem RowL.len {w : World} : ∀ {vs : List Value} {l : List (List Int)}, RowL w vs l → vs.length = l.length
  | [], [], _ => rfl
  | _ :: _, _ :: _, h => by simp [RowL.len h.2]
  | [], _ :: _, h => h.elim
  | _ :: _, [], h => h.elim
theorem RowL.get {w : World} : ∀ {vs : List Value} {l : List (List Int)}, RowL w vs l → ∀ (j : Nat) (v : Value) (r : List Int), vs[j]? = some v → l[j]? = some r → Row 0 w v r
  | [], [], _, j, v, r, h, _ => by simp at h
  | x :: vs, y :: l, h, 0, v, r, h1, h2 => by simp at h1 h2; subst h1 h2; exact h.1
  | x :: vs, y :: l, h, j + 1, v, r, h1, h2 => RowL.get h.2 j v r (by simpa using h1) (by simpa using h2)
  | [], _ :: _, h, _, _, _, _, _ => h.elim
  | _ :: _, [], h, _, _, _, _, _ => h.elim
theorem RowL.mono {w w' : World} (hm : Mono w w') : ∀ {vs : List Value} {l : List (List Int)}, RowL w vs l → RowL w' vs l
  | [], [], _ => trivial
  | _ :: _, _ :: _, h => ⟨h.1.mono hm, RowL.mono hm h.2⟩
  | [], _ :: _, h => h.elim
  | _ :: _, [], h => h.elim
theorem heap_new (w : World) (o : Obj) : (w.alloc o).heap[w.heap.size]? = some o := by
  show (w.heap.push o)[w.heap.size]? = _
  simp
/-- A literal of rows, just made, reads as these rows. -/
theorem RowsB.lit {w : World} {t : TypeId} {vs : Array Value} {l : List (List Int)} (h : RowL w vs.toList l) (hm : l.length ≤ 9223372036854775807) :
    RowsB (w.alloc (.cells vs t)) (.slice (some ⟨w.heap.size, 0, none⟩) l.length l.length) l := by
  refine ⟨_, _, rfl, Nat.le_refl _, rfl, hm, fun _ => ⟨_, rfl, fun j p hj => ?_⟩⟩
  have hjl : j < l.length := (List.getElem?_eq_some_iff.1 hj).1
  have hl := h.len
  have hg := heap_new w (.cells vs t)
  have hjv : j < vs.toList.length := by omega
  obtain ⟨A, c, h1, h2, h3, _⟩ := (h.mono (Mono.alloc w (.cells vs t))).get j _ p (List.getElem?_eq_getElem hjv) hj
  refine ⟨[vs.toList[j]], rfl, ⟨A, c, by rw [h1], h2, h3⟩, fun i u hu => ?_⟩
  obtain ⟨hi, hu⟩ := List.getElem?_eq_some_iff.1 hu
  simp only [List.length_singleton] at hi
  obtain rfl : i = 0 := by omega
  rw [add_plain, cell_of_row _ _ _ _ _ _ hg]
  simp only [List.getElem_singleton] at hu
  subst hu
  have hjv2 : j < vs.size := by simpa using hjv
  rw [show (Kd.slice 5 (Kd.int .u8)).sz = 1 from rfl]
  simp [hjv2]
/-- A literal of bytes, just made. -/
theorem Row.lit {B : Nat} {w : World} {t : TypeId} {l : List Int} (hB : B ≤ w.heap.size) (hm : l.length ≤ 9223372036854775807) : Row B (w.alloc (.cells (l.map fun x => Value.int .u8 x).toArray t)) (.slice (some ⟨w.heap.size, 0, none⟩) l.length l.length) l := by
  have hg := heap_new w (.cells (l.map fun x => Value.int .u8 x).toArray t)
  refine ⟨_, _, rfl, Nat.le_refl _, Kd.C_of_reads (d := 0) (h1 := fun _ => rfl) ⟨rfl, hm, fun _ => ⟨_, rfl, fun j hj => ?_⟩⟩, fun ad he => ?_⟩
  · rw [add_plain, cell_of_row _ _ _ _ _ _ hg]
    simp [List.getElem?_eq_getElem hj]
  · cases he
    exact hB
/-- What a value of a region's operation is told by. -/
def isV (x : Value) : Value → World → Prop := fun v _ => v = x
def isRow (B : Nat) (r : List Int) : Value → World → Prop := fun v w => Row B w v r
def isRows (l : List (List Int)) : Value → World → Prop := fun v w => RowsB w v l
/-- A box: its cells, one behind the other. -/
def BoxAt (b : Nat) (l : List Value) (w : World) : Prop := ∀ (j : Nat) (u : Value), l[j]? = some u → w.cell? ⟨b, j, none⟩ = some u
theorem BoxAt.mono {b : Nat} {l : List Value} {w w' : World} (h : BoxAt b l w) (hm : Mono w w') : BoxAt b l w' := fun j u hj => hm.cell _ _ (h j u hj)
def isBox (B : Nat) (l : List Value) : Value → World → Prop := fun v w => ∃ b, v = .pointer (some ⟨b, 0, none⟩) ∧ B ≤ b ∧ BoxAt b l w
theorem boxAt_alloc (w : World) (t : TypeId) (l : List Value) : BoxAt w.heap.size l (w.alloc (.cells l.toArray t)) := fun j u hj => (blk_cell (heap_new _ _) j).trans (by simpa using hj)
/-- The constant's row, as the literal lays it. -/
def isLit (B : Nat) (r : List Int) : Value → World → Prop := fun v w => ∃ b, v = .slice (some ⟨b, 0, none⟩) r.length r.length ∧ B ≤ b ∧ w.shape? b = some (5, r.length) ∧ Row B w v r
/-- A pointer to a cell that holds a value; to one that holds a row. -/
def isPtr (x : Value) : Value → World → Prop := fun v w => ∃ ad, v = .pointer (some ad) ∧ w.cell? ad = some x
def isPtrR (r : List Int) : Value → World → Prop := fun v w => ∃ ad u, v = .pointer (some ad) ∧ w.cell? ad = some u ∧ Row 0 w u r
/-- Rows, and a number. -/
def isTupRs (l : List (List Int)) (n : Int) : Value → World → Prop := fun v w => ∃ u, v = .tuple #[u, .int .i64 n] ∧ RowsB w u l
theorem BoxAt.ten {b : Nat} {x0 x1 x2 x3 x4 x5 x6 x7 x8 x9 : Value} {w : World} (h : BoxAt b [x0, x1, x2, x3, x4, x5, x6, x7, x8, x9] w) : w.cell? ⟨b, 0, none⟩ = some x0 ∧ w.cell? ⟨b, 1, none⟩ = some x1 ∧ w.cell? ⟨b, 2, none⟩ = some x2 ∧ w.cell? ⟨b, 3, none⟩ = some x3 ∧ w.cell? ⟨b, 4, none⟩ = some x4 ∧ w.cell? ⟨b, 5, none⟩ = some x5 ∧ w.cell? ⟨b, 6, none⟩ = some x6 ∧ w.cell? ⟨b, 7, none⟩ = some x7 ∧ w.cell? ⟨b, 8, none⟩ = some x8 ∧ w.cell? ⟨b, 9, none⟩ = some x9 :=
  ⟨h 0 _ rfl, h 1 _ rfl, h 2 _ rfl, h 3 _ rfl, h 4 _ rfl, h 5 _ rfl, h 6 _ rfl, h 7 _ rfl, h 8 _ rfl, h 9 _ rfl⟩
/-- A row and a number. -/
def isTup (B : Nat) (r : List Int) (n : Int) : Value → World → Prop := fun v w => ∃ u, v = .tuple #[u, .int .i64 n] ∧ Row B w u r
def Stb (φ : Value → World → Prop) : Prop := ∀ v w w', Mono w w' → φ v w → φ v w'
theorem stb_V (x : Value) : Stb (isV x) := fun _ _ _ _ h => h
theorem stb_Row (B : Nat) (r : List Int) : Stb (isRow B r) := fun _ _ _ hm h => Row.mono h hm
theorem stb_Rows (l : List (List Int)) : Stb (isRows l) := fun _ _ _ hm h => RowsB.mono h hm
theorem stb_Tup (B : Nat) (r : List Int) (n : Int) : Stb (isTup B r n) := fun _ _ _ hm ⟨u, h1, h2⟩ => ⟨u, h1, h2.mono hm⟩
theorem stb_Box (B : Nat) (l : List Value) : Stb (isBox B l) := fun _ _ _ hm ⟨u, h1, h2, h3⟩ => ⟨u, h1, h2, h3.mono hm⟩
theorem stb_Lit (B : Nat) (r : List Int) : Stb (isLit B r) := fun _ _ _ hm ⟨u, h1, h2, h3, h4⟩ => ⟨u, h1, h2, hm.shape _ _ h3, h4.mono hm⟩
theorem stb_Ptr (x : Value) : Stb (isPtr x) := fun _ _ _ hm ⟨u, h1, h2⟩ => ⟨u, h1, hm.cell _ _ h2⟩
theorem stb_PtrR (r : List Int) : Stb (isPtrR r) := fun _ _ _ hm ⟨u, x, h1, h2, h3⟩ => ⟨u, x, h1, hm.cell _ _ h2, h3.mono hm⟩
theorem stb_TupRs (l : List (List Int)) (n : Int) : Stb (isTupRs l n) := fun _ _ _ hm ⟨u, h1, h2⟩ => ⟨u, h1, h2.mono hm⟩
theorem stb_nil : ∀ φ ∈ ([] : List (Value → World → Prop)), Stb φ := fun _ h => by cases h
theorem stb_cons {φ : Value → World → Prop} {l : List (Value → World → Prop)} (h : Stb φ) (hl : ∀ ψ ∈ l, Stb ψ) : ∀ ψ ∈ φ :: l, Stb ψ := fun ψ hψ => by
  rcases List.mem_cons.1 hψ with rfl | h2
  · exact h
  · exact hl ψ h2
/-! ### a region that draws -/
section
variable {P : Program} {ops : Array Oper} {Q : Exit → Act → World → Prop}
/-- Each edge goes to an earlier operation. -/
def acyc (ops : Array Oper) : Bool := (List.range ops.size).all fun d => match ops[d]? with
  | some o => o.after.all fun e => decide (e.on < d)
  | none => true
def upb (b : Nat → Bool) (i : Nat) : Nat → Bool := fun j => if j = i then true else b j
def upv (V : Nat → Value) (i : Nat) (v : Value) : Nat → Value := fun j => if j = i then v else V j
/-- The frame: what has come up has its slot filled. -/
structure Fr (a0 a : Act) (ts : List Tmp) (b : Nat → Bool) (V : Nat → Value) : Prop where
  d : a.defers = a0.defers
  s : a.tmps.size = a0.tmps.size
  on : ∀ i t, ts[i]? = some t → b i = true → a.tmps[t]? = some (V i)
  off : ∀ t, (∀ i, ts[i]? = some t → b i = false) → a.tmps[t]? = a0.tmps[t]?
/-- An operation with its guard looked at. -/
def OpG (P : Program) (ops : Array Oper) (oi : Oper) (a : Act) (w : World) (K : Act → World → Prop) (Q : Exit → Act → World → Prop) : Prop :=
  if Region.wanted oi (yielded ops a.tmps) then oi.wp P a w K Q else K (a.put oi.dst undef) w
theorem og_plain {oi : Oper} {a : Act} {w : World} {K : Act → World → Prop} (hg : oi.guard = none) (h : oi.wp P a w K Q) : OpG P ops oi a w K Q := by
  unfold OpG
  rw [if_pos (by simp [Region.wanted, hg])]
  exact h
theorem og_yes {oi : Oper} {a : Act} {w : World} {K : Act → World → Prop} {j : Nat} {b : Bool} {s : Tmp} (hg : oi.guard = some (j, b)) (hj : (ops[j]?).bind (·.dst) = some s) (hs : a.tmps[s]? = some (.bool b)) (h : oi.wp P a w K Q) : OpG P ops oi a w K Q := by
  unfold OpG
  rw [if_pos (by simp [Region.wanted, hg, yielded, hj, hs])]
  exact h
theorem og_no {oi : Oper} {a : Act} {w : World} {K : Act → World → Prop} {j : Nat} {b : Bool} {s : Tmp} {v : Value} (hg : oi.guard = some (j, b)) (hj : (ops[j]?).bind (·.dst) = some s) (hs : a.tmps[s]? = some v) (hv : v = .bool (!b) ∨ v = undef) (h : K (a.put oi.dst undef) w) : OpG P ops oi a w K Q := by
  unfold OpG
  rw [if_neg]
  · exact h
  · rcases hv with rfl | rfl <;> simp [Region.wanted, hg, yielded, hj, hs, undef]
/-- The operations that are done ahead of one, where the order is drawn. -/
def preE (ops : Array Oper) (i j : Nat) : Bool := match ops[i]? with
  | some o => o.after.toList.any fun e => Region.binds .any e && e.on == j
  | none => false
/-- And where it is the list's own. -/
def preS (_ : Array Oper) (i j : Nat) : Bool := decide (j < i)
/-- One operation, whatever came up before it: φ tells its value. -/
def StepF (pre : Nat → Nat → Bool) (P : Program) (ops : Array Oper) (Q : Exit → Act → World → Prop) (a0 : Act) (B : Nat) (w0 w1 : World) (ts : List Tmp) (φs : List (Value → World → Prop)) (i : Nat) : Prop :=
  ∃ oi t φ, ops[i]? = some oi ∧ oi.dst = some t ∧ ts[i]? = some t ∧ φs[i]? = some φ ∧ ∀ a w, Below B w0 w → Mono w1 w →
    (∀ s, (ts.contains s) = false → a.tmps[s]? = a0.tmps[s]?) →
    (∀ j, pre i j = true → ∀ s ψ, ts[j]? = some s → φs[j]? = some ψ → ∃ v, a.tmps[s]? = some v ∧ ψ v w) →
    ∀ K : Act → World → Prop, Shut (∀ v w', Below B w0 w' → Mono w w' → φ v w' → K (a.put (some t) v) w') → OpG P ops oi a w K Q
theorem stepf_nil {pre : Nat → Nat → Bool} {a0 : Act} {B : Nat} {w0 w1 : World} {ts : List Tmp} {φs : List (Value → World → Prop)} : ∀ i ∈ ([] : List Nat), StepF pre P ops Q a0 B w0 w1 ts φs i := fun _ h => by cases h
theorem stepf_cons {pre : Nat → Nat → Bool} {a0 : Act} {B : Nat} {w0 w1 : World} {ts : List Tmp} {φs : List (Value → World → Prop)} {i : Nat} {rs : List Nat} (h : StepF pre P ops Q a0 B w0 w1 ts φs i) (hs : ∀ j ∈ rs, StepF pre P ops Q a0 B w0 w1 ts φs j) : ∀ j ∈ i :: rs, StepF pre P ops Q a0 B w0 w1 ts φs j := fun j hj => by
  rcases List.mem_cons.1 hj with rfl | hj
  · exact h
  · exact hs j hj
/-- A step, with no guard; with a guard that says yes; with one that says no. -/
theorem stp {pre : Nat → Nat → Bool} {a0 : Act} {B : Nat} {w0 w1 : World} {ts : List Tmp} {φs : List (Value → World → Prop)} {i : Nat} {oi : Oper} {t : Tmp} {φ : Value → World → Prop} (h1 : ops[i]? = some oi) (h2 : oi.dst = some t) (h3 : ts[i]? = some t) (h4 : φs[i]? = some φ) (hg : oi.guard = none)
    (h : ∀ a w, Below B w0 w → Mono w1 w → (∀ s, (ts.contains s) = false → a.tmps[s]? = a0.tmps[s]?) → (∀ j, pre i j = true → ∀ s ψ, ts[j]? = some s → φs[j]? = some ψ → ∃ v, a.tmps[s]? = some v ∧ ψ v w) →
      ∀ K : Act → World → Prop, Shut (∀ v w', Below B w0 w' → Mono w w' → φ v w' → K (a.put (some t) v) w') → Oper.wp P oi a w K Q) : StepF pre P ops Q a0 B w0 w1 ts φs i :=
  ⟨oi, t, φ, h1, h2, h3, h4, fun a w hB hM hoff hp K hK => og_plain hg (h a w hB hM hoff hp K hK)⟩
theorem stpy {pre : Nat → Nat → Bool} {a0 : Act} {B : Nat} {w0 w1 : World} {ts : List Tmp} {φs : List (Value → World → Prop)} {i : Nat} {oi : Oper} {t : Tmp} {φ : Value → World → Prop} (j : Nat) {b : Bool} {s : Tmp} (h1 : ops[i]? = some oi) (h2 : oi.dst = some t) (h3 : ts[i]? = some t) (h4 : φs[i]? = some φ) (hg : oi.guard = some (j, b)) (hj : (ops[j]?).bind (·.dst) = some s) (hpj : pre i j = true) (hsj : ts[j]? = some s) (hφj : φs[j]? = some (isV (.bool b)))
    (h : ∀ a w, Below B w0 w → Mono w1 w → (∀ s, (ts.contains s) = false → a.tmps[s]? = a0.tmps[s]?) → (∀ j, pre i j = true → ∀ s ψ, ts[j]? = some s → φs[j]? = some ψ → ∃ v, a.tmps[s]? = some v ∧ ψ v w) →
      ∀ K : Act → World → Prop, Shut (∀ v w', Below B w0 w' → Mono w w' → φ v w' → K (a.put (some t) v) w') → Oper.wp P oi a w K Q) : StepF pre P ops Q a0 B w0 w1 ts φs i :=
  ⟨oi, t, φ, h1, h2, h3, h4, fun a w hB hM hoff hp K hK => by
    obtain ⟨_, eg, rfl⟩ := hp j hpj s _ hsj hφj
    exact og_yes hg hj eg (h a w hB hM hoff hp K hK)⟩
theorem stpn {pre : Nat → Nat → Bool} {a0 : Act} {B : Nat} {w0 w1 : World} {ts : List Tmp} {φs : List (Value → World → Prop)} {i : Nat} {oi : Oper} {t : Tmp} (j : Nat) {b : Bool} {s : Tmp} {x : Value} (h1 : ops[i]? = some oi) (h2 : oi.dst = some t) (h3 : ts[i]? = some t) (h4 : φs[i]? = some (isV undef)) (hg : oi.guard = some (j, b)) (hj : (ops[j]?).bind (·.dst) = some s) (hpj : pre i j = true) (hsj : ts[j]? = some s) (hφj : φs[j]? = some (isV x)) (hx : x = .bool (!b) ∨ x = undef) : StepF pre P ops Q a0 B w0 w1 ts φs i :=
  ⟨oi, t, _, h1, h2, h3, h4, fun a w hB hM hoff hp K hK => by
    obtain ⟨_, eg, rfl⟩ := hp j hpj s _ hsj hφj
    rw [← h2] at hK
    exact og_no hg hj eg hx (hK _ _ hB (Mono.refl _) rfl)⟩
/-- All slots filled, in the list's order. -/
def fillAll (V : Nat → Value) : Nat → List Tmp → Act → Act
  | _, [], a => a
  | k, t :: r, a => fillAll V (k + 1) r (a.put (some t) (V k))
theorem fillAll_size (V : Nat → Value) : ∀ (r : List Tmp) (k : Nat) (a : Act), (fillAll V k r a).tmps.size = a.tmps.size ∧ (fillAll V k r a).defers = a.defers
  | [], _, _ => ⟨rfl, rfl⟩
  | t :: r, k, a => by
    have := fillAll_size V r (k + 1) (a.put (some t) (V k))
    exact ⟨this.1.trans (by simp [Act.put]), this.2.trans rfl⟩
theorem fillAll_get (V : Nat → Value) : ∀ (r : List Tmp) (k : Nat) (a : Act) (s : Tmp), r.Nodup → (∀ t ∈ r, t < a.tmps.size) → (fillAll V k r a).tmps[s]? = match r.findIdx? (· == s) with
    | some i => some (V (k + i))
    | none => a.tmps[s]?
  | [], _, _, _, _, _ => rfl
  | t :: r, k, a, s, hn, hl => by
    rw [List.nodup_cons] at hn
    unfold fillAll
    rw [fillAll_get V r (k + 1) _ s hn.2 (fun u hu => by simpa [Act.put] using hl u (List.mem_cons_of_mem _ hu)), List.findIdx?_cons]
    by_cases hts : t = s
    · subst hts
      have h0 : r.findIdx? (· == t) = none := by
        rw [List.findIdx?_eq_none_iff]
        intro x hx
        exact beq_eq_false_iff_ne.2 (fun e => hn.1 (e ▸ hx))
      have h1 := hl t (List.mem_cons_self ..)
      simp [h0, Act.put, h1]
    · have h1 : (t == s) = false := beq_eq_false_iff_ne.2 hts
      simp only [h1]
      cases hf : r.findIdx? (· == s) with
      | none => simp [Act.put, Array.getElem?_setIfInBounds_ne hts]
      | some i => simp only [Option.map_some]; rw [show k + 1 + i = k + (i + 1) by omega]; rfl
theorem act_ext {a b : Act} (h1 : a.defers = b.defers) (h2 : ∀ t : Nat, a.tmps[t]? = b.tmps[t]?) : a = b := by
  cases a; cases b
  simp only at h1 h2
  subst h1
  congr
  exact Array.ext_getElem? h2
theorem Fr.all {a0 a : Act} {ts : List Tmp} {b : Nat → Bool} {V : Nat → Value} (h : Fr a0 a ts b V) (hn : ts.Nodup) (hl : ∀ t ∈ ts, t < a0.tmps.size) (hb : ∀ i, i < ts.length → b i = true) : a = fillAll V 0 ts a0 := by
  refine act_ext (h.d.trans (fillAll_size V ts 0 a0).2.symm) (fun s => ?_)
  rw [fillAll_get V ts 0 a0 s hn hl]
  cases hf : ts.findIdx? (· == s) with
  | none =>
    rw [List.findIdx?_eq_none_iff] at hf
    exact h.off s (fun i hi => absurd (hf s (List.mem_of_getElem? hi)) (by simp))
  | some i =>
    rw [List.findIdx?_eq_some_iff_getElem] at hf
    obtain ⟨hi, he, _⟩ := hf
    have he' : ts[i] = s := by simpa using he
    simp only [Nat.zero_add]
    exact h.on i s (by rw [List.getElem?_eq_getElem hi, he']) (hb i hi)
theorem Fr.step {a0 a : Act} {ts : List Tmp} {b : Nat → Bool} {V : Nat → Value} (h : Fr a0 a ts b V) (hn : ts.Nodup) (hl : ∀ t ∈ ts, t < a0.tmps.size) {i : Nat} {t : Tmp} (ht : ts[i]? = some t) (v : Value) : Fr a0 (a.put (some t) v) ts (upb b i) (upv V i v) := by
  have htl : t < a.tmps.size := by rw [h.s]; exact hl t (List.mem_of_getElem? ht)
  refine ⟨h.d, by simpa [Act.put] using h.s, fun j s hj hb => ?_, fun s hs => ?_⟩
  · by_cases hji : j = i
    · subst hji
      obtain rfl := Option.some.inj (hj.symm.trans ht)
      simp [Act.put, htl, upv]
    · have hne : t ≠ s := fun e => by
        subst e
        obtain ⟨h1, e1⟩ := List.getElem?_eq_some_iff.1 hj
        obtain ⟨h2, e2⟩ := List.getElem?_eq_some_iff.1 ht
        exact hji ((List.getElem_inj hn).1 (e1.trans e2.symm))
      have hb' : b j = true := by simpa [upb, hji] using hb
      simp only [Act.put, Array.getElem?_setIfInBounds_ne hne, upv, if_neg hji]
      exact h.on j s hj hb'
  · have hne : t ≠ s := fun e => by
      subst e
      have := hs i ht
      simp [upb] at this
    simp only [Act.put, Array.getElem?_setIfInBounds_ne hne]
    refine h.off s (fun j hj => ?_)
    have := hs j hj
    by_cases hji : j = i
    · subst hji; simp [upb] at this
    · simpa [upb, hji] using this
theorem opg_to {oi : Oper} {a : Act} {w : World} {K : Act → World → Prop} (h : OpG P ops oi a w K Q) : (if Region.wanted oi (yielded ops a.tmps) then oi.wp P a w K Q ∨ (oi.asks P a w ∧ LetsOut Q) else K (a.put oi.dst undef) w) := by
  unfold OpG at h
  split
  · rename_i hw; rw [if_pos hw] at h; exact .inl h
  · rename_i hw; rw [if_neg hw] at h; exact h
theorem rg_any {a0 : Act} {B : Nat} {w0 w1 : World} (hac : acyc ops = true) (ts : List Tmp) (φs : List (Value → World → Prop)) (hts : ts.length = ops.size) (hn : ts.Nodup) (hl : ∀ t ∈ ts, t < a0.tmps.size)
    (hst : ∀ φ ∈ φs, ∀ v w w', Mono w w' → φ v w → φ v w') (hs : ∀ i ∈ List.range ops.size, StepF (preE ops) P ops Q a0 B w0 w1 ts φs i)
    (hend : ∀ (V : Nat → Value) w, Below B w0 w → Mono w1 w → (∀ i φ, φs[i]? = some φ → i < ops.size → φ (V i) w) → Q .normal (fillAll V 0 ts a0) w) :
    ∀ (m : Nat) (listed : Array Bool) (b : Nat → Bool) (V : Nat → Value) (a : Act) (w : World), listed.size = ops.size → (∀ j, j < ops.size → listed.getD j false = b j) → (listed.toList.filter fun x => !x).length = m → Fr a0 a ts b V → Below B w0 w → Mono w1 w →
      (∀ i φ, φs[i]? = some φ → i < ops.size → b i = true → φ (V i) w) → wpAny P .any ops Q m listed a w := by
  have nready : ∀ (listed : Array Bool), listed.size = ops.size → (∃ j, j < ops.size ∧ listed.getD j false = false) → Region.ready .any ops listed ≠ [] := by
    intro listed hsz hex
    have hmin : ∀ k, (∃ j, j ≤ k ∧ j < ops.size ∧ listed.getD j false = false) → ∃ j, j < ops.size ∧ listed.getD j false = false ∧ ∀ i, i < j → listed.getD i false = true := by
      intro k
      induction k with
      | zero => rintro ⟨j, hj, h1, h2⟩; exact ⟨j, h1, h2, fun i hi => by omega⟩
      | succ k ih =>
        rintro ⟨j, hj, h1, h2⟩
        by_cases hlow : ∃ i, i ≤ k ∧ i < ops.size ∧ listed.getD i false = false
        · exact ih hlow
        · refine ⟨j, h1, h2, fun i hi => ?_⟩
          cases hb : listed.getD i false with
          | true => rfl
          | false => exact absurd ⟨i, by omega, by omega, hb⟩ hlow
    obtain ⟨j0, h1, h2⟩ := hex
    obtain ⟨j, hj, hjf, hlow⟩ := hmin j0 ⟨j0, Nat.le_refl _, h1, h2⟩
    intro hnil
    have hin : j ∈ Region.ready .any ops listed := by
      rw [mem_ready]
      refine ⟨?_, ops[j], Array.getElem?_eq_getElem hj, fun e he _ => hlow e.on ?_⟩
      · simp only [Array.getD_eq_getD_getElem?] at hjf ⊢
        rw [Array.getElem?_eq_getElem (by omega)] at hjf ⊢
        simpa using hjf
      · have := List.all_eq_true.1 hac j (List.mem_range.2 hj)
        rw [Array.getElem?_eq_getElem hj] at this
        simpa using Array.all_eq_true_iff_forall_mem.1 this e he
    rw [hnil] at hin
    cases hin
  intro m
  induction m with
  | zero =>
    intro listed b V a w hsz hlb hm hF hB hM hφ
    have hall : ∀ j, j < ops.size → listed.getD j false = true := by
      intro j hj
      cases hb : listed.getD j false with
      | true => rfl
      | false =>
        have hjl : j < listed.size := by omega
        have he : listed[j] = false := by
          simp only [Array.getD_eq_getD_getElem?, Array.getElem?_eq_getElem hjl] at hb
          simpa using hb
        have : listed[j] ∈ listed.toList.filter fun x => !x := List.mem_filter.2 ⟨by simp, by rw [he]; rfl⟩
        rw [List.eq_nil_of_length_eq_zero hm] at this
        cases this
    have hbt : ∀ j, j < ops.size → b j = true := fun j hj => (hlb j hj).symm.trans (hall j hj)
    refine ⟨?_, ?_⟩
    · refine List.eq_nil_iff_forall_not_mem.2 (fun i hi => ?_)
      obtain ⟨h1, o, ho, _⟩ := mem_ready.1 hi
      have hil : i < ops.size := (Array.getElem?_eq_some_iff.1 ho).1
      have h2 := hall i hil
      simp only [Array.getD_eq_getD_getElem?, Array.getElem?_eq_getElem (show i < listed.size by omega)] at h1 h2
      simp at h1 h2
      rw [h1] at h2
      cases h2
    · rw [hF.all hn hl (fun i hi => hbt i (by omega))]
      exact hend V w hB hM (fun i φ h1 h2 => hφ i φ h1 h2 (hbt i h2))
  | succ m ih =>
    intro listed b V a w hsz hlb hm hF hB hM hφ
    refine ⟨fun hnil => ?_, fun i hi => ?_⟩
    · exfalso
      refine nready listed hsz ?_ hnil
      have : ∃ x, x ∈ listed.toList.filter fun x => !x := by
        cases hf : listed.toList.filter (fun x => !x) with
        | nil => rw [hf] at hm; simp at hm
        | cons x r => exact ⟨x, List.mem_cons_self ..⟩
      obtain ⟨x, hx⟩ := this
      rw [List.mem_filter] at hx
      obtain ⟨j, hj, he⟩ := List.mem_iff_getElem.1 hx.1
      have hjl : j < listed.size := by simpa using hj
      refine ⟨j, by omega, ?_⟩
      simp only [Array.getD_eq_getD_getElem?, Array.getElem?_eq_getElem hjl]
      have hxf : x = false := by simpa using hx.2
      simp only [Array.getElem_toList] at he
      simp [he, hxf]
    · obtain ⟨h1, o, ho, hpre⟩ := mem_ready.1 hi
      have hil : i < ops.size := (Array.getElem?_eq_some_iff.1 ho).1
      have hjl : i < listed.size := by omega
      have hif : listed[i] = false := by
        simp only [Array.getD_eq_getD_getElem?, Array.getElem?_eq_getElem hjl] at h1
        simpa using h1
      obtain ⟨oi, t, φ, ho', hdst, hti, hφi, hstep⟩ := hs i (List.mem_range.2 hil)
      obtain rfl := Option.some.inj (ho.symm.trans ho')
      unfold wpOp
      rw [ho]
      refine opg_to (hstep a w hB hM (fun s hs' => ?_) (fun j hj s ψ hs' hψ => ?_) _ (fun v w' hB' hM' hv => ?_))
      · refine hF.off s (fun k hk => ?_)
        have : ts.contains s = true := List.contains_iff_mem.2 (List.mem_of_getElem? hk)
        rw [hs'] at this
        cases this
      · unfold preE at hj
        rw [ho] at hj
        obtain ⟨e, he, hej⟩ := List.any_eq_true.1 hj
        replace he := Array.mem_toList_iff.1 he
        simp only [Bool.and_eq_true, beq_iff_eq] at hej
        have hlist := hpre e he hej.1
        rw [hej.2] at hlist
        have hjs : j < ops.size := by
          have := (List.getElem?_eq_some_iff.1 hs').1
          omega
        have hbj : b j = true := (hlb j hjs).symm.trans hlist
        exact ⟨V j, hF.on j s hs' hbj, hφ j ψ hψ hjs hbj⟩
      · refine ih (listed.setIfInBounds i true) (upb b i) (upv V i v) (a.put (some t) v) w' (by simpa using hsz) (fun j hj => ?_) ?_ (hF.step hn hl hti v) hB' (hM.trans hM') (fun j ψ hj hjl' hb => ?_)
        · by_cases hji : j = i
          · subst hji
            simp [upb, Array.getD_eq_getD_getElem?, hjl]
          · have h2 := hlb j hj
            simp only [Array.getD_eq_getD_getElem?] at h2 ⊢
            rw [Array.getElem?_setIfInBounds_ne (Ne.symm hji), h2]
            simp [upb, hji]
        · have hcount : ∀ (l : List Bool) (k : Nat) (hk : k < l.length), l[k] = false → ((l.set k true).filter fun x => !x).length + 1 = (l.filter fun x => !x).length := by
            intro l
            induction l with
            | nil => intro k hk; simp at hk
            | cons x r ihl =>
              intro k hk he
              cases k with
              | zero =>
                simp only [List.getElem_cons_zero] at he
                subst he
                simp
              | succ k =>
                simp only [List.getElem_cons_succ] at he
                have := ihl k (by simpa using hk) he
                cases x
                · simp only [List.set_cons_succ, List.filter_cons, Bool.not_false, if_true, List.length_cons]; omega
                · simpa using this
          have := hcount listed.toList i (by simpa using hjl) (by simpa using hif)
          rw [Array.toList_setIfInBounds]
          omega
        · by_cases hji : j = i
          · subst hji
            obtain rfl := Option.some.inj (hj.symm.trans hφi)
            simpa [upv] using hv
          · have hb' : b j = true := by simpa [upb, hji] using hb
            simp only [upv, if_neg hji]
            exact hst ψ (List.mem_of_getElem? hj) _ _ _ hM' (hφ j ψ hj hjl' hb')
/-- THE REGION: w0, B: what the caller's old memory is told by; w: the world ahead of it. -/
theorem rg {id : Nat} {a0 : Act} {B : Nat} {w0 w : World} (hm : P.follows .mixedOrders = true) (hac : acyc ops = true) (ts : List Tmp) (φs : List (Value → World → Prop)) (hts : ts.length = ops.size) (hn : ts.Nodup) (hl : (ts.all fun t => decide (t < a0.tmps.size)) = true)
    (hB : Below B w0 w) (hst : ∀ φ ∈ φs, ∀ v w w', Mono w w' → φ v w → φ v w') (hs : ∀ i ∈ List.range ops.size, StepF (preE ops) P ops Q a0 B w0 w ts φs i)
    (hend : ∀ (V : Nat → Value) w', Below B w0 w' → Mono w w' → (∀ i φ, φs[i]? = some φ → i < ops.size → φ (V i) w') → Q .normal (fillAll V 0 ts a0) w') : (Code.region id ops true).wp P Q a0 w := by
  refine wp_region_any hm ?_
  have hl' : ∀ t ∈ ts, t < a0.tmps.size := fun t ht => by simpa using List.all_eq_true.1 hl t ht
  refine rg_any (B := B) (w0 := w0) (w1 := w) hac ts φs hts hn hl' hst hs hend ops.size (Array.replicate ops.size false) (fun _ => false) (fun _ => undef) a0 w.drew (by simp) (fun j hj => by simp [Array.getD_eq_getD_getElem?, hj]) (by simp) ⟨rfl, rfl, fun _ _ _ h => (by cases h), fun _ _ => rfl⟩ (below_drew hB) (Mono.drew w) (fun _ _ _ _ h => (by cases h))
/-- THE REGION, where the order is the list's own. -/
theorem rgs_from {a0 : Act} {B : Nat} {w0 w1 : World} (ts : List Tmp) (φs : List (Value → World → Prop)) (hts : ts.length = ops.size) (hn : ts.Nodup) (hl : ∀ t ∈ ts, t < a0.tmps.size)
    (hst : ∀ φ ∈ φs, ∀ v w w', Mono w w' → φ v w → φ v w') (hs : ∀ i ∈ List.range ops.size, StepF (preS ops) P ops Q a0 B w0 w1 ts φs i)
    (hend : ∀ (V : Nat → Value) w, Below B w0 w → Mono w1 w → (∀ i φ, φs[i]? = some φ → i < ops.size → φ (V i) w) → Q .normal (fillAll V 0 ts a0) w) :
    ∀ (d m : Nat) (b : Nat → Bool) (V : Nat → Value) (a : Act) (w : World), m + d = ops.size → (∀ j, b j = decide (j < m)) → Fr a0 a ts b V → Below B w0 w → Mono w1 w →
      (∀ i φ, φs[i]? = some φ → i < m → φ (V i) w) → wpOps P ops Q (List.range' m d) a w := by
  intro d
  induction d with
  | zero =>
    intro m b V a w hm hb hF hB hM hφ
    have hbt : ∀ i, i < ts.length → b i = true := fun i hi => by rw [hb]; simpa using (by omega : i < m)
    show Q .normal a w
    rw [hF.all hn hl hbt]
    exact hend V w hB hM (fun i φ h1 h2 => hφ i φ h1 (by omega))
  | succ d ih =>
    intro m b V a w hm hb hF hB hM hφ
    obtain ⟨oi, t, φ, ho, hdst, hti, hφi, hstep⟩ := hs m (List.mem_range.2 (by omega))
    rw [List.range'_succ, wpOps_cons]
    unfold wpOp
    rw [ho]
    refine opg_to (hstep a w hB hM (fun s hs' => ?_) (fun j hj s ψ hs' hψ => ?_) _ (fun v w' hB' hM' hv => ?_))
    · refine hF.off s (fun k hk => ?_)
      have : ts.contains s = true := List.contains_iff_mem.2 (List.mem_of_getElem? hk)
      rw [hs'] at this
      cases this
    · have hj' : j < m := by simpa [preS] using hj
      exact ⟨V j, hF.on j s hs' (by rw [hb]; simpa using hj'), hφ j ψ hψ hj'⟩
    · refine ih (m + 1) (upb b m) (upv V m v) _ w' (by omega) (fun j => ?_) (hF.step hn hl hti v) hB' (hM.trans hM') (fun j ψ hj hjm => ?_)
      · unfold upb
        rw [hb]
        by_cases h : j = m
        · subst h; simp
        · rw [if_neg h, decide_eq_decide]; omega
      · by_cases hji : j = m
        · subst hji
          obtain rfl := Option.some.inj (hj.symm.trans hφi)
          simpa [upv] using hv
        · simp only [upv, if_neg hji]
          exact hst ψ (List.mem_of_getElem? hj) _ _ _ hM' (hφ j ψ hj (by omega))
theorem rgs {id : Nat} {a0 : Act} {B : Nat} {w0 w : World} (ts : List Tmp) (φs : List (Value → World → Prop)) (hts : ts.length = ops.size) (hn : ts.Nodup) (hl : (ts.all fun t => decide (t < a0.tmps.size)) = true)
    (hB : Below B w0 w) (hst : ∀ φ ∈ φs, ∀ v w w', Mono w w' → φ v w → φ v w') (hs : ∀ i ∈ List.range ops.size, StepF (preS ops) P ops Q a0 B w0 w ts φs i)
    (hend : ∀ (V : Nat → Value) w', Below B w0 w' → Mono w w' → (∀ i φ, φs[i]? = some φ → i < ops.size → φ (V i) w') → Q .normal (fillAll V 0 ts a0) w') : (Code.region id ops false).wp P Q a0 w := by
  refine wp_region ?_
  have hl' : ∀ t ∈ ts, t < a0.tmps.size := fun t ht => by simpa using List.all_eq_true.1 hl t ht
  rw [List.range_eq_range']
  exact rgs_from (B := B) (w0 := w0) (w1 := w) ts φs hts hn hl' hst hs hend ops.size 0 (fun _ => false) (fun _ => undef) a0 w (by simp) (fun j => by simp) ⟨rfl, rfl, fun _ _ _ h => (by cases h), fun _ _ => rfl⟩ hB (Mono.refl w) (fun _ _ _ h => absurd h (Nat.not_lt_zero _))
end
/-! ### operations -/
section
variable {P : Program} {oi : Oper} {a : Act} {w : World} {K : Act → World → Prop} {Q : Exit → Act → World → Prop}
theorem ev {t : Tmp} {v : Value} (h : a.tmps[t]? = some v) : a.eval (.tmp t) = v := by simp [Act.eval, h]
/-- An operation that yields a value. -/
theorem op_val {v : Value} {w' : World} (hrun : (execOp a.eval oi).run P w = .ok (.value v) w') (h : K (a.put oi.dst v) w') : Oper.wp P oi a w K Q := by
  unfold Oper.wp
  rw [hrun]
  exact h
/-- A call of a Go function by its contract. -/
theorem op_call {f : FuncId} {fn : Func} {as : Array Operand} {ts : Array TypeId} (hf : P.funcs[f]? = some fn) (hname : (fn.name == "runtime.NumGoroutine") = false) (hb : fn.body.isSome = true) (args : Array Value)
    (hop : oi.op = .call { callee := .value (.func f), args := as, argTypes := ts }) (hargs : as.map a.eval = args) {R : Ending → World → Prop} (hc : Calls P f args w R) (h : ∀ e w', R e w' → ∃ v, e = .returned v ∧ K (a.put oi.dst v) w') : Oper.wp P oi a w K Q := by
  have he := enters_ hf hname hb args w
  have hrun : (execOp a.eval oi).run P w = .ok (.enter f args) w := by
    unfold execOp
    simp [hop, resolve, Deferred.ofValue, invoke, Act.eval, hargs, he]
  unfold Oper.wp
  rw [hrun, Oper.upon_enter]
  refine hc.mono ?_
  rintro e w' hR
  obtain ⟨v, rfl, hK⟩ := h e w' hR
  exact hK
end
theorem modify_get (h : Array Obj) (b k : Nat) (f : Obj → Obj) : (h.modify b f)[k]? = if k = b then (h[k]?).map f else h[k]? := by
  rw [Array.getElem?_modify]
  by_cases e : k = b
  · subst e; simp
  · rw [if_neg (Ne.symm e), if_neg e]
theorem freeze_get (w : World) (b n : Nat) (k : Nat) : (w.freeze ⟨b, n, none⟩ 1).heap[k]? = if k = b then (w.heap[k]?).map (fun
      | .cells c elem (lo, hi) => .cells c elem (if lo == hi then (n, n + 1) else (min lo n, max hi (n + 1)))
      | o => o) else w.heap[k]? := by
  unfold World.freeze
  rw [if_neg (by decide)]
  exact modify_get _ _ _ _
theorem mono_freeze (w : World) (b n : Nat) : Mono w (w.freeze ⟨b, n, none⟩ 1) := by
  refine ⟨?_, fun a v h => ?_, fun k s h => ?_⟩
  · unfold World.freeze
    rw [if_neg (by decide)]
    simp
  · unfold World.cell? at h ⊢
    rw [freeze_get]
    by_cases e : a.block = b
    · rw [if_pos e]
      revert h
      cases w.heap[a.block]? with
      | none => simp
      | some o => cases o <;> simp
    · rw [if_neg e]; exact h
  · unfold World.shape? at h ⊢
    rw [freeze_get]
    by_cases e : k = b
    · rw [if_pos e]
      revert h
      cases w.heap[k]? with
      | none => simp
      | some o => cases o <;> simp
    · rw [if_neg e]; exact h
theorem below_freeze {B : Nat} {w0 w : World} (h : Below B w0 w) (b n : Nat) (hb : B ≤ b) : Below B w0 (w.freeze ⟨b, n, none⟩ 1) := by
  have e : w.freeze ⟨b, n, none⟩ 1 = { w with heap := (w.freeze ⟨b, n, none⟩ 1).heap } := by
    unfold World.freeze
    rw [if_neg (by decide)]
  refine ⟨?_, ?_, ?_, ?_, fun k hk => ?_⟩
  · rw [e]; exact h.os
  · rw [e]; exact h.tape
  · rw [e]; exact h.output
  · exact Nat.le_trans h.size (mono_freeze w b n).size
  · rw [freeze_get, if_neg (by omega)]; exact h.block k hk
/-- The constant's conversion to its own type. -/
theorem run_lit {P : Program} {w : World} {B : Nat} {r : List Int} {v : Value} (h : isLit B r v w) (t : TypeId) (ht : P.underlying t = some (.slice 5)) (he : P.underlying 5 = some (.int .u8)) :
    ∃ w', (convert t t v).run P w = .ok v w' ∧ Mono w w' ∧ Row B w' v r ∧ ∀ {B' : Nat} {w0 : World}, Below B' w0 w → B' ≤ B → Below B' w0 w' := by
  obtain ⟨b, rfl, hb, hsh, hR⟩ := h
  refine ⟨w.freeze ⟨b, r.length, none⟩ 1, ?_, mono_freeze _ _ _, hR.mono (mono_freeze _ _ _), fun h hB' => below_freeze h _ _ (by omega)⟩
  simp [convert, run_underlying ht, run_underlying he, markStringish, hsh]
theorem isLit.lit {B : Nat} {w : World} {l : List Int} (hB : B ≤ w.heap.size) (hm : l.length ≤ 9223372036854775807) : isLit B l (.slice (some ⟨w.heap.size, 0, none⟩) l.length l.length) (w.alloc (.cells (l.map fun x => Value.int .u8 x).toArray 5)) :=
  ⟨_, rfl, hB, by unfold World.shape?; rw [heap_new]; simp, Row.lit hB hm⟩
/-- A row's part. -/
theorem row_mid {P : Program} {w : World} {B : Nat} {r : List Int} {v : Value} (h : Row B w v r) (t e : TypeId) (ht : P.underlying t = some (.slice e)) (hi : ∃ i, P.info? e = some i ∧ i.size = 1) (a b : Int) (h0 : 0 ≤ a) (h1 : a ≤ b) (hm : b ≤ r.length) :
    ∃ v', (∀ W : World, (Instr.slice t v (some (.int .i64 a)) (some (.int .i64 b)) none).run P W = .ok v' W) ∧ Row 0 w v' ((r.take b.toNat).drop a.toNat) := by
  obtain ⟨i, hi, hsz⟩ := hi
  obtain ⟨A, c, rfl, hc, hC, _⟩ := h
  obtain ⟨A', k1, k2, k3⟩ := print_mid_int (P := P) (k := .u8) t e ht hi hsz A c r a b h0 h1 hm hc
  exact ⟨_, k1, A', _, rfl, k3, Kd.C_of_reads (d := 0) (h1 := fun _ => rfl) (k2 w (Kd.reads_of_C (d := 0) hC)), fun _ _ => Nat.zero_le _⟩
theorem row_drop {P : Program} {w : World} {B : Nat} {r : List Int} {v : Value} (h : Row B w v r) (t e : TypeId) (ht : P.underlying t = some (.slice e)) (hi : ∃ i, P.info? e = some i ∧ i.size = 1) (a : Int) (h0 : 0 ≤ a) (hm : a ≤ r.length) :
    ∃ v', (∀ W : World, (Instr.slice t v (some (.int .i64 a)) none none).run P W = .ok v' W) ∧ Row 0 w v' (r.drop a.toNat) := by
  obtain ⟨i, hi, hsz⟩ := hi
  obtain ⟨A, c, rfl, hc, hC, _⟩ := h
  obtain ⟨A', k1, k2, k3⟩ := print_drop_of (P := P) (Value.int .u8) 0 t e .i64 ht hi hsz A c r a h0 hm hc
  exact ⟨_, k1, A', _, rfl, k3, Kd.C_of_reads (d := 0) (h1 := fun _ => rfl) (k2 w (Kd.reads_of_C (d := 0) hC)), fun _ _ => Nat.zero_le _⟩
theorem row_take {P : Program} {w : World} {B : Nat} {r : List Int} {v : Value} (h : Row B w v r) (t e : TypeId) (ht : P.underlying t = some (.slice e)) (hi : ∃ i, P.info? e = some i ∧ i.size = 1) (b : Int) (h0 : 0 ≤ b) (hm : b ≤ r.length) :
    ∃ v', (∀ W : World, (Instr.slice t v none (some (.int .i64 b)) none).run P W = .ok v' W) ∧ Row 0 w v' (r.take b.toNat) := by
  obtain ⟨i, hi, hsz⟩ := hi
  obtain ⟨A, c, rfl, hc, hC, _⟩ := h
  obtain ⟨k1, k2, k3⟩ := print_take_of (P := P) (Value.int .u8) 0 t e .i64 ht hi hsz A c r b h0 hm hc
  exact ⟨_, k1, A, _, rfl, k3, Kd.C_of_reads (d := 0) (h1 := fun _ => rfl) (k2 w (Kd.reads_of_C (d := 0) hC)), fun _ _ => Nat.zero_le _⟩
/-- A row's cell. -/
theorem row_at {P : Program} {w : World} {B : Nat} {r : List Int} {v : Value} (h : Row B w v r) (t e : TypeId) (ht : P.underlying t = some (.slice e)) (hi : ∃ i, P.info? e = some i ∧ i.size = 1) (j : Nat) (x : Int) (hj : r[j]? = some x) :
    ∃ ad, (∀ W : World, (Instr.indexAt t v (.int .i64 (j : Int))).run P W = .ok (.pointer (some ad)) W) ∧ isPtr (.int .u8 x) (.pointer (some ad)) w := by
  obtain ⟨i, hi, hsz⟩ := hi
  obtain ⟨A, c, rfl, hc, hC, _⟩ := h
  obtain ⟨hlt, hx⟩ := List.getElem?_eq_some_iff.1 hj
  obtain ⟨ad, rfl, hR⟩ := (Kd.reads_of_C (d := 0) hC).2.2 (by omega)
  refine ⟨ad.add j, fun W => ?_, ad.add j, rfl, by have := hR j hlt; rw [this]; simp [List.getD_eq_getElem?_getD, hj]⟩
  have hel : P.elem t = e := by simp [Program.elem, ht]
  have hu : P.underlying t = some (.slice (P.elem t)) := by rw [hel]; exact ht
  rw [run_indexAt_slice (h := hu)]
  simp [hlt, hel, hi, hsz, sizeOf, typeInfo, Result.andThen]
/-- A cell of a row of rows. -/
theorem rows_at {P : Program} {w : World} {l : List (List Int)} {v : Value} (h : RowsB w v l) (t e : TypeId) (ht : P.underlying t = some (.slice e)) (hi : ∃ i, P.info? e = some i ∧ i.size = 1) (j : Nat) (x : List Int) (hj : l[j]? = some x) :
    ∃ ad, (∀ W : World, (Instr.indexAt t v (.int .i64 (j : Int))).run P W = .ok (.pointer (some ad)) W) ∧ isPtrR x (.pointer (some ad)) w := by
  obtain ⟨i, hi, hsz⟩ := hi
  obtain ⟨A, c, rfl, hc, hC⟩ := h
  obtain ⟨hlt, hx⟩ := List.getElem?_eq_some_iff.1 hj
  obtain ⟨_, _, hQ⟩ := hC
  obtain ⟨ad, rfl, hS⟩ := hQ (by omega)
  obtain ⟨cs, hl, ⟨A', c', rfl, hc', hC'⟩, hcell⟩ := hS j x hj
  refine ⟨ad.add j, fun W => ?_, ad.add j, _, rfl, by simpa [Kd.slice] using hcell 0 _ rfl, A', c', rfl, hc', hC', fun _ _ => Nat.zero_le _⟩
  have hel : P.elem t = e := by simp [Program.elem, ht]
  have hu : P.underlying t = some (.slice (P.elem t)) := by rw [hel]; exact ht
  rw [run_indexAt_slice (h := hu)]
  simp [hlt, hel, hi, hsz, sizeOf, typeInfo, Result.andThen]
end Go.Proofs.YtgacaemgmgoiaaaW.Rg
