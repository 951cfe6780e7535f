/- The law livery/liverylaw23.CapsuleBack: for every input the call returns true, and each argument reads behind the call as it read before. No condition. Written by wip/printx/rowx.py of this session out of the pure theorem and the printed walk. -/
import Derived.Test.YtgacaemgmgoiaaaRows
import Derived.Test.YtgacaemgmgoiaaaPureCapsuleBack
import Derived.WalkKit
import Derived.ProofKit
import Derived.OpenShut
import Derived.ShutString
import Derived.ChangeOld
import Derived.Below
import Derived.SizedLaws
import Derived.Lib.SmallJoins
namespace Go.Proofs.Ytgacaemgmgoiaaa.capsuleBack
open Go.ChangeShapes Go.WideShapes Go.ChangeAt Go.RowKit
open Go.ChangeMaps (open_string shut_string)
open Go.Proofs.YtgacaemgmgoiaaaW.PrintWords
set_option linter.unusedVariables false
set_option linter.unusedSimpArgs false
theorem own : ownKnob Try.prog.godebug = none := by kernel_rfl
theorem laidOut : laidOutB Try.prog = true := by kernel_rfl
theorem openSl26 {H : Type} {enc : TypeId × Value → H} {W : World} {fuel : Nat} {cs : List Value} {x : DataW H × List MemPlace} (h : DataW.trod enc Try.prog W 0 (fun _ => true) true fuel 26 cs = some x) :
    ∃ (A0 : Option Addr) (n0 c0 : Nat) (l0 : List Int), cs = [.slice A0 n0 c0] ∧ n0 = l0.length ∧ ReadsInt W .u8 A0 l0.length l0 ∧ l0.length ≤ maxLen ∧ (∀ x ∈ l0, (Lit.int .u8 x).wf = true) ∧ l0.length ≤ c0 := by
  rcases open_ints Try.underlying26 Try.underlying5 (by kernel_rfl) h with ⟨hcs, _⟩ | ⟨x, l, c, zs, hcs, _, hl, hm, hz, _, hcell, hwz⟩
  · obtain ⟨l0, h1, h2, h3, h4, h5⟩ := ReadsInt.ofRowC (k := .u8) (w := W) (a := none) (len := 0) (cap := 0) (zs := []) (.inl ⟨rfl, rfl, rfl, rfl⟩)
    exact ⟨none, 0, 0, l0, hcs, h1, h2, h3, h4, h5⟩
  · obtain ⟨l0, h1, h2, h3, h4, h5⟩ := ReadsInt.ofRowC (k := .u8) (w := W) (a := some x) (len := l) (cap := c) (zs := zs) (.inr ⟨_, rfl, hl, hm, by simpa using hz, hcell, hwz⟩)
    exact ⟨some x, l, c, l0, hcs, h1, h2, h3, h4, h5⟩
theorem list9 {α : Type} {l : List α} (h : l.length = 9) : ∃ c0 c1 c2 c3 c4 c5 c6 c7 c8, l = [c0, c1, c2, c3, c4, c5, c6, c7, c8] := by
  match l, h with
  | [c0, c1, c2, c3, c4, c5, c6, c7, c8], _ => exact ⟨c0, c1, c2, c3, c4, c5, c6, c7, c8, rfl⟩
theorem list10 {α : Type} {l : List α} (h : l.length = 10) : ∃ c0 c1 c2 c3 c4 c5 c6 c7 c8 c9, l = [c0, c1, c2, c3, c4, c5, c6, c7, c8, c9] := by
  match l, h with
  | [c0, c1, c2, c3, c4, c5, c6, c7, c8, c9], _ => exact ⟨c0, c1, c2, c3, c4, c5, c6, c7, c8, c9, rfl⟩
theorem list2 {α : Type} {l : List α} (h : l.length = 2) : ∃ c0 c1, l = [c0, c1] := by
  match l, h with
  | [c0, c1], _ => exact ⟨c0, c1, rfl⟩
theorem cells23 : Try.prog.cellsOf 23 = 1 := by kernel_rfl
theorem cells25 : Try.prog.cellsOf 25 = 2 := by kernel_rfl
theorem openSt25 {H : Type} {enc : TypeId × Value → H} {W : World} {fuel : Nat} {cs : List Value} {x : DataW H × List MemPlace} (h : DataW.trod enc Try.prog W 0 (fun _ => true) true fuel 25 cs = some x) :
    ∃ (a0 : Int) (a1 : Int), cs = [.int .u64 a0, .int .u64 a1] ∧ (Lit.int .u64 a0).wf = true ∧ (Lit.int .u64 a1).wf = true := by
  obtain ⟨xs, n, rfl, _, hl, hxl, hg⟩ := DataW.trod_struct Try.underlying25 h
  rw [cells25] at hl
  obtain ⟨c0_, c1_, rfl⟩ := list2 hl
  obtain ⟨y0_, y1_, rfl⟩ := list2 hxl
  have g0 := hg 0 _ rfl
  try simp only [cells23] at g0
  replace g0 : DataW.trod enc Try.prog W 0 (fun _ => true) true n 23 [c0_] = some y0_ := g0
  obtain ⟨a0, e0, _, w0⟩ := DataW.trod_int Try.underlying23 g0
  obtain rfl := List.singleton_inj.1 e0
  have g1 := hg 1 _ rfl
  try simp only [cells23] at g1
  replace g1 : DataW.trod enc Try.prog W 0 (fun _ => true) true n 23 [c1_] = some y1_ := g1
  obtain ⟨a1, e1, _, w1⟩ := DataW.trod_int Try.underlying23 g1
  obtain rfl := List.singleton_inj.1 e1
  exact ⟨a0, a1, rfl, w0, w1⟩
theorem cells3 : Try.prog.cellsOf 3 = 1 := by kernel_rfl
theorem cells22 : Try.prog.cellsOf 22 = 1 := by kernel_rfl
theorem cells26 : Try.prog.cellsOf 26 = 1 := by kernel_rfl
theorem cells28 : Try.prog.cellsOf 28 = 10 := by kernel_rfl
theorem openSt28 {H : Type} {enc : TypeId × Value → H} {W : World} {fuel : Nat} {cs : List Value} {x : DataW H × List MemPlace} (h : DataW.trod enc Try.prog W 0 (fun _ => true) true fuel 28 cs = some x) :
    ∃ (a0 : Int) (a1 : Int) (a2 : Int) (a3 : Int) (a4 : Int) (a5 : Int) (A6 : Option Addr) (c6 : Nat) (l6 : List Int) (A7 : Option Addr) (c7 : Nat) (l7 : List Int) (A8 : Option Addr) (c8 : Nat) (l8 : List Int) (A9 : Option Addr) (c9 : Nat) (l9 : List Int), cs = [.int .i64 a0, .int .i64 a1, .int .u32 a2, .int .u32 a3, .int .u64 a4, .int .u64 a5, .slice A6 l6.length c6, .slice A7 l7.length c7, .slice A8 l8.length c8, .slice A9 l9.length c9] ∧ (Lit.int .i64 a0).wf = true ∧ (Lit.int .i64 a1).wf = true ∧ (Lit.int .u32 a2).wf = true ∧ (Lit.int .u32 a3).wf = true ∧ (Lit.int .u64 a4).wf = true ∧ (Lit.int .u64 a5).wf = true ∧ ReadsInt W .u8 A6 l6.length l6 ∧ l6.length ≤ maxLen ∧ (∀ x ∈ l6, (Lit.int .u8 x).wf = true) ∧ l6.length ≤ c6 ∧ ReadsInt W .u8 A7 l7.length l7 ∧ l7.length ≤ maxLen ∧ (∀ x ∈ l7, (Lit.int .u8 x).wf = true) ∧ l7.length ≤ c7 ∧ ReadsInt W .u8 A8 l8.length l8 ∧ l8.length ≤ maxLen ∧ (∀ x ∈ l8, (Lit.int .u8 x).wf = true) ∧ l8.length ≤ c8 ∧ ReadsInt W .u8 A9 l9.length l9 ∧ l9.length ≤ maxLen ∧ (∀ x ∈ l9, (Lit.int .u8 x).wf = true) ∧ l9.length ≤ c9 := by
  obtain ⟨xs, n, rfl, _, hl, hxl, hg⟩ := DataW.trod_struct Try.underlying28 h
  rw [cells28] at hl
  obtain ⟨c0_, c1_, c2_, c3_, c4_, c5_, c6_, c7_, c8_, c9_, rfl⟩ := list10 hl
  obtain ⟨y0_, y1_, y2_, y3_, y4_, y5_, y6_, y7_, y8_, rfl⟩ := list9 hxl
  have g0 := hg 0 _ rfl
  try simp only [cells3] at g0
  replace g0 : DataW.trod enc Try.prog W 0 (fun _ => true) true n 3 [c0_] = some y0_ := g0
  obtain ⟨a0, e0, _, w0⟩ := DataW.trod_int Try.underlying3 g0
  obtain rfl := List.singleton_inj.1 e0
  have g1 := hg 1 _ rfl
  try simp only [cells3] at g1
  replace g1 : DataW.trod enc Try.prog W 0 (fun _ => true) true n 3 [c1_] = some y1_ := g1
  obtain ⟨a1, e1, _, w1⟩ := DataW.trod_int Try.underlying3 g1
  obtain rfl := List.singleton_inj.1 e1
  have g2 := hg 2 _ rfl
  try simp only [cells22] at g2
  replace g2 : DataW.trod enc Try.prog W 0 (fun _ => true) true n 22 [c2_] = some y2_ := g2
  obtain ⟨a2, e2, _, w2⟩ := DataW.trod_int Try.underlying22 g2
  obtain rfl := List.singleton_inj.1 e2
  have g3 := hg 3 _ rfl
  try simp only [cells22] at g3
  replace g3 : DataW.trod enc Try.prog W 0 (fun _ => true) true n 22 [c3_] = some y3_ := g3
  obtain ⟨a3, e3, _, w3⟩ := DataW.trod_int Try.underlying22 g3
  obtain rfl := List.singleton_inj.1 e3
  have g4 := hg 4 _ rfl
  try simp only [cells25] at g4
  replace g4 : DataW.trod enc Try.prog W 0 (fun _ => true) true n 25 [c4_, c5_] = some y4_ := g4
  obtain ⟨a4, a5, e4, w4, w5⟩ := openSt25 g4
  simp only [List.cons.injEq, and_true] at e4
  obtain ⟨rfl, rfl⟩ := e4
  have g5 := hg 5 _ rfl
  try simp only [cells26] at g5
  replace g5 : DataW.trod enc Try.prog W 0 (fun _ => true) true n 26 [c6_] = some y5_ := g5
  obtain ⟨A6, n6, c6, l6, e6, rfl, r6, m6, f6, o6⟩ := openSl26 g5
  obtain rfl := List.singleton_inj.1 e6
  have g6 := hg 6 _ rfl
  try simp only [cells26] at g6
  replace g6 : DataW.trod enc Try.prog W 0 (fun _ => true) true n 26 [c7_] = some y6_ := g6
  obtain ⟨A7, n7, c7, l7, e7, rfl, r7, m7, f7, o7⟩ := openSl26 g6
  obtain rfl := List.singleton_inj.1 e7
  have g7 := hg 7 _ rfl
  try simp only [cells26] at g7
  replace g7 : DataW.trod enc Try.prog W 0 (fun _ => true) true n 26 [c8_] = some y7_ := g7
  obtain ⟨A8, n8, c8, l8, e8, rfl, r8, m8, f8, o8⟩ := openSl26 g7
  obtain rfl := List.singleton_inj.1 e8
  have g8 := hg 8 _ rfl
  try simp only [cells26] at g8
  replace g8 : DataW.trod enc Try.prog W 0 (fun _ => true) true n 26 [c9_] = some y8_ := g8
  obtain ⟨A9, n9, c9, l9, e9, rfl, r9, m9, f9, o9⟩ := openSl26 g8
  obtain rfl := List.singleton_inj.1 e9
  exact ⟨a0, a1, a2, a3, a4, a5, A6, c6, l6, A7, c7, l7, A8, c8, l8, A9, c9, l9, rfl, w0, w1, w2, w3, w4, w5, r6, m6, f6, o6, r7, m7, f7, o7, r8, m8, f8, o8, r9, m9, f9, o9⟩
set_option maxRecDepth 100000 in
set_option maxHeartbeats 1000000 in
theorem lifted (os : Os) (started : os.Started) (H : Type) (enc : TypeId × Value → H) :
    ReturnsInHanded {} Try.checked os 6 .any (Rows.capsuleBackSpec.pre6 enc Try.prog Try.f6 Rows.capsuleBackRow.domain false) (Rows.capsuleBackSpec.post enc Try.prog Try.f6 false true false false) := by
  refine returnsInHanded_of_change_sized (C := Try.checked) own started (by kernel_rfl) Try.func6
    (ChangeSpec.witness6 (enc := enc) (C := Try.checked) false ⟨#[], #[.agg #[.int .i64 0, .int .i64 0, .int .u32 0, .int .u32 0, .int .u64 0, .int .u64 0, .slice none 0 0, .slice none 0 0, .slice none 0 0, .slice none 0 0], .slice none 0 0], []⟩ 8 (by kernel_rfl) (by kernel_rfl) (by kernel_rfl) (by kernel_rfl)) ?_
  intro W base args ds gs before hval0 hW hcnd hsz0 _
  have hval : ∀ (j : Nat) t v, Try.f6.params[j]? = some t → args[j]? = some v → Value.okWide Try.prog W .any base t v := hval0
  have hW' := hW
  obtain ⟨p, q, hA0, hV, rfl, hfz, hnd⟩ := hW
  have hA : DataW.TrodAll enc Try.prog W 0 (fun _ => true) true Try.f6.params.toList args.toList ds p := hA0
  rw [Try.params6] at hA hval
  obtain ⟨v0, vs0, d0, ds0, p0, q0, hargs, rfl, rfl, h0, r0⟩ := trodAll_cons hA
  obtain ⟨v1, vs1, d1, ds1, p1, q1, rfl, rfl, rfl, h1, r1⟩ := trodAll_cons r0
  obtain ⟨rfl, rfl, rfl⟩ := trodAll_nil r1
  obtain rfl : args = #[v0, v1] := by cases args; simp_all
  obtain ⟨rfl, rfl⟩ := trodVars_none hV
  have k0 := h0
  have lt0 : ∀ x ∈ p0, x.block < W.heap.size := by obtain ⟨m, hm⟩ := k0; exact DataW.trod_lt m _ _ _ hm
  obtain ⟨cs0, rfl, hs0⟩ := okWide_struct Try.underlying28 (hval 0 28 v0 rfl rfl)
  obtain ⟨fuel0, hf0⟩ := h0
  obtain ⟨a0_0, a0_1, a0_2, a0_3, a0_4, a0_5, A0_6, c0_6, l0_6, A0_7, c0_7, l0_7, A0_8, c0_8, l0_8, A0_9, c0_9, l0_9, e0, w0_0, w0_1, w0_2, w0_3, w0_4, w0_5, r0_6, m0_6, g0_6, o0_6, r0_7, m0_7, g0_7, o0_7, r0_8, m0_8, g0_8, o0_8, r0_9, m0_9, g0_9, o0_9⟩ := openSt28 hf0
  obtain rfl : cs0 = #[.int .i64 a0_0, .int .i64 a0_1, .int .u32 a0_2, .int .u32 a0_3, .int .u64 a0_4, .int .u64 a0_5, .slice A0_6 l0_6.length c0_6, .slice A0_7 l0_7.length c0_7, .slice A0_8 l0_8.length c0_8, .slice A0_9 l0_9.length c0_9] := by cases cs0; simpa [Value.cells] using e0
  have k1 := h1
  have lt1 : ∀ x ∈ p1, x.block < W.heap.size := by obtain ⟨m, hm⟩ := k1; exact DataW.trod_lt m _ _ _ hm
  obtain ⟨A1, n1, c1, rfl⟩ := okWide_slice Try.underlying26 (hval 1 26 v1 rfl rfl)
  obtain ⟨fuel1, hf1⟩ := h1
  obtain ⟨A1', n1', c1', l1, e1, f1, r1, m1, g1, o1⟩ := openSl26 hf1
  obtain ⟨rfl, rfl, rfl⟩ : A1 = A1' ∧ n1 = n1' ∧ c1 = c1' := by simpa [Value.cells] using e1
  subst f1
  refine (Pure.CapsuleBack W a0_0 a0_1 a0_2 a0_3 a0_4 a0_5 _ _ l0_6 _ _ l0_7 _ _ l0_8 _ _ l0_9 _ _ l1 w0_0 w0_1 w0_2 w0_3 w0_4 w0_5 r0_6 m0_6 g0_6 o0_6 r0_7 m0_7 g0_7 o0_7 r0_8 m0_8 g0_8 o0_8 r0_9 m0_9 g0_9 o0_9 r1 m1 g1 o1).mono fun e W' ⟨he, bel0⟩ => ?_
  have bel : Below W.heap.size W W' := bel0
  subst he
  exact ⟨_, rfl, _, _, _, [], _, [], hW', trodAll_mk1 (shut_bool Try.underlying4 _), (trodAll_cons_mk (Below.trod laidOut (by kernel_rfl) (of_decide_eq_true (by kernel_rfl)) k0 bel lt0) (trodAll_cons_mk (Below.trod laidOut (by kernel_rfl) (of_decide_eq_true (by kernel_rfl)) k1 bel lt1) trodAll_mk0)), rfl, bel.frame _, fun h => by cases h⟩
theorem over : Rows.capsuleBackRow.holds Try.pinned (OpenSpec.ofChange Rows.capsuleBackSpec) :=
  OpenClaim.holds_of_wide 6 Try.f6 rfl rfl rfl rfl rfl rfl rfl ⟨rfl, rfl, rfl, rfl, rfl⟩ rfl rfl rfl rfl rfl (by kernel_rfl) Try.func6 (by kernel_rfl)
    (of_decide_eq_true (by kernel_rfl)) (by unfold Func.isWrapper; first | (rw [if_pos (by decide +kernel)]; kernel_rfl) | (rw [if_neg (by decide +kernel)]; exact ⟨rfl, rfl⟩))
    (fun os started H enc _ => lifted os started H enc)
theorem proved : Rows.CapsuleBackSaid := over
end Go.Proofs.Ytgacaemgmgoiaaa.capsuleBack
namespace Go.Proofs.Ytgacaemgmgoiaaa
/-- The row, under a short name, for the claim. -/
theorem capsuleBack_holds : Rows.CapsuleBackSaid := capsuleBack.proved
#print axioms capsuleBack_holds
end Go.Proofs.Ytgacaemgmgoiaaa
