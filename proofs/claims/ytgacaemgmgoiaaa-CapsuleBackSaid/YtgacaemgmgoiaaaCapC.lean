import Derived.Test.YtgacaemgmgoiaaaAg
import Derived.Test.YtgacaemgmgoiaaaLemQ
import Derived.Test.YtgacaemgmgoiaaaCapS

/- What the laws of Get use. -/
namespace Go.Proofs.Ytgacaemgmgoiaaa.QLeaf
open Go.RowKit Go.Proofs.YtgacaemgmgoiaaaW.PrintWords Go.Proofs.YtgacaemgmgoiaaaW.PrintLast Go.Proofs.YtgacaemgmgoiaaaW.PrintMore Go.Proofs.YtgacaemgmgoiaaaW.Cm Go.Proofs.YtgacaemgmgoiaaaW.Rg
set_option linter.unusedVariables false
set_option linter.unusedSimpArgs false
theorem refJoin_own (l : List (List Int)) (hx : l.length < 1000000) (hs : l.flatten.length < 140737488355328) (v : Value) (w : World) (hv : RowsB w v l) : Ret 20 #[v] w (isOwnR w.heap.size l.flatten) := by
  obtain ⟨A, c, rfl, hl, hC⟩ := hv
  exact (liveryref01_Join.calls (l.length + 1) A c l l.flatten w hC hl (refJoin_eq l hx hs _ (by omega))).mono fun e w' ⟨v, he, hR, hB⟩ => ⟨v, he, isOwnR.of hR, hB⟩
def isCapB (B : Nat) (c : Cp) : Value → World → Prop := fun v w => CapV B w v c
theorem CapV.keep {B : Nat} {w w' : World} {v : Value} {c : Cp} (h : CapV B w v c) (hk : Keep8 w w') : CapV B w' v c := by
  obtain ⟨v6, v7, v8, v9, h1, r6, r7, r8, r9⟩ := h
  exact ⟨v6, v7, v8, v9, h1, r6.keep hk, r7.keep hk, r8.keep hk, r9.keep hk⟩
theorem CapV.lower {B B' : Nat} {w : World} {v : Value} {c : Cp} (h : CapV B w v c) (hB : B' ≤ B) : CapV B' w v c := by
  obtain ⟨v6, v7, v8, v9, h1, r6, r7, r8, r9⟩ := h
  exact ⟨v6, v7, v8, v9, h1, r6.lower hB, r7.lower hB, r8.lower hB, r9.lower hB⟩
theorem sr_CapB (S : Nat → Prop) (B : Nat) (c : Cp) : StbR S (isCapB B c) := fun _ _ _ hm h => CapV.keep h hm.keep
theorem zeroCp_ok : zeroCp.Ok := by
  constructor <;> simp [zeroCp, Byt]
theorem Res.ok {l : List Int} {c : Cp} {e : Int} (h : Res l c e) : c.Ok := by
  rcases h with ⟨_, _, h, _⟩ | ⟨_, h, _⟩
  · exact h.ok
  · rw [h]; exact zeroCp_ok

end Go.Proofs.Ytgacaemgmgoiaaa.QLeaf
