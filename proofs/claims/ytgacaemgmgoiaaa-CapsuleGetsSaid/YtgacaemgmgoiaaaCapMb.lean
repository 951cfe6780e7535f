import Derived.Test.YtgacaemgmgoiaaaCap2b
import Derived.Test.YtgacaemgmgoiaaaLemMb

/- Contracts of capsule's functions and of the document's, for any capsule, in plain lists. -/
namespace Go.Proofs.Ytgacaemgmgoiaaa.QLeaf
open Go.RowKit Go.Proofs.YtgacaemgmgoiaaaW.PrintWords Go.Proofs.YtgacaemgmgoiaaaW.PrintLast Go.Proofs.YtgacaemgmgoiaaaW.PrintMore Go.Proofs.YtgacaemgmgoiaaaW.Cm Go.Proofs.YtgacaemgmgoiaaaW.Rg
set_option linter.unusedVariables false
set_option linter.unusedSimpArgs false

theorem refSpoken_calls (c : Cp) (b : Bool) (hb : decide c.Spoken = b) (v : Value) (w : World) (hv : CapV 0 w v c) : Ret 31 #[v] w (isV (.bool b)) := by
  obtain ⟨_, _, _, _, rfl, ⟨A6, c6, rfl, l6, r6, _⟩, ⟨A7, c7, rfl, l7, r7, _⟩, ⟨A8, c8, rfl, l8, r8, _⟩, ⟨A9, c9, rfl, l9, r9, _⟩⟩ := hv
  exact (liveryref23_spoken.calls _ _ _ _ _ _ _ _ _ _ _ _ _ _ _ _ _ _ b w r6 l6 r7 l7 r8 l8 r9 l9 (by rw [refSpoken c, hb])).mono fun e w' ⟨he, hB⟩ => ⟨_, he, rfl, hB⟩

theorem refWorded_calls (c : Cp) (b : Bool) (hb : decide c.Worded = b) (v : Value) (w : World) (hv : CapV 0 w v c) : Ret 24 #[v] w (isV (.bool b)) := by
  obtain ⟨_, _, _, _, rfl, ⟨A6, c6, rfl, l6, r6, _⟩, ⟨A7, c7, rfl, l7, r7, _⟩, ⟨A8, c8, rfl, l8, r8, _⟩, ⟨A9, c9, rfl, l9, r9, _⟩⟩ := hv
  exact (liveryref23_worded.calls _ _ _ _ _ _ _ _ _ _ _ _ _ _ _ _ _ _ b w r6 l6 r7 l7 r8 l8 r9 l9 (by rw [refWorded c, hb])).mono fun e w' ⟨he, hB⟩ => ⟨_, he, rfl, hB⟩

theorem refMay_calls (c : Cp) (b : Bool) (hb : decide c.May = b) (v : Value) (w : World) (hv : CapV 0 w v c) : Ret 9 #[v] w (isV (.bool b)) := by
  obtain ⟨_, _, _, _, rfl, ⟨A6, c6, rfl, l6, r6, _⟩, ⟨A7, c7, rfl, l7, r7, _⟩, ⟨A8, c8, rfl, l8, r8, _⟩, ⟨A9, c9, rfl, l9, r9, _⟩⟩ := hv
  exact (liveryref23_May.calls _ _ _ _ _ _ _ _ _ _ _ _ _ _ _ _ _ _ b w r6 l6 r7 l7 r8 l8 r9 l9 (by rw [refMay c, hb])).mono fun e w' ⟨he, hB⟩ => ⟨_, he, rfl, hB⟩

end Go.Proofs.Ytgacaemgmgoiaaa.QLeaf
