import Derived.Test.YtgacaemgmgoiaaaLemBb
import Derived.Test.YtgacaemgmgoiaaaQLeafx12

/- What the document's tests say of a capsule, in plain lists. -/
namespace Go.Proofs.Ytgacaemgmgoiaaa.QLeaf
open Go.RowKit Go.Proofs.YtgacaemgmgoiaaaW.PrintWords Go.Proofs.YtgacaemgmgoiaaaW.PrintLast Go.Proofs.YtgacaemgmgoiaaaW.PrintMore Go.Proofs.YtgacaemgmgoiaaaW.Cm
set_option linter.unusedVariables false
set_option linter.unusedSimpArgs false
theorem refSpoken (c : Cp) : liveryref23_spoken.f c.fr c.tt c.tid c.key c.lo c.hi c.pub c.ct c.sl c.sig = some (decide c.Spoken) := by
  unfold liveryref23_spoken.f liveryref19_One.f Cp.Spoken
  by_cases h1 : 0 ≤ c.fr
  case neg => simp [h1]
  by_cases h2 : c.fr < 16
  case neg => simp [h1, h2]
  by_cases h3 : 0 ≤ c.tt
  case neg => simp [h1, h2, h3]
  by_cases h4 : c.tt < 16
  case neg => simp [h1, h2, h3, h4]
  by_cases h5 : c.fr = c.tt
  · have h1 := h3; simp [h2, h3, h4, h5]
  by_cases h6 : c.lo < c.hi
  case neg => simp [h1, h2, h3, h4, h5, h6]
  by_cases h7 : c.hi ≤ 1152921504606846976
  case neg => simp [h1, h2, h3, h4, h5, h6, h7]
  by_cases h8 : 1 ≤ c.pub.length
  case neg => simp [h1, h2, h3, h4, h5, h6, h7, h8]; intro h; omega
  by_cases h9 : c.pub.length ≤ 68
  · simp [h1, h2, h3, h4, h5, h6, h7, h8, h9, show (1 : Int) ≤ (c.pub.length : Int) by omega]; omega
  · simp [h1, h2, h3, h4, h5, h6, h7, h8, h9, show (1 : Int) ≤ (c.pub.length : Int) by omega]; omega
theorem refWorded (c : Cp) : liveryref23_worded.f c.fr c.tt c.tid c.key c.lo c.hi c.pub c.ct c.sl c.sig = some (decide c.Worded) := by
  unfold liveryref23_worded.f Cp.Worded
  rw [refSpoken c]
  by_cases h1 : c.Spoken
  case neg => simp [h1]
  by_cases h2 : c.ct.length = 1088
  case neg => simp [h1, h2]; omega
  by_cases h3 : 33 ≤ c.sl.length
  case neg => simp [h1, h2, h3]; omega
  simp [h1, h2, h3, show (33 : Int) ≤ (c.sl.length : Int) by omega]
  omega
theorem refMay (c : Cp) : liveryref23_May.f c.fr c.tt c.tid c.key c.lo c.hi c.pub c.ct c.sl c.sig = some (decide c.May) := by
  unfold liveryref23_May.f Cp.May
  rw [refWorded c]
  by_cases h1 : c.Worded
  case neg => simp [h1]
  by_cases h2 : c.sig.length = 3309
  · simp [h1, h2]
  · simp [h1, h2]; omega
end Go.Proofs.Ytgacaemgmgoiaaa.QLeaf
