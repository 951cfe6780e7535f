import Derived.Test.YtgacaemgmgoiaaaCapG

/- The law CapsuleGets, in the form of its row. -/
namespace Go.Proofs.Ytgacaemgmgoiaaa.Pure
open Go.RowKit Go.Proofs.Ytgacaemgmgoiaaa.QLeaf Go.Proofs.YtgacaemgmgoiaaaW.PrintWords Go.Proofs.YtgacaemgmgoiaaaW.PrintLast Go.Proofs.YtgacaemgmgoiaaaW.Cm Go.Proofs.YtgacaemgmgoiaaaW.Rg
set_option linter.unusedVariables false
set_option linter.unusedSimpArgs false
theorem row_of {W : World} {A : Option Addr} {c : Nat} {l : List Int} (h : ReadsInt W .u8 A l.length l) (hc : l.length ≤ c) : Row 0 W (.slice A l.length c) l := Row.of_C (Kd.C_of_reads (d := (0 : Int)) (h1 := fun _ => rfl) h) hc
theorem CapsuleGets (W : World) (A0 : Option Addr) (c0 : Nat) (l0 : List Int) (r0 : ReadsInt W .u8 A0 l0.length l0) (m0 : l0.length ≤ maxLen) (g0 : ∀ x ∈ l0, (Lit.int .u8 x).wf = true) (o0 : l0.length ≤ c0) : Calls Try.prog 5 #[.slice A0 l0.length c0] W fun e W' => e = .returned (.bool true) ∧ Below W.heap.size W W' :=
  (gets_calls l0 (byt_wf g0) _ W (row_of r0 o0)).mono fun e w' ⟨u, he, hu, hB⟩ => ⟨by rw [he, show u = .bool true from hu], hB⟩
end Go.Proofs.Ytgacaemgmgoiaaa.Pure
