import Derived.Test.YtgacaemgmgoiaaaLemCapsuleApart
/- The plain law of CapsuleApart: capsules of which anything is not the same have unlike words, or an unlike signature. -/
namespace Go.Proofs.Ytgacaemgmgoiaaa.Pure
open Go.RowKit Go.Proofs.Ytgacaemgmgoiaaa.QCapsuleApart Go.Proofs.YtgacaemgmgoiaaaW.PrintWords Go.Proofs.YtgacaemgmgoiaaaW.PrintLast Go.Proofs.YtgacaemgmgoiaaaW.Cm
set_option linter.unusedVariables false
set_option linter.unusedSimpArgs false
theorem bigF (c : Cp) : liverylaw23_big.f c.fr c.tt c.tid c.key c.lo c.hi c.pub c.ct c.sl c.sig = some (decide (c.pub.length > 9000 ∨ c.ct.length > 9000 ∨ c.sl.length > 9000 ∨ c.sig.length > 9000)) := by
  unfold liverylaw23_big.f
  by_cases h1 : c.pub.length > 9000
  · rw [if_pos (by omega)]; simp [h1]
  rw [if_neg (by omega)]
  by_cases h2 : c.ct.length > 9000
  · rw [if_pos (by omega)]; simp [h2]
  rw [if_neg (by omega)]
  by_cases h3 : c.sl.length > 9000
  · rw [if_pos (by omega)]; simp [h3]
  rw [if_neg (by omega)]
  by_cases h4 : c.sig.length > 9000
  · simp [h4]; omega
  · simp [h1, h2, h3, h4]; omega
theorem j0_live (c d : Cp) (k : Nat) (hk : 50 < k) : liverylaw23_CapsuleApart.j0 k true c.fr c.tt c.tid c.key c.lo c.hi c.pub c.ct c.sl c.sig d.fr d.tt d.tid d.key d.lo d.hi d.pub d.ct d.sl d.sig = some true := by
  obtain ⟨k, rfl⟩ : ∃ m, k = m + 1 := ⟨k - 1, by omega⟩
  simp only [liverylaw23_CapsuleApart.j0]
  rw [if_pos trivial, live_eq k (by omega)]; rfl
theorem apart (c d : Cp) (hc : c.Ok) (hd : d.Ok) : liverylaw23_CapsuleApart.f 20000 c.fr c.tt c.tid c.key c.lo c.hi c.pub c.ct c.sl c.sig d.fr d.tt d.tid d.key d.lo d.hi d.pub d.ct d.sl d.sig = some true := by
  have jl := j0_live c d 20000 (by omega)
  unfold liverylaw23_CapsuleApart.f
  rw [live_eq _ (by omega), bigF, bigF, refMay, refMay]
  simp only [Option.bind_some, if_true, decide_eq_true_eq]
  by_cases b1 : c.pub.length > 9000 ∨ c.ct.length > 9000 ∨ c.sl.length > 9000 ∨ c.sig.length > 9000
  · rw [if_pos b1]; exact jl
  rw [if_neg b1]
  by_cases b2 : d.pub.length > 9000 ∨ d.ct.length > 9000 ∨ d.sl.length > 9000 ∨ d.sig.length > 9000
  · rw [if_pos b2]; exact jl
  rw [if_neg b2]
  by_cases m1 : c.May
  case neg => rw [if_neg m1]; exact jl
  rw [if_pos m1]
  by_cases m2 : d.May
  case neg => rw [decide_eq_false m2]; exact jl
  rw [decide_eq_true m2, show (20000 : Nat) = 19999 + 1 from rfl]
  simp only [liverylaw23_CapsuleApart.j0, Bool.not_true, Bool.false_eq_true, if_false]
  rw [words_eq c hc (by omega) _ (by omega), words_eq d hd (by omega) _ (by omega), if_pos m1.1, if_pos m2.1, capSame c d hc hd (by omega) (by omega) (by omega) (by omega) _ (by omega)]
  simp only [Option.bind_some]
  rw [refEqual _ _ (byt_app title_byt (inner_byt c hc)) (byt_app title_byt (inner_byt d hd)), refEqual _ _ hc.sig hd.sig]
  rw [if_pos (by simp [title]; omega)]
  simp only [Option.bind_some, decide_eq_true_eq]
  by_cases hw : title ++ c.inner = title ++ d.inner
  · rw [if_pos hw]
    obtain ⟨e1, e2, e3, e4, e5, e6, e7, e8, e9⟩ := inner_inj c d hc hd m1.1 m2.1 (List.append_cancel_left hw)
    by_cases hs : c.sig = d.sig
    · have e : c = d := by cases c; cases d; simp only at e1 e2 e3 e4 e5 e6 e7 e8 e9 hs; subst e1 e2 e3 e4 e5 e6 e7 e8 e9 hs; rfl
      simp [hs, e]
    · have e : ¬ c = d := fun e => hs (by rw [e])
      simp [hs, e]
  · rw [if_neg hw]
    have e : ¬ c = d := fun e => hw (by rw [e])
    simp [e]
theorem CapsuleApart : ∀ (a0_0 : Int) (a0_1 : Int) (a0_2 : Int) (a0_3 : Int) (a0_4 : Int) (a0_5 : Int) (l0_6 : List Int) (l0_7 : List Int) (l0_8 : List Int) (l0_9 : List Int) (a1_0 : Int) (a1_1 : Int) (a1_2 : Int) (a1_3 : Int) (a1_4 : Int) (a1_5 : Int) (l1_6 : List Int) (l1_7 : List Int) (l1_8 : List Int) (l1_9 : List Int), (Lit.int .i64 a0_0).wf = true → (Lit.int .i64 a0_1).wf = true → (Lit.int .u32 a0_2).wf = true → (Lit.int .u32 a0_3).wf = true → (Lit.int .u64 a0_4).wf = true → (Lit.int .u64 a0_5).wf = true → l0_6.length ≤ maxLen → (∀ x ∈ l0_6, (Lit.int .u8 x).wf = true) → l0_7.length ≤ maxLen → (∀ x ∈ l0_7, (Lit.int .u8 x).wf = true) → l0_8.length ≤ maxLen → (∀ x ∈ l0_8, (Lit.int .u8 x).wf = true) → l0_9.length ≤ maxLen → (∀ x ∈ l0_9, (Lit.int .u8 x).wf = true) → (Lit.int .i64 a1_0).wf = true → (Lit.int .i64 a1_1).wf = true → (Lit.int .u32 a1_2).wf = true → (Lit.int .u32 a1_3).wf = true → (Lit.int .u64 a1_4).wf = true → (Lit.int .u64 a1_5).wf = true → l1_6.length ≤ maxLen → (∀ x ∈ l1_6, (Lit.int .u8 x).wf = true) → l1_7.length ≤ maxLen → (∀ x ∈ l1_7, (Lit.int .u8 x).wf = true) → l1_8.length ≤ maxLen → (∀ x ∈ l1_8, (Lit.int .u8 x).wf = true) → l1_9.length ≤ maxLen → (∀ x ∈ l1_9, (Lit.int .u8 x).wf = true) → ∃ k, liverylaw23_CapsuleApart.f k a0_0 a0_1 a0_2 a0_3 a0_4 a0_5 l0_6 l0_7 l0_8 l0_9 a1_0 a1_1 a1_2 a1_3 a1_4 a1_5 l1_6 l1_7 l1_8 l1_9 = some true := by
  intro a0_0 a0_1 a0_2 a0_3 a0_4 a0_5 l0_6 l0_7 l0_8 l0_9 a1_0 a1_1 a1_2 a1_3 a1_4 a1_5 l1_6 l1_7 l1_8 l1_9 w0 w1 w2 w3 w4 w5 _ g6 _ g7 _ g8 _ g9 v0 v1 v2 v3 v4 v5 _ h6 _ h7 _ h8 _ h9
  exact ⟨20000, apart ⟨a0_0, a0_1, a0_2, a0_3, a0_4, a0_5, l0_6, l0_7, l0_8, l0_9⟩ ⟨a1_0, a1_1, a1_2, a1_3, a1_4, a1_5, l1_6, l1_7, l1_8, l1_9⟩ ⟨wf_i64 w0, wf_i64 w1, wf_u32 w2, wf_u32 w3, wf_u64 w4, wf_u64 w5, byt_wf g6, byt_wf g7, byt_wf g8, byt_wf g9⟩ ⟨wf_i64 v0, wf_i64 v1, wf_u32 v2, wf_u32 v3, wf_u64 v4, wf_u64 v5, byt_wf h6, byt_wf h7, byt_wf h8, byt_wf h9⟩⟩
end Go.Proofs.Ytgacaemgmgoiaaa.Pure
