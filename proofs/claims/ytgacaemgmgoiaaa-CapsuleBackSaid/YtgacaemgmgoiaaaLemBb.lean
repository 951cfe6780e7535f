import Derived.Test.YtgacaemgmgoiaaaLemA
import Derived.Test.YtgacaemgmgoiaaaQLeafx10
import Derived.Test.YtgacaemgmgoiaaaQLeafx14

/- Capsules: their parts, and what the printed leaf functions say of them, in plain lists (no program in sight). -/
namespace Go.Proofs.Ytgacaemgmgoiaaa.QLeaf
open Go.RowKit Go.Proofs.YtgacaemgmgoiaaaW.PrintWords Go.Proofs.YtgacaemgmgoiaaaW.PrintLast Go.Proofs.YtgacaemgmgoiaaaW.PrintMore Go.Proofs.YtgacaemgmgoiaaaW.Cm
set_option linter.unusedVariables false
set_option linter.unusedSimpArgs false
/-- A capsule's parts. -/
structure Cp where
  fr : Int
  tt : Int
  tid : Int
  key : Int
  lo : Int
  hi : Int
  pub : List Int
  ct : List Int
  sl : List Int
  sig : List Int
/-- Each part is of its kind. -/
structure Cp.Ok (c : Cp) : Prop where
  fr : -9223372036854775808 ≤ c.fr ∧ c.fr ≤ 9223372036854775807
  tt : -9223372036854775808 ≤ c.tt ∧ c.tt ≤ 9223372036854775807
  tid : 0 ≤ c.tid ∧ c.tid < 4294967296
  key : 0 ≤ c.key ∧ c.key < 4294967296
  lo : 0 ≤ c.lo ∧ c.lo < 18446744073709551616
  hi : 0 ≤ c.hi ∧ c.hi < 18446744073709551616
  pub : Byt c.pub
  ct : Byt c.ct
  sl : Byt c.sl
  sig : Byt c.sig
def Cp.Spoken (c : Cp) : Prop := 0 ≤ c.fr ∧ c.fr < 16 ∧ 0 ≤ c.tt ∧ c.tt < 16 ∧ c.fr ≠ c.tt ∧ c.lo < c.hi ∧ c.hi ≤ 1152921504606846976 ∧ 1 ≤ c.pub.length ∧ c.pub.length ≤ 68
def Cp.Worded (c : Cp) : Prop := c.Spoken ∧ c.ct.length = 1088 ∧ 33 ≤ c.sl.length ∧ c.sl.length ≤ 288
def Cp.May (c : Cp) : Prop := c.Worded ∧ c.sig.length = 3309
noncomputable instance (c d : Cp) : Decidable (c = d) := Classical.propDecidable _
instance (c : Cp) : Decidable c.Spoken := by unfold Cp.Spoken; infer_instance
instance (c : Cp) : Decidable c.Worded := by unfold Cp.Worded; infer_instance
instance (c : Cp) : Decidable c.May := by unfold Cp.May; infer_instance
def Cp.said (c : Cp) : List Int := [c.fr % 256, c.tt % 256] ++ (be 4 c.tid ++ (be 4 c.key ++ (be 8 c.lo ++ (be 8 c.hi ++ (be 2 c.pub.length ++ c.pub)))))
def Cp.inner (c : Cp) : List Int := c.said ++ (c.ct ++ (be 2 c.sl.length ++ c.sl))
def title : List Int := [108, 105, 118, 101, 114, 121, 32, 99, 97, 112, 115, 117, 108, 101]
theorem may1 (lo hi : Int) (k : Nat) (hk : 1 < k) : span_May.f k [(⟨lo, hi⟩ : S25)] = some (decide (lo < hi ∧ hi ≤ 1152921504606846976)) := by
  obtain ⟨k, rfl⟩ : ∃ m, k = m + 2 := ⟨k - 2, by omega⟩
  by_cases h1 : lo < hi
  · by_cases h2 : hi ≤ 1152921504606846976
    · simp [span_May.f, span_May.l0, span_one.f, rd_T25, h1, h2, wrap64]
    · simp [span_May.f, span_May.l0, span_one.f, rd_T25, h1, h2, wrap64]
  · simp [span_May.f, span_May.l0, span_one.f, rd_T25, h1, wrap64]
theorem spoken_eq (c : Cp) (k : Nat) (hk : 1 < k) : capsule_spoken.f k c.fr c.tt c.tid c.key c.lo c.hi c.pub c.ct c.sl c.sig = some (decide c.Spoken) := by
  unfold capsule_spoken.f capsule_spoken_1.f Cp.Spoken
  rw [may1 _ _ k hk]
  by_cases h1 : 0 ≤ c.fr
  case neg => simp [h1]
  by_cases h2 : c.fr < 16
  case neg => simp [h1, h2]
  by_cases h3 : 0 ≤ c.tt
  case neg => simp [h1, h2, h3]
  by_cases h4 : c.tt < 16
  case neg => simp [h1, h2, h3, h4]
  by_cases h5 : c.fr = c.tt
  · have h1 := h3; simp [h2, h3, h4, h5]
  by_cases h6 : c.lo < c.hi ∧ c.hi ≤ 1152921504606846976
  case neg => simp [h1, h2, h3, h4, h5, h6]; omega
  by_cases h8 : 1 ≤ c.pub.length
  case neg => simp [h1, h2, h3, h4, h5, h6, h8]; intro h; omega
  by_cases h9 : c.pub.length ≤ 68
  · simp [h1, h2, h3, h4, h5, h6, h8, h9, show (1 : Int) ≤ (c.pub.length : Int) by omega]; omega
  · simp [h1, h2, h3, h4, h5, h6, h8, h9, show (1 : Int) ≤ (c.pub.length : Int) by omega]; omega
theorem u16wrap {n : Int} (h0 : 0 ≤ n) (h1 : n < 65536) : IntKind.u16.wrap n = n := by simp [IntKind.wrap, IntKind.signed, IntKind.bits]; omega
theorem said_length (c : Cp) : c.said.length = 28 + c.pub.length := by simp [Cp.said, be_length]; omega
theorem inner_length (c : Cp) : c.inner.length = 30 + c.pub.length + c.ct.length + c.sl.length := by simp [Cp.inner, said_length, be_length]; omega
theorem worded_eq (c : Cp) (hs2 : c.sl.length < 65536) (k : Nat) (hk : 1 < k) : capsule_worded.f k c.fr c.tt c.tid c.key c.lo c.hi c.pub c.ct c.sl c.sig = some (decide c.Worded) := by
  unfold capsule_worded.f Cp.Worded
  rw [spoken_eq c k hk, w64 (by omega) (by omega)]
  by_cases h1 : c.Spoken
  case neg => simp [h1]
  by_cases h2 : c.ct.length = 1088
  case neg => simp [h1, h2]; omega
  by_cases h3 : 33 ≤ c.sl.length
  case neg => simp [h1, h2, h3]; omega
  simp [h1, h2, h3, show (1 : Int) ≤ (c.sl.length : Int) - 32 by omega]
  omega
/-- What is said, and all behind it: told apart by its parts. -/
theorem inner_inj (c d : Cp) (hc : c.Ok) (hd : d.Ok) (hC : c.Worded) (hD : d.Worded) (h : c.inner = d.inner) : c.fr = d.fr ∧ c.tt = d.tt ∧ c.tid = d.tid ∧ c.key = d.key ∧ c.lo = d.lo ∧ c.hi = d.hi ∧ c.pub = d.pub ∧ c.ct = d.ct ∧ c.sl = d.sl := by
  obtain ⟨⟨a1, a2, a3, a4, a5, a6, a7, a8, a9⟩, a10, a11, a12⟩ := hC
  obtain ⟨⟨b1, b2, b3, b4, b5, b6, b7, b8, b9⟩, b10, b11, b12⟩ := hD
  simp only [Cp.inner, Cp.said, List.append_assoc] at h
  obtain ⟨e0, h⟩ := List.append_inj h rfl
  obtain ⟨e1, h⟩ := List.append_inj h (by simp [be_length])
  obtain ⟨e2, h⟩ := List.append_inj h (by simp [be_length])
  obtain ⟨e3, h⟩ := List.append_inj h (by simp [be_length])
  obtain ⟨e4, h⟩ := List.append_inj h (by simp [be_length])
  obtain ⟨e5, h⟩ := List.append_inj h (by simp [be_length])
  have n5 := be_inj (m := 2) (by omega) (by omega) (by omega) (by omega) e5
  obtain ⟨e6, h⟩ := List.append_inj h (by omega)
  obtain ⟨e7, h⟩ := List.append_inj h (by omega)
  obtain ⟨e8, e9⟩ := List.append_inj h (by simp [be_length])
  simp only [List.cons.injEq, and_true] at e0
  refine ⟨by omega, by omega, be_inj hc.tid.1 (by simpa using hc.tid.2) hd.tid.1 (by simpa using hd.tid.2) e1, be_inj hc.key.1 (by simpa using hc.key.2) hd.key.1 (by simpa using hd.key.2) e2, be_inj hc.lo.1 (by simpa using hc.lo.2) hd.lo.1 (by simpa using hd.lo.2) e3, be_inj hc.hi.1 (by simpa using hc.hi.2) hd.hi.1 (by simpa using hd.hi.2) e4, e6, e7, e9⟩
theorem inner_byt (c : Cp) (hc : c.Ok) : Byt c.inner := by
  have hs : Byt c.said := byt_app (byt_cons (mod_byte _).1 (mod_byte _).2 (byt_cons (mod_byte _).1 (mod_byte _).2 byt_nil)) (byt_app (be_byt _ _) (byt_app (be_byt _ _) (byt_app (be_byt _ _) (byt_app (be_byt _ _) (byt_app (be_byt _ _) hc.pub)))))
  exact byt_app hs (byt_app hc.ct (byt_app (be_byt _ _) hc.sl))
theorem title_byt : Byt title := by
  intro x hx
  simp only [title, List.mem_cons, List.not_mem_nil, or_false] at hx
  omega
end Go.Proofs.Ytgacaemgmgoiaaa.QLeaf
