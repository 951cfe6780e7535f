import Derived.Test.YtgacaemgmgoiaaaCm
import Derived.Test.YtgacaemgmgoiaaaQCapsuleApartx9
/- What the printed functions of capsule's law come to, in plain lists (no program in sight). -/
namespace Go.Proofs.Ytgacaemgmgoiaaa.QCapsuleApart
open Go.RowKit Go.Proofs.YtgacaemgmgoiaaaW.PrintWords Go.Proofs.YtgacaemgmgoiaaaW.PrintLast Go.Proofs.YtgacaemgmgoiaaaW.PrintMore Go.Proofs.YtgacaemgmgoiaaaW.Cm
set_option linter.unusedVariables false
set_option linter.unusedSimpArgs false
theorem rdL {x : List (List Int)} {i : Nat} (h : i < x.length) : rd_L3 x (i : Int) = x[i] := by simp [rd_L3, h]
theorem join_l1 (x : List (List Int)) (hx : x.length < 1000000) : ∀ (d i : Nat) (acc : List Int) (k : Nat), i + d = x.length → (acc ++ (x.drop i).flatten).length < 140737488355328 → d < k → octet_Join.l1 k acc x (x.length : Int) (i : Int) = some (acc ++ (x.drop i).flatten)
  | _, _, _, 0, _, _, hk => by omega
  | 0, i, acc, k + 1, h, _, _ => by
    simp only [octet_Join.l1]
    rw [if_neg (by omega), List.drop_eq_nil_of_le (by omega)]
    simp
  | d + 1, i, acc, k + 1, h, hs, hk => by
    have hi : i < x.length := by omega
    have e : x.drop i = x[i] :: x.drop (i + 1) := List.drop_eq_getElem_cons hi
    rw [e, List.flatten_cons, ← List.append_assoc] at hs
    have hs2 : acc.length + x[i].length < 140737488355328 := by rw [List.length_append, List.length_append] at hs; omega
    simp only [octet_Join.l1]
    rw [if_pos (by omega), if_pos (by omega), if_pos (by omega), rdL hi, if_pos hs2, w64 (by omega) (by omega), show ((i : Int) + 1) = ((i + 1 : Nat) : Int) by omega, join_l1 x hx d (i + 1) _ k (by omega) hs (by omega), e, List.flatten_cons, List.append_assoc]
theorem join_l0 {K : Nat} (x : List (List Int)) (hx : x.length < 1000000) (hs : x.flatten.length < 140737488355328) (hk2 : x.length < K) : ∀ (d i : Nat) (k : Nat), i + d = x.length → K + d < k → octet_Join.l0 k x ((x.take i).flatten.length : Int) x (x.length : Int) (i : Int) = some x.flatten
  | _, _, 0, _, hk => by omega
  | 0, i, k + 1, h, hk => by
    simp only [octet_Join.l0]
    rw [if_neg (by omega), List.take_of_length_le (by omega), if_pos (by omega), if_pos (by omega)]
    have := join_l1 x hx x.length 0 [] k (by omega) (by simpa using hs) (by omega)
    simpa using this
  | d + 1, i, k + 1, h, hk => by
    have hi : i < x.length := by omega
    have e : x.take (i + 1) = x.take i ++ [x[i]] := by rw [List.take_succ_eq_append_getElem hi]
    have hle : (x.take (i + 1)).flatten.length ≤ x.flatten.length := by
      conv => rhs; rw [← List.take_append_drop (i + 1) x]
      rw [List.flatten_append, List.length_append]; omega
    have e2 : (x.take (i + 1)).flatten.length = (x.take i).flatten.length + x[i].length := by rw [e, List.flatten_append, List.length_append]; simp
    simp only [octet_Join.l0]
    rw [if_pos (by omega), if_pos (by omega), if_pos (by omega), rdL hi, w64 (by omega) (by omega), w64 (n := (i : Int) + 1) (by omega) (by omega), show ((x.take i).flatten.length : Int) + (x[i].length : Int) = ((x.take (i + 1)).flatten.length : Int) by omega, show ((i : Int) + 1) = ((i + 1 : Nat) : Int) by omega]
    exact join_l0 x hx hs hk2 d (i + 1) k (by omega) (by omega)
/-- octet.Join: all parts, one behind the other. -/
theorem join_eq (x : List (List Int)) (hx : x.length < 1000000) (hs : x.flatten.length < 140737488355328) (k : Nat) (hk : 2 * x.length + 1 < k) : octet_Join.f k x = some x.flatten := by
  have := join_l0 x hx hs (K := x.length + 1) (by omega) x.length 0 k (by omega) (by omega)
  simpa [octet_Join.f] using this
theorem shr_eq (n : Int) (i : Nat) (hi : i < 8) : shr .u64 n (8 * (i : Int)) = n / 256 ^ i := by
  unfold shr
  rw [show (8 * (i : Int)).toNat = 8 * i by omega, show IntKind.u64.bits = 64 from rfl, Nat.min_eq_left (by omega), Int.pow_mul]
  rfl
theorem big_l0 (m : Nat) (hm : m ≤ 8) (n : Int) : ∀ (d i k : Nat), i + d = m → d < k → octet_big.l0 k n (m : Int) (List.replicate (m - i) 0 ++ be i n) (m : Int) (i : Int) = some (be m n)
  | _, _, 0, _, hk => by omega
  | 0, i, k + 1, h, _ => by
    simp only [octet_big.l0]
    rw [if_neg (by omega)]
    obtain rfl : i = m := by omega
    simp
  | d + 1, i, k + 1, h, hk => by
    simp only [octet_big.l0]
    have hl : (List.replicate (m - i) 0 ++ be i n).length = m := by rw [List.length_append, List.length_replicate, be_length]; omega
    rw [if_pos (by omega), w64 (n := 8 * (i : Int)) (by omega) (by omega), if_pos (by omega), w64 (n := (m : Int) - 1) (by omega) (by omega), w64 (n := (m : Int) - 1 - (i : Int)) (by omega) (by omega), if_pos (by omega), hl, if_pos (by omega), shr_eq n i (by omega), show ((m : Int) - 1 - (i : Int)).toNat = m - 1 - i by omega, be_set n m i (by omega), w64 (by omega) (by omega), show ((i : Int) + 1) = ((i + 1 : Nat) : Int) by omega]
    exact big_l0 m hm n d (i + 1) k (by omega) (by omega)
theorem big_eq (m : Nat) (hm : m ≤ 8) (n : Int) (k : Nat) (hk : m < k) : octet_big.f k n (m : Int) = some (be m n) := by
  have := big_l0 m hm n m 0 k (by omega) hk
  unfold octet_big.f
  rw [if_pos (by omega), if_pos (by omega)]
  simpa [be] using this
theorem u16_eq (n : Int) (h0 : 0 ≤ n) (h1 : n < 65536) (k : Nat) (hk : 2 < k) : octet_U16.f k n = some (be 2 n) := by
  have := big_eq 2 (by decide) n k hk
  unfold octet_U16.f
  rw [show IntKind.u64.wrap n = n by simp [IntKind.wrap, IntKind.signed, IntKind.bits]; omega]
  rw [show ((2 : Nat) : Int) = 2 from rfl] at this
  rw [this]; rfl
theorem u32_eq (n : Int) (h0 : 0 ≤ n) (h1 : n < 4294967296) (k : Nat) (hk : 4 < k) : octet_U32.f k n = some (be 4 n) := by
  have := big_eq 4 (by decide) n k hk
  unfold octet_U32.f
  rw [show IntKind.u64.wrap n = n by simp [IntKind.wrap, IntKind.signed, IntKind.bits]; omega]
  rw [show ((4 : Nat) : Int) = 4 from rfl] at this
  rw [this]; rfl
theorem u64_eq (n : Int) (k : Nat) (hk : 8 < k) : octet_U64.f k n = some (be 8 n) := by
  have := big_eq 8 (by decide) n k hk
  unfold octet_U64.f
  rw [show ((8 : Nat) : Int) = 8 from rfl] at this
  rw [this]; rfl
/-- A capsule's parts. -/
structure Cp where
  fr : Int
  tt : Int
  tid : Int
  key : Int
  lo : Int
  hi : Int
  pub : List Int
  ct : List Int
  sl : List Int
  sig : List Int
/-- Each part is of its kind. -/
structure Cp.Ok (c : Cp) : Prop where
  fr : -9223372036854775808 ≤ c.fr ∧ c.fr ≤ 9223372036854775807
  tt : -9223372036854775808 ≤ c.tt ∧ c.tt ≤ 9223372036854775807
  tid : 0 ≤ c.tid ∧ c.tid < 4294967296
  key : 0 ≤ c.key ∧ c.key < 4294967296
  lo : 0 ≤ c.lo ∧ c.lo < 18446744073709551616
  hi : 0 ≤ c.hi ∧ c.hi < 18446744073709551616
  pub : Byt c.pub
  ct : Byt c.ct
  sl : Byt c.sl
  sig : Byt c.sig
def Cp.Spoken (c : Cp) : Prop := 0 ≤ c.fr ∧ c.fr < 16 ∧ 0 ≤ c.tt ∧ c.tt < 16 ∧ c.fr ≠ c.tt ∧ c.lo < c.hi ∧ c.hi ≤ 1152921504606846976 ∧ 1 ≤ c.pub.length ∧ c.pub.length ≤ 68
def Cp.Worded (c : Cp) : Prop := c.Spoken ∧ c.ct.length = 1088 ∧ 33 ≤ c.sl.length ∧ c.sl.length ≤ 288
def Cp.May (c : Cp) : Prop := c.Worded ∧ c.sig.length = 3309
noncomputable instance (c d : Cp) : Decidable (c = d) := Classical.propDecidable _
instance (c : Cp) : Decidable c.Spoken := by unfold Cp.Spoken; infer_instance
instance (c : Cp) : Decidable c.Worded := by unfold Cp.Worded; infer_instance
instance (c : Cp) : Decidable c.May := by unfold Cp.May; infer_instance
def Cp.said (c : Cp) : List Int := [c.fr % 256, c.tt % 256] ++ (be 4 c.tid ++ (be 4 c.key ++ (be 8 c.lo ++ (be 8 c.hi ++ (be 2 c.pub.length ++ c.pub)))))
def Cp.inner (c : Cp) : List Int := c.said ++ (c.ct ++ (be 2 c.sl.length ++ c.sl))
def title : List Int := [108, 105, 118, 101, 114, 121, 32, 99, 97, 112, 115, 117, 108, 101]
theorem may1 (lo hi : Int) (k : Nat) (hk : 1 < k) : span_May.f k [(⟨lo, hi⟩ : S25)] = some (decide (lo < hi ∧ hi ≤ 1152921504606846976)) := by
  obtain ⟨k, rfl⟩ : ∃ m, k = m + 2 := ⟨k - 2, by omega⟩
  by_cases h1 : lo < hi
  · by_cases h2 : hi ≤ 1152921504606846976
    · simp [span_May.f, span_May.l0, span_one.f, rd_T25, h1, h2, wrap64]
    · simp [span_May.f, span_May.l0, span_one.f, rd_T25, h1, h2, wrap64]
  · simp [span_May.f, span_May.l0, span_one.f, rd_T25, h1, wrap64]
theorem spoken_eq (c : Cp) (k : Nat) (hk : 1 < k) : capsule_spoken.f k c.fr c.tt c.tid c.key c.lo c.hi c.pub c.ct c.sl c.sig = some (decide c.Spoken) := by
  unfold capsule_spoken.f capsule_spoken_1.f Cp.Spoken
  rw [may1 _ _ k hk]
  by_cases h1 : 0 ≤ c.fr
  case neg => simp [h1]
  by_cases h2 : c.fr < 16
  case neg => simp [h1, h2]
  by_cases h3 : 0 ≤ c.tt
  case neg => simp [h1, h2, h3]
  by_cases h4 : c.tt < 16
  case neg => simp [h1, h2, h3, h4]
  by_cases h5 : c.fr = c.tt
  · have h1 := h3; simp [h2, h3, h4, h5]
  by_cases h6 : c.lo < c.hi ∧ c.hi ≤ 1152921504606846976
  case neg => simp [h1, h2, h3, h4, h5, h6]; omega
  by_cases h8 : 1 ≤ c.pub.length
  case neg => simp [h1, h2, h3, h4, h5, h6, h8]; intro h; omega
  by_cases h9 : c.pub.length ≤ 68
  · simp [h1, h2, h3, h4, h5, h6, h8, h9, show (1 : Int) ≤ (c.pub.length : Int) by omega]; omega
  · simp [h1, h2, h3, h4, h5, h6, h8, h9, show (1 : Int) ≤ (c.pub.length : Int) by omega]; omega
theorem u16wrap {n : Int} (h0 : 0 ≤ n) (h1 : n < 65536) : IntKind.u16.wrap n = n := by simp [IntKind.wrap, IntKind.signed, IntKind.bits]; omega
theorem said_length (c : Cp) : c.said.length = 28 + c.pub.length := by simp [Cp.said, be_length]; omega
theorem said_eq (c : Cp) (ho : c.Ok) (hs : c.pub.length < 65536) (k : Nat) (hk : 20 < k) : capsule_said.f k c.fr c.tt c.tid c.key c.lo c.hi c.pub c.ct c.sl c.sig = some c.said := by
  unfold capsule_said.f
  rw [u32_eq _ ho.tid.1 ho.tid.2 k (by omega), u32_eq _ ho.key.1 ho.key.2 k (by omega), u64_eq _ k (by omega), u64_eq _ k (by omega), u16wrap (by omega) (by omega), u16_eq _ (by omega) (by omega) k (by omega)]
  simp only [Option.bind_some]
  rw [join_eq _ (by simp) (by simp [be_length]; omega) k (by simp; omega)]
  simp [Cp.said]
theorem inner_eq (c : Cp) (ho : c.Ok) (hs : c.pub.length < 65536) (hs2 : c.sl.length < 65536) (hs3 : c.ct.length < 65536) (k : Nat) (hk : 20 < k) : capsule_inner.f k c.fr c.tt c.tid c.key c.lo c.hi c.pub c.ct c.sl c.sig = some c.inner := by
  unfold capsule_inner.f
  rw [said_eq c ho hs k hk, u16wrap (by omega) (by omega), u16_eq _ (by omega) (by omega) k (by omega)]
  simp only [Option.bind_some]
  rw [join_eq _ (by simp) (by simp [be_length, said_length]; omega) k (by simp; omega)]
  simp [Cp.inner]
theorem worded_eq (c : Cp) (hs2 : c.sl.length < 65536) (k : Nat) (hk : 1 < k) : capsule_worded.f k c.fr c.tt c.tid c.key c.lo c.hi c.pub c.ct c.sl c.sig = some (decide c.Worded) := by
  unfold capsule_worded.f Cp.Worded
  rw [spoken_eq c k hk, w64 (by omega) (by omega)]
  by_cases h1 : c.Spoken
  case neg => simp [h1]
  by_cases h2 : c.ct.length = 1088
  case neg => simp [h1, h2]; omega
  by_cases h3 : 33 ≤ c.sl.length
  case neg => simp [h1, h2, h3]; omega
  simp [h1, h2, h3, show (1 : Int) ≤ (c.sl.length : Int) - 32 by omega]
  omega
theorem words_eq (c : Cp) (ho : c.Ok) (hs2 : c.sl.length < 65536) (k : Nat) (hk : 20 < k) : capsule_Words.f k c.fr c.tt c.tid c.key c.lo c.hi c.pub c.ct c.sl c.sig = some (if c.Worded then title ++ c.inner else []) := by
  unfold capsule_Words.f
  rw [worded_eq c hs2 k (by omega)]
  by_cases h : c.Worded
  · have h' := h
    obtain ⟨⟨_, _, _, _, _, _, _, _, h8⟩, h9, _⟩ := h'
    rw [inner_eq c ho (by omega) hs2 (by omega) k hk]
    simp only [h, decide_true, if_true, Option.bind_some]
    rw [join_eq _ (by simp) (by simp [Cp.inner, be_length, said_length]; omega) k (by simp; omega)]
    simp [title]
  · simp [h]
theorem same_l0 (l m : List Int) (hl : Byt l) (hm : Byt m) (he : l.length = m.length) (hx : l.length < 4611686018427387904) : ∀ (d i : Nat) (x : Int) (k : Nat), i + d = l.length → 0 ≤ x → x < 256 → d < k → octet_Same.l0 k l m x (l.length : Int) (i : Int) = some (decide (x = 0 ∧ l.drop i = m.drop i))
  | _, _, _, 0, _, _, _, hk => by omega
  | 0, i, x, k + 1, h, _, _, _ => by
    simp only [octet_Same.l0]
    rw [if_neg (by omega), List.drop_eq_nil_of_le (by omega), List.drop_eq_nil_of_le (by omega)]
    simp
    by_cases h : x = 0 <;> simp [h]
  | d + 1, i, x, k + 1, h, h0, h1, hk => by
    have hi : i < l.length := by omega
    have hj : i < m.length := by omega
    have ea : rd l (i : Int) = l[i] := by simp [rd, hi]
    have eb : rd m (i : Int) = m[i] := by simp [rd, hj]
    have ba := hl l[i] (List.getElem_mem hi)
    have bb := hm m[i] (List.getElem_mem hj)
    obtain ⟨c0, c1, c2⟩ := or_xor h0 h1 ba.1 ba.2 bb.1 bb.2
    simp only [octet_Same.l0]
    rw [if_pos (by omega), if_pos (by omega), if_pos (by omega), if_pos (by omega), w64 (by omega) (by omega), ea, eb, show ((i : Int) + 1) = ((i + 1 : Nat) : Int) by omega, same_l0 l m hl hm he hx d (i + 1) _ k (by omega) c0 c1 (by omega)]
    rw [List.drop_eq_getElem_cons hi, List.drop_eq_getElem_cons hj]
    congr 1
    rw [decide_eq_decide, c2, List.cons.injEq, and_assoc]
theorem same_eq (l m : List Int) (hl : Byt l) (hm : Byt m) (hx : l.length < 4611686018427387904) (k : Nat) (hk : l.length < k) : octet_Same.f k l m = some (decide (l = m)) := by
  unfold octet_Same.f
  by_cases he : l.length = m.length
  · rw [if_pos (by omega)]
    have := same_l0 l m hl hm he hx l.length 0 0 k (by omega) (by omega) (by omega) hk
    simpa using this
  · rw [if_neg (by omega), decide_eq_false (fun e => he (by rw [e]))]
theorem refEqual (l m : List Int) (hl : Byt l) (hm : Byt m) : liveryref01_Equal.f l m = some (decide (l = m)) := by
  unfold liveryref01_Equal.f
  rw [equal_strs hl hm]
theorem refSpoken (c : Cp) : liveryref23_spoken.f c.fr c.tt c.tid c.key c.lo c.hi c.pub c.ct c.sl c.sig = some (decide c.Spoken) := by
  unfold liveryref23_spoken.f liveryref19_One.f Cp.Spoken
  by_cases h1 : 0 ≤ c.fr
  case neg => simp [h1]
  by_cases h2 : c.fr < 16
  case neg => simp [h1, h2]
  by_cases h3 : 0 ≤ c.tt
  case neg => simp [h1, h2, h3]
  by_cases h4 : c.tt < 16
  case neg => simp [h1, h2, h3, h4]
  by_cases h5 : c.fr = c.tt
  · have h1 := h3; simp [h2, h3, h4, h5]
  by_cases h6 : c.lo < c.hi
  case neg => simp [h1, h2, h3, h4, h5, h6]
  by_cases h7 : c.hi ≤ 1152921504606846976
  case neg => simp [h1, h2, h3, h4, h5, h6, h7]
  by_cases h8 : 1 ≤ c.pub.length
  case neg => simp [h1, h2, h3, h4, h5, h6, h7, h8]; intro h; omega
  by_cases h9 : c.pub.length ≤ 68
  · simp [h1, h2, h3, h4, h5, h6, h7, h8, h9, show (1 : Int) ≤ (c.pub.length : Int) by omega]; omega
  · simp [h1, h2, h3, h4, h5, h6, h7, h8, h9, show (1 : Int) ≤ (c.pub.length : Int) by omega]; omega
theorem refWorded (c : Cp) : liveryref23_worded.f c.fr c.tt c.tid c.key c.lo c.hi c.pub c.ct c.sl c.sig = some (decide c.Worded) := by
  unfold liveryref23_worded.f Cp.Worded
  rw [refSpoken c]
  by_cases h1 : c.Spoken
  case neg => simp [h1]
  by_cases h2 : c.ct.length = 1088
  case neg => simp [h1, h2]; omega
  by_cases h3 : 33 ≤ c.sl.length
  case neg => simp [h1, h2, h3]; omega
  simp [h1, h2, h3, show (33 : Int) ≤ (c.sl.length : Int) by omega]
  omega
theorem refMay (c : Cp) : liveryref23_May.f c.fr c.tt c.tid c.key c.lo c.hi c.pub c.ct c.sl c.sig = some (decide c.May) := by
  unfold liveryref23_May.f Cp.May
  rw [refWorded c]
  by_cases h1 : c.Worded
  case neg => simp [h1]
  by_cases h2 : c.sig.length = 3309
  · simp [h1, h2]
  · simp [h1, h2]; omega
theorem capSame (c d : Cp) (hc : c.Ok) (hd : d.Ok) (hp : c.pub.length < 10000) (ht : c.ct.length < 10000) (hs : c.sl.length < 10000) (hg : c.sig.length < 10000) (k : Nat) (hk : 10001 < k) :
    capsule_Same.f k c.fr c.tt c.tid c.key c.lo c.hi c.pub c.ct c.sl c.sig d.fr d.tt d.tid d.key d.lo d.hi d.pub d.ct d.sl d.sig = some (decide (c = d)) := by
  obtain ⟨k, rfl⟩ : ∃ m, k = m + 1 := ⟨k - 1, by omega⟩
  have e : (c = d) ↔ (c.fr = d.fr ∧ c.tt = d.tt ∧ c.tid = d.tid ∧ c.key = d.key ∧ c.lo = d.lo ∧ c.hi = d.hi ∧ c.pub = d.pub ∧ c.ct = d.ct ∧ c.sl = d.sl ∧ c.sig = d.sig) := by
    cases c; cases d; simp
  unfold capsule_Same.f
  simp only [capsule_Same.j0]
  rw [same_eq _ _ hc.pub hd.pub (by omega) k (by omega), same_eq _ _ hc.ct hd.ct (by omega) k (by omega), same_eq _ _ hc.sl hd.sl (by omega) k (by omega), same_eq _ _ hc.sig hd.sig (by omega) k (by omega)]
  rw [show decide (c = d) = decide (c.fr = d.fr ∧ c.tt = d.tt ∧ c.tid = d.tid ∧ c.key = d.key ∧ c.lo = d.lo ∧ c.hi = d.hi ∧ c.pub = d.pub ∧ c.ct = d.ct ∧ c.sl = d.sl ∧ c.sig = d.sig) from decide_eq_decide.2 e]
  by_cases h1 : c.fr = d.fr
  case neg => simp [h1]
  by_cases h2 : c.tt = d.tt
  case neg => simp [h1, h2]
  by_cases h3 : c.tid = d.tid
  case neg => simp [h1, h2, h3]
  by_cases h4 : c.key = d.key
  case neg => simp [h1, h2, h3, h4]
  by_cases h5 : c.lo = d.lo
  case neg => simp [h1, h2, h3, h4, h5]
  by_cases h6 : c.hi = d.hi
  case neg => simp [h1, h2, h3, h4, h5, h6]
  by_cases h7 : c.pub = d.pub
  case neg => simp [h1, h2, h3, h4, h5, h6, h7]
  by_cases h8 : c.ct = d.ct
  case neg => simp [h1, h2, h3, h4, h5, h6, h7, h8]
  by_cases h9 : c.sl = d.sl
  case neg => simp [h1, h2, h3, h4, h5, h6, h7, h8, h9]
  simp [h1, h2, h3, h4, h5, h6, h7, h8, h9]
/-- What is said, and all behind it: told apart by its parts. -/
theorem inner_inj (c d : Cp) (hc : c.Ok) (hd : d.Ok) (hC : c.Worded) (hD : d.Worded) (h : c.inner = d.inner) : c.fr = d.fr ∧ c.tt = d.tt ∧ c.tid = d.tid ∧ c.key = d.key ∧ c.lo = d.lo ∧ c.hi = d.hi ∧ c.pub = d.pub ∧ c.ct = d.ct ∧ c.sl = d.sl := by
  obtain ⟨⟨a1, a2, a3, a4, a5, a6, a7, a8, a9⟩, a10, a11, a12⟩ := hC
  obtain ⟨⟨b1, b2, b3, b4, b5, b6, b7, b8, b9⟩, b10, b11, b12⟩ := hD
  simp only [Cp.inner, Cp.said, List.append_assoc] at h
  obtain ⟨e0, h⟩ := List.append_inj h rfl
  obtain ⟨e1, h⟩ := List.append_inj h (by simp [be_length])
  obtain ⟨e2, h⟩ := List.append_inj h (by simp [be_length])
  obtain ⟨e3, h⟩ := List.append_inj h (by simp [be_length])
  obtain ⟨e4, h⟩ := List.append_inj h (by simp [be_length])
  obtain ⟨e5, h⟩ := List.append_inj h (by simp [be_length])
  have n5 := be_inj (m := 2) (by omega) (by omega) (by omega) (by omega) e5
  obtain ⟨e6, h⟩ := List.append_inj h (by omega)
  obtain ⟨e7, h⟩ := List.append_inj h (by omega)
  obtain ⟨e8, e9⟩ := List.append_inj h (by simp [be_length])
  simp only [List.cons.injEq, and_true] at e0
  refine ⟨by omega, by omega, be_inj hc.tid.1 (by simpa using hc.tid.2) hd.tid.1 (by simpa using hd.tid.2) e1, be_inj hc.key.1 (by simpa using hc.key.2) hd.key.1 (by simpa using hd.key.2) e2, be_inj hc.lo.1 (by simpa using hc.lo.2) hd.lo.1 (by simpa using hd.lo.2) e3, be_inj hc.hi.1 (by simpa using hc.hi.2) hd.hi.1 (by simpa using hd.hi.2) e4, e6, e7, e9⟩
theorem inner_byt (c : Cp) (hc : c.Ok) : Byt c.inner := by
  have hs : Byt c.said := byt_app (byt_cons (mod_byte _).1 (mod_byte _).2 (byt_cons (mod_byte _).1 (mod_byte _).2 byt_nil)) (byt_app (be_byt _ _) (byt_app (be_byt _ _) (byt_app (be_byt _ _) (byt_app (be_byt _ _) (byt_app (be_byt _ _) hc.pub)))))
  exact byt_app hs (byt_app hc.ct (byt_app (be_byt _ _) hc.sl))
theorem live_eq (k : Nat) (hk : 40 < k) : liverylaw23_live.f k = some true := by
  have h1 : capsule_Chunks.f k [1, 2, 3, 4, 5] 2 = some ([[1, 2], [3, 4], [5]], 0) := by
    obtain ⟨k, rfl⟩ : ∃ m, k = m + 6 := ⟨k - 6, by omega⟩
    have j1 : octet_Join.f (k + 4) [[1, 2]] = some [1, 2] := join_eq _ (by simp) (by simp) _ (by simp <;> omega)
    have j2 : octet_Join.f (k + 3) [[3, 4]] = some [3, 4] := join_eq _ (by simp) (by simp) _ (by simp <;> omega)
    have j3 : octet_Join.f (k + 2) [[5]] = some [5] := join_eq _ (by simp) (by simp) _ (by simp <;> omega)
    simp [capsule_Chunks.f, capsule_Chunks.j0, capsule_Chunks.l0, wrap64, mn, j1, j2, j3]
  let c : Cp := ⟨1, 2, 3, 4, 5, 6, [7], [], [], []⟩
  have h2 : capsule_Said.f k 1 2 3 4 5 6 [7] [] [] [] = some c.said := by
    have hs := spoken_eq c k (by omega)
    have ho : c.Ok := ⟨by decide, by decide, by decide, by decide, by decide, by decide, by intro x hx; simp [c] at hx; subst hx; decide, byt_nil, byt_nil, byt_nil⟩
    have hd := said_eq c ho (by simp [c]) k (by omega)
    have hsp : c.Spoken := by decide
    unfold capsule_Said.f
    rw [show capsule_spoken.f k 1 2 3 4 5 6 [7] [] [] [] = some true by rw [← decide_eq_true hsp]; exact hs]
    simp only [Option.bind_some, if_true]
    rw [show capsule_said.f k 1 2 3 4 5 6 [7] [] [] [] = some c.said from hd]
    rfl
  have h3 : c.said = [1, 2, 0, 0, 0, 3, 0, 0, 0, 4, 0, 0, 0, 0, 0, 0, 0, 5, 0, 0, 0, 0, 0, 0, 0, 6, 0, 1, 7] := by decide
  have h4 : liveryref01_Equal.f [5] [5] = some true := by
    rw [refEqual [5] [5] (by intro x hx; simp at hx; omega) (by intro x hx; simp at hx; omega)]; rfl
  unfold liverylaw23_live.f
  rw [h1, h2, h3]
  simp [rd_L3, h4, rd]
theorem title_byt : Byt title := by
  intro x hx
  simp only [title, List.mem_cons, List.not_mem_nil, or_false] at hx
  omega
end Go.Proofs.Ytgacaemgmgoiaaa.QCapsuleApart
