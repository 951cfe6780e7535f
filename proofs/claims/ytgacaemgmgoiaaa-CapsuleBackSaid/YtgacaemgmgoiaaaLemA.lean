import Derived.Test.YtgacaemgmgoiaaaCm
import Derived.Test.YtgacaemgmgoiaaaQLeafx6
import Derived.Test.YtgacaemgmgoiaaaQLeafx7
import Derived.Test.YtgacaemgmgoiaaaQLeafx3
import Derived.Test.YtgacaemgmgoiaaaQLeafx4
import Derived.Test.YtgacaemgmgoiaaaQLeafx2

/- What the printed leaf functions come to, in plain lists (no program in sight). -/
namespace Go.Proofs.Ytgacaemgmgoiaaa.QLeaf
open Go.RowKit Go.Proofs.YtgacaemgmgoiaaaW.PrintWords Go.Proofs.YtgacaemgmgoiaaaW.PrintLast Go.Proofs.YtgacaemgmgoiaaaW.PrintMore Go.Proofs.YtgacaemgmgoiaaaW.Cm
set_option linter.unusedVariables false
set_option linter.unusedSimpArgs false
theorem rdL {x : List (List Int)} {i : Nat} (h : i < x.length) : rd_L1 x (i : Int) = x[i] := by simp [rd_L1, h]
theorem join_l1 (x : List (List Int)) (hx : x.length < 1000000) : ∀ (d i : Nat) (acc : List Int) (k : Nat), i + d = x.length → (acc ++ (x.drop i).flatten).length < 140737488355328 → d < k → octet_Join.l1 k acc x (x.length : Int) (i : Int) = some (acc ++ (x.drop i).flatten)
  | _, _, _, 0, _, _, hk => by omega
  | 0, i, acc, k + 1, h, _, _ => by
    simp only [octet_Join.l1]
    rw [if_neg (by omega), List.drop_eq_nil_of_le (by omega)]
    simp
  | d + 1, i, acc, k + 1, h, hs, hk => by
    have hi : i < x.length := by omega
    have e : x.drop i = x[i] :: x.drop (i + 1) := List.drop_eq_getElem_cons hi
    rw [e, List.flatten_cons, ← List.append_assoc] at hs
    have hs2 : acc.length + x[i].length < 140737488355328 := by rw [List.length_append, List.length_append] at hs; omega
    simp only [octet_Join.l1]
    rw [if_pos (by omega), if_pos (by omega), if_pos (by omega), rdL hi, if_pos hs2, w64 (by omega) (by omega), show ((i : Int) + 1) = ((i + 1 : Nat) : Int) by omega, join_l1 x hx d (i + 1) _ k (by omega) hs (by omega), e, List.flatten_cons, List.append_assoc]
theorem join_l0 {K : Nat} (x : List (List Int)) (hx : x.length < 1000000) (hs : x.flatten.length < 140737488355328) (hk2 : x.length < K) : ∀ (d i : Nat) (k : Nat), i + d = x.length → K + d < k → octet_Join.l0 k x ((x.take i).flatten.length : Int) x (x.length : Int) (i : Int) = some x.flatten
  | _, _, 0, _, hk => by omega
  | 0, i, k + 1, h, hk => by
    simp only [octet_Join.l0]
    rw [if_neg (by omega), List.take_of_length_le (by omega), if_pos (by omega), if_pos (by omega)]
    have := join_l1 x hx x.length 0 [] k (by omega) (by simpa using hs) (by omega)
    simpa using this
  | d + 1, i, k + 1, h, hk => by
    have hi : i < x.length := by omega
    have e : x.take (i + 1) = x.take i ++ [x[i]] := by rw [List.take_succ_eq_append_getElem hi]
    have hle : (x.take (i + 1)).flatten.length ≤ x.flatten.length := by
      conv => rhs; rw [← List.take_append_drop (i + 1) x]
      rw [List.flatten_append, List.length_append]; omega
    have e2 : (x.take (i + 1)).flatten.length = (x.take i).flatten.length + x[i].length := by rw [e, List.flatten_append, List.length_append]; simp
    simp only [octet_Join.l0]
    rw [if_pos (by omega), if_pos (by omega), if_pos (by omega), rdL hi, w64 (by omega) (by omega), w64 (n := (i : Int) + 1) (by omega) (by omega), show ((x.take i).flatten.length : Int) + (x[i].length : Int) = ((x.take (i + 1)).flatten.length : Int) by omega, show ((i : Int) + 1) = ((i + 1 : Nat) : Int) by omega]
    exact join_l0 x hx hs hk2 d (i + 1) k (by omega) (by omega)
/-- octet.Join: all parts, one behind the other. -/
theorem join_eq (x : List (List Int)) (hx : x.length < 1000000) (hs : x.flatten.length < 140737488355328) (k : Nat) (hk : 2 * x.length + 1 < k) : octet_Join.f k x = some x.flatten := by
  have := join_l0 x hx hs (K := x.length + 1) (by omega) x.length 0 k (by omega) (by omega)
  simpa [octet_Join.f] using this
theorem shr_eq (n : Int) (i : Nat) (hi : i < 8) : shr .u64 n (8 * (i : Int)) = n / 256 ^ i := by
  unfold shr
  rw [show (8 * (i : Int)).toNat = 8 * i by omega, show IntKind.u64.bits = 64 from rfl, Nat.min_eq_left (by omega), Int.pow_mul]
  rfl
theorem big_l0 (m : Nat) (hm : m ≤ 8) (n : Int) : ∀ (d i k : Nat), i + d = m → d < k → octet_big.l0 k n (m : Int) (List.replicate (m - i) 0 ++ be i n) (m : Int) (i : Int) = some (be m n)
  | _, _, 0, _, hk => by omega
  | 0, i, k + 1, h, _ => by
    simp only [octet_big.l0]
    rw [if_neg (by omega)]
    obtain rfl : i = m := by omega
    simp
  | d + 1, i, k + 1, h, hk => by
    simp only [octet_big.l0]
    have hl : (List.replicate (m - i) 0 ++ be i n).length = m := by rw [List.length_append, List.length_replicate, be_length]; omega
    rw [if_pos (by omega), w64 (n := 8 * (i : Int)) (by omega) (by omega), if_pos (by omega), w64 (n := (m : Int) - 1) (by omega) (by omega), w64 (n := (m : Int) - 1 - (i : Int)) (by omega) (by omega), if_pos (by omega), hl, if_pos (by omega), shr_eq n i (by omega), show ((m : Int) - 1 - (i : Int)).toNat = m - 1 - i by omega, be_set n m i (by omega), w64 (by omega) (by omega), show ((i : Int) + 1) = ((i + 1 : Nat) : Int) by omega]
    exact big_l0 m hm n d (i + 1) k (by omega) (by omega)
theorem big_eq (m : Nat) (hm : m ≤ 8) (n : Int) (k : Nat) (hk : m < k) : octet_big.f k n (m : Int) = some (be m n) := by
  have := big_l0 m hm n m 0 k (by omega) hk
  unfold octet_big.f
  rw [if_pos (by omega), if_pos (by omega)]
  simpa [be] using this
theorem u16_eq (n : Int) (h0 : 0 ≤ n) (h1 : n < 65536) (k : Nat) (hk : 2 < k) : octet_U16.f k n = some (be 2 n) := by
  have := big_eq 2 (by decide) n k hk
  unfold octet_U16.f
  rw [show IntKind.u64.wrap n = n by simp [IntKind.wrap, IntKind.signed, IntKind.bits]; omega]
  rw [show ((2 : Nat) : Int) = 2 from rfl] at this
  rw [this]; rfl
theorem u32_eq (n : Int) (h0 : 0 ≤ n) (h1 : n < 4294967296) (k : Nat) (hk : 4 < k) : octet_U32.f k n = some (be 4 n) := by
  have := big_eq 4 (by decide) n k hk
  unfold octet_U32.f
  rw [show IntKind.u64.wrap n = n by simp [IntKind.wrap, IntKind.signed, IntKind.bits]; omega]
  rw [show ((4 : Nat) : Int) = 4 from rfl] at this
  rw [this]; rfl
theorem u64_eq (n : Int) (k : Nat) (hk : 8 < k) : octet_U64.f k n = some (be 8 n) := by
  have := big_eq 8 (by decide) n k hk
  unfold octet_U64.f
  rw [show ((8 : Nat) : Int) = 8 from rfl] at this
  rw [this]; rfl
theorem same_l0 (l m : List Int) (hl : Byt l) (hm : Byt m) (he : l.length = m.length) (hx : l.length < 4611686018427387904) : ∀ (d i : Nat) (x : Int) (k : Nat), i + d = l.length → 0 ≤ x → x < 256 → d < k → octet_Same.l0 k l m x (l.length : Int) (i : Int) = some (decide (x = 0 ∧ l.drop i = m.drop i))
  | _, _, _, 0, _, _, _, hk => by omega
  | 0, i, x, k + 1, h, _, _, _ => by
    simp only [octet_Same.l0]
    rw [if_neg (by omega), List.drop_eq_nil_of_le (by omega), List.drop_eq_nil_of_le (by omega)]
    simp
    by_cases h : x = 0 <;> simp [h]
  | d + 1, i, x, k + 1, h, h0, h1, hk => by
    have hi : i < l.length := by omega
    have hj : i < m.length := by omega
    have ea : rd l (i : Int) = l[i] := by simp [rd, hi]
    have eb : rd m (i : Int) = m[i] := by simp [rd, hj]
    have ba := hl l[i] (List.getElem_mem hi)
    have bb := hm m[i] (List.getElem_mem hj)
    obtain ⟨c0, c1, c2⟩ := or_xor h0 h1 ba.1 ba.2 bb.1 bb.2
    simp only [octet_Same.l0]
    rw [if_pos (by omega), if_pos (by omega), if_pos (by omega), if_pos (by omega), w64 (by omega) (by omega), ea, eb, show ((i : Int) + 1) = ((i + 1 : Nat) : Int) by omega, same_l0 l m hl hm he hx d (i + 1) _ k (by omega) c0 c1 (by omega)]
    rw [List.drop_eq_getElem_cons hi, List.drop_eq_getElem_cons hj]
    congr 1
    rw [decide_eq_decide, c2, List.cons.injEq, and_assoc]
theorem same_eq (l m : List Int) (hl : Byt l) (hm : Byt m) (hx : l.length < 4611686018427387904) (k : Nat) (hk : l.length < k) : octet_Same.f k l m = some (decide (l = m)) := by
  unfold octet_Same.f
  by_cases he : l.length = m.length
  · rw [if_pos (by omega)]
    have := same_l0 l m hl hm he hx l.length 0 0 k (by omega) (by omega) (by omega) hk
    simpa using this
  · rw [if_neg (by omega), decide_eq_false (fun e => he (by rw [e]))]
theorem refEqual (l m : List Int) (hl : Byt l) (hm : Byt m) : liveryref01_Equal.f l m = some (decide (l = m)) := by
  unfold liveryref01_Equal.f
  rw [equal_strs hl hm]
theorem refJoin_l0 (x : List (List Int)) (hx : x.length < 1000000) : ∀ (d i : Nat) (acc : List Int) (k : Nat), i + d = x.length → (acc ++ (x.drop i).flatten).length < 140737488355328 → d < k → liveryref01_Join.l0 k acc x (x.length : Int) (i : Int) = some (acc ++ (x.drop i).flatten)
  | _, _, _, 0, _, _, hk => by omega
  | 0, i, acc, k + 1, h, _, _ => by
    simp only [liveryref01_Join.l0]
    rw [if_neg (by omega), List.drop_eq_nil_of_le (by omega)]
    simp
  | d + 1, i, acc, k + 1, h, hs, hk => by
    have hi : i < x.length := by omega
    have e : x.drop i = x[i] :: x.drop (i + 1) := List.drop_eq_getElem_cons hi
    rw [e, List.flatten_cons, ← List.append_assoc] at hs
    have hs2 : acc.length + x[i].length < 140737488355328 := by rw [List.length_append, List.length_append] at hs; omega
    simp only [liveryref01_Join.l0]
    rw [if_pos (by omega), if_pos (by omega), if_pos (by omega), rdL hi, if_pos hs2, w64 (by omega) (by omega), show ((i : Int) + 1) = ((i + 1 : Nat) : Int) by omega, refJoin_l0 x hx d (i + 1) _ k (by omega) hs (by omega), e, List.flatten_cons, List.append_assoc]
theorem refJoin_eq (x : List (List Int)) (hx : x.length < 1000000) (hs : x.flatten.length < 140737488355328) (k : Nat) (hk : x.length < k) : liveryref01_Join.f k x = some x.flatten := by
  have := refJoin_l0 x hx x.length 0 [] k (by omega) (by simpa using hs) hk
  simpa [liveryref01_Join.f] using this
theorem u64wrap {n : Int} (h0 : 0 ≤ n) (h1 : n < 18446744073709551616) : IntKind.u64.wrap n = n := by simp [IntKind.wrap, IntKind.signed, IntKind.bits]; omega
theorem refBig_l0 (m : Nat) (hm : m ≤ 8) (n : Int) (h0 : 0 ≤ n) (h1 : n < 18446744073709551616) : ∀ (d j k : Nat), j + d = m → d < k → liveryref01_Big.l0 k (n / 256 ^ j) (List.replicate (m - j) 0 ++ be j n) ((m : Int) - 1 - (j : Int)) = some (be m n)
  | _, _, 0, _, hk => by omega
  | 0, j, k + 1, h, _ => by
    simp only [liveryref01_Big.l0]
    rw [if_neg (by omega)]
    obtain rfl : j = m := by omega
    simp
  | d + 1, j, k + 1, h, hk => by
    simp only [liveryref01_Big.l0]
    have hl : (List.replicate (m - j) 0 ++ be j n).length = m := by rw [List.length_append, List.length_replicate, be_length]; omega
    have hp := pow_pos' j
    have hq : 0 ≤ n / 256 ^ j := Int.ediv_nonneg h0 (Int.le_of_lt hp)
    have hq2 : n / 256 ^ j ≤ n := Int.ediv_le_self _ h0
    have e1 : Int.tdiv (n / 256 ^ j) 256 = n / 256 ^ (j + 1) := by
      rw [Int.tdiv_eq_ediv_of_nonneg hq, Int.ediv_ediv_of_nonneg (Int.le_of_lt hp), Int.pow_succ]
    have hr : 0 ≤ n / 256 ^ (j + 1) := Int.ediv_nonneg h0 (Int.le_of_lt (pow_pos' _))
    have hr2 : n / 256 ^ (j + 1) ≤ n := Int.ediv_le_self _ h0
    have e2 : Int.tmod (n / 256 ^ j) 256 % 256 = n / 256 ^ j % 256 := by
      rw [Int.tmod_eq_emod_of_nonneg hq, Int.emod_emod_of_dvd _ (Int.dvd_refl 256)]
    rw [if_pos (by omega), if_pos (by omega), hl, if_pos (by omega), e1, e2, u64wrap hr (by omega), show ((m : Int) - 1 - (j : Int)).toNat = m - 1 - j by omega, be_set n m j (by omega), w64 (by omega) (by omega), show (m : Int) - 1 - (j : Int) - 1 = (m : Int) - 1 - ((j + 1 : Nat) : Int) by omega]
    exact refBig_l0 m hm n h0 h1 d (j + 1) k (by omega) (by omega)
theorem refBig_eq (m : Nat) (hm : m ≤ 8) (n : Int) (h0 : 0 ≤ n) (h1 : n < 18446744073709551616) (k : Nat) (hk : m < k) : liveryref01_Big.f k n (m : Int) = some (be m n) := by
  have := refBig_l0 m hm n h0 h1 m 0 k (by omega) hk
  unfold liveryref01_Big.f
  rw [if_pos (by omega), if_pos (by omega), w64 (by omega) (by omega)]
  simpa [be] using this
end Go.Proofs.Ytgacaemgmgoiaaa.QLeaf
