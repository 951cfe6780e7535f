import Derived.Test.YtgacaemgmgoiaaaLemA
import Derived.Test.YtgacaemgmgoiaaaQLeafx5
import Derived.Test.YtgacaemgmgoiaaaQLeafx8

/- Numbers out of bytes: what the printed BigOf and Number come to (no program in sight). -/
namespace Go.Proofs.Ytgacaemgmgoiaaa.QLeaf
open Go.RowKit Go.Proofs.YtgacaemgmgoiaaaW.PrintWords Go.Proofs.YtgacaemgmgoiaaaW.PrintLast Go.Proofs.YtgacaemgmgoiaaaW.PrintMore Go.Proofs.YtgacaemgmgoiaaaW.Cm
set_option linter.unusedVariables false
set_option linter.unusedSimpArgs false
/-- The number of these bytes, the highest first. -/
def numA : Int → List Int → Int
  | a, [] => a
  | a, x :: l => numA (a * 256 + x) l
def num (l : List Int) : Int := numA 0 l
theorem numA_eq : ∀ (l : List Int) (a : Int), numA a l = a * 256 ^ l.length + num l
  | [], a => by simp [numA, num]
  | x :: l, a => by
    show numA (a * 256 + x) l = _
    rw [numA_eq l (a * 256 + x), show num (x :: l) = numA (0 * 256 + x) l from rfl, numA_eq l (0 * 256 + x), List.length_cons, Int.pow_succ]
    generalize (256 : Int) ^ l.length = p
    generalize num l = q
    rw [Int.zero_mul, Int.zero_add, Int.add_mul, Int.mul_assoc, Int.mul_comm 256 p, Int.add_assoc]
theorem num_nil : num [] = 0 := rfl
theorem num_cons (x : Int) (l : List Int) : num (x :: l) = x * 256 ^ l.length + num l := by
  show numA (0 * 256 + x) l = _
  rw [numA_eq, Int.zero_mul, Int.zero_add]
theorem num_snoc (l : List Int) (x : Int) : num (l ++ [x]) = num l * 256 + x := by
  induction l with
  | nil => simp [num, numA]
  | cons y l ih =>
    rw [List.cons_append, num_cons, ih, num_cons, List.length_append, List.length_singleton, Int.pow_succ]
    generalize (256 : Int) ^ l.length = p
    generalize num l = q
    rw [Int.add_mul, Int.mul_assoc]
    omega
theorem num_range : ∀ {l : List Int}, Byt l → 0 ≤ num l ∧ num l < 256 ^ l.length := by
  intro l
  induction l with
  | nil => intro _; simp [num_nil]
  | cons x l ih =>
    intro h
    have hx := h x (List.mem_cons_self ..)
    obtain ⟨h1, h2⟩ := ih (fun y hy => h y (List.mem_cons_of_mem _ hy))
    rw [num_cons, List.length_cons, Int.pow_succ]
    have hp := pow_pos' l.length
    generalize (256 : Int) ^ l.length = p at h2 hp
    have e1 : 0 ≤ x * p := Int.mul_nonneg hx.1 (by omega)
    have e2 : x * p ≤ 255 * p := Int.mul_le_mul_of_nonneg_right (by omega) (by omega)
    omega
theorem be_num : ∀ {l : List Int}, Byt l → be l.length (num l) = l := by
  intro l
  induction l with
  | nil => intro _; rfl
  | cons x l ih =>
    intro h
    have hx := h x (List.mem_cons_self ..)
    have hl : Byt l := fun y hy => h y (List.mem_cons_of_mem _ hy)
    obtain ⟨h1, h2⟩ := num_range hl
    have hp := pow_pos' l.length
    rw [List.length_cons, be, num_cons]
    have hq : (x * 256 ^ l.length + num l) / 256 ^ l.length = x := by
      rw [Int.add_comm, Int.add_mul_ediv_right _ _ (by omega), Int.ediv_eq_zero_of_lt h1 h2, Int.zero_add]
    rw [hq, Int.emod_eq_of_lt hx.1 hx.2]
    congr 1
    have : ∀ m, m ≤ l.length → be m (x * 256 ^ l.length + num l) = be m (num l) := by
      intro m
      induction m with
      | zero => intro _; rfl
      | succ m ihm =>
        intro hm
        rw [be, be, ihm (by omega)]
        congr 1
        obtain ⟨d, hd⟩ : ∃ d, l.length = m + 1 + d := ⟨l.length - (m + 1), by omega⟩
        have e : x * 256 ^ l.length = (x * 256 ^ d * 256) * 256 ^ m := by
          rw [hd, Int.pow_add, Int.pow_succ]
          generalize (256 : Int) ^ m = a
          generalize (256 : Int) ^ d = b
          ac_rfl
        rw [e, Int.add_comm, Int.add_mul_ediv_right _ _ (by have := pow_pos' m; omega), Int.add_mul_emod_self_right]
    rw [this _ (Nat.le_refl _), ih hl]
theorem num_be : ∀ (m : Nat) {n : Int}, 0 ≤ n → n < 256 ^ m → num (be m n) = n := by
  intro m n h0 h1
  have h := num_range (be_byt m n)
  rw [be_length] at h
  have e := be_num (be_byt m n)
  rw [be_length] at e
  exact be_inj h.1 h.2 h0 h1 e
theorem numA_le {l : List Int} (h : Byt l) {a : Int} (ha : 0 ≤ a) : a ≤ numA a l ∧ 0 ≤ numA a l := by
  rw [numA_eq]
  have h1 := num_range h
  have hp := pow_pos' l.length
  have : a * 1 ≤ a * 256 ^ l.length := Int.mul_le_mul_of_nonneg_left (by omega) ha
  omega
theorem u64_or {a x : Int} (h0 : 0 ≤ a) (h1 : a < 72057594037927936) (hx : 0 ≤ x) (hx1 : x < 256) : Go.bits .or .u64 (IntKind.u64.wrap (a * 256)) (IntKind.u64.wrap x) = a * 256 + x := by
  rw [u64wrap (by omega) (by omega), u64wrap (by omega) (by omega)]
  obtain ⟨A, rfl⟩ := Int.eq_ofNat_of_zero_le h0
  obtain ⟨X, rfl⟩ := Int.eq_ofNat_of_zero_le hx
  have e : A * 256 ||| X = A * 256 + X := by
    have := Nat.two_pow_add_eq_or_of_lt (i := 8) (b := X) (by omega) A
    rw [show 2 ^ 8 * A = A * 256 by omega] at this
    exact this.symm
  have := u64_or_nat (A * 256) X (by omega) (by omega)
  rw [show ((A * 256 : Nat) : Int) = (A : Int) * 256 by omega] at this
  rw [this, e]
  omega
theorem drop_cons {l : List Int} {i : Nat} (hi : i < l.length) : l.drop i = l[i] :: l.drop (i + 1) := List.drop_eq_getElem_cons hi
theorem bigOf_l0 (l : List Int) (hl : Byt l) (h8 : l.length ≤ 8) : ∀ (d i : Nat) (a : Int) (k : Nat), i + d = l.length → 0 ≤ a → a < 256 ^ i → d < k → octet_BigOf.l0 k a l (l.length : Int) (i : Int) = some (numA a (l.drop i), 0)
  | _, _, _, 0, _, _, _, hk => by omega
  | 0, i, a, k + 1, h, _, _, _ => by
    simp only [octet_BigOf.l0]
    rw [if_neg (by omega), List.drop_eq_nil_of_le (by omega)]
    rfl
  | d + 1, i, a, k + 1, h, h0, h1, hk => by
    have hi : i < l.length := by omega
    have ex : rd l (i : Int) = l[i] := by simp [rd, hi]
    have bx := hl l[i] (List.getElem_mem hi)
    have hp : (256 : Int) ^ i ≤ 72057594037927936 := by
      have : i ≤ 7 := by omega
      have h2 : (256 : Int) ^ i ≤ 256 ^ 7 := by
        obtain ⟨q, hq⟩ : ∃ q, 7 = i + q := ⟨7 - i, by omega⟩
        rw [hq, Int.pow_add]
        have a1 := pow_pos' i
        have a2 := pow_pos' q
        have : (256 : Int) ^ i * 1 ≤ 256 ^ i * 256 ^ q := Int.mul_le_mul_of_nonneg_left (by omega) (by omega)
        omega
      exact Int.le_trans h2 (by decide)
    simp only [octet_BigOf.l0]
    rw [if_pos (by omega), if_pos (by omega), if_pos (by omega), ex, u64_or h0 (by omega) bx.1 bx.2, w64 (by omega) (by omega), show ((i : Int) + 1) = ((i + 1 : Nat) : Int) by omega, drop_cons hi]
    exact bigOf_l0 l hl h8 d (i + 1) _ k (by omega) (by omega) (by rw [Int.pow_succ]; omega) (by omega)
theorem bigOf_eq (l : List Int) (hl : Byt l) (h1 : 1 ≤ l.length) (h8 : l.length ≤ 8) (k : Nat) (hk : l.length + 1 < k) : octet_BigOf.f k l = some (num l, 0) := by
  obtain ⟨k, rfl⟩ : ∃ m, k = m + 1 := ⟨k - 1, by omega⟩
  unfold octet_BigOf.f
  rw [if_neg (by omega), decide_eq_false (by omega)]
  simp only [octet_BigOf.j0]
  rw [if_neg (by simp)]
  exact bigOf_l0 l hl h8 l.length 0 0 k (by omega) (by omega) (by simp) (by omega)
theorem number_l0 (l : List Int) (hl : Byt l) (h8 : l.length ≤ 8) : ∀ (d i : Nat) (a : Int) (k : Nat), i + d = l.length → 0 ≤ a → a < 256 ^ i → d < k → liveryref01_Number.l0 k a l (l.length : Int) (i : Int) = some (numA a (l.drop i))
  | _, _, _, 0, _, _, _, hk => by omega
  | 0, i, a, k + 1, h, _, _, _ => by
    simp only [liveryref01_Number.l0]
    rw [if_neg (by omega), List.drop_eq_nil_of_le (by omega)]
    rfl
  | d + 1, i, a, k + 1, h, h0, h1, hk => by
    have hi : i < l.length := by omega
    have ex : rd l (i : Int) = l[i] := by simp [rd, hi]
    have bx := hl l[i] (List.getElem_mem hi)
    have hp : (256 : Int) ^ i ≤ 72057594037927936 := by
      have : i ≤ 7 := by omega
      have h2 : (256 : Int) ^ i ≤ 256 ^ 7 := by
        obtain ⟨q, hq⟩ : ∃ q, 7 = i + q := ⟨7 - i, by omega⟩
        rw [hq, Int.pow_add]
        have a1 := pow_pos' i
        have a2 := pow_pos' q
        have : (256 : Int) ^ i * 1 ≤ 256 ^ i * 256 ^ q := Int.mul_le_mul_of_nonneg_left (by omega) (by omega)
        omega
      exact Int.le_trans h2 (by decide)
    simp only [liveryref01_Number.l0]
    rw [if_pos (by omega), if_pos (by omega), if_pos (by omega), ex, u64wrap (n := a * 256) (by omega) (by omega), u64wrap (n := l[i]) (by omega) (by omega), u64wrap (n := a * 256 + l[i]) (by omega) (by omega), w64 (by omega) (by omega), show ((i : Int) + 1) = ((i + 1 : Nat) : Int) by omega, drop_cons hi]
    exact number_l0 l hl h8 d (i + 1) _ k (by omega) (by omega) (by rw [Int.pow_succ]; omega) (by omega)
theorem number_eq (l : List Int) (hl : Byt l) (h8 : l.length ≤ 8) (k : Nat) (hk : l.length < k) : liveryref01_Number.f k l = some (num l) := by
  unfold liveryref01_Number.f
  exact number_l0 l hl h8 l.length 0 0 k (by omega) (by omega) (by simp) hk
end Go.Proofs.Ytgacaemgmgoiaaa.QLeaf
