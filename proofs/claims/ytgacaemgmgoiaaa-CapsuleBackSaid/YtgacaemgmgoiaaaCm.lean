import Derived.Test.YtgacaemgmgoiaaaWWords
import Derived.Test.YtgacaemgmgoiaaaWLast
import Derived.Test.YtgacaemgmgoiaaaWMore
import Derived.Laws.BitsAllLaws
/- Plain laws on lists of bytes and on numbers as bytes (no program in sight). -/
namespace Go.Proofs.YtgacaemgmgoiaaaW.Cm
open Go.RowKit Go.Proofs.YtgacaemgmgoiaaaW.PrintWords
set_option linter.unusedSimpArgs false
/-- Each number is a byte's. -/
def Byt (l : List Int) : Prop := ∀ x ∈ l, 0 ≤ x ∧ x < 256
theorem wf_u8 {x : Int} (h : (Lit.int .u8 x).wf = true) : 0 ≤ x ∧ x < 256 := by
  simp only [Lit.wf, IntKind.min, IntKind.max, IntKind.signed, IntKind.bits, Bool.and_eq_true, decide_eq_true_eq] at h
  simp at h; omega
theorem wf_i64 {x : Int} (h : (Lit.int .i64 x).wf = true) : -9223372036854775808 ≤ x ∧ x ≤ 9223372036854775807 := by
  simp only [Lit.wf, IntKind.min, IntKind.max, IntKind.signed, IntKind.bits, Bool.and_eq_true, decide_eq_true_eq] at h
  simp at h; omega
theorem wf_u32 {x : Int} (h : (Lit.int .u32 x).wf = true) : 0 ≤ x ∧ x < 4294967296 := by
  simp only [Lit.wf, IntKind.min, IntKind.max, IntKind.signed, IntKind.bits, Bool.and_eq_true, decide_eq_true_eq] at h
  simp at h; omega
theorem wf_u64 {x : Int} (h : (Lit.int .u64 x).wf = true) : 0 ≤ x ∧ x < 18446744073709551616 := by
  simp only [Lit.wf, IntKind.min, IntKind.max, IntKind.signed, IntKind.bits, Bool.and_eq_true, decide_eq_true_eq] at h
  simp at h; omega
theorem byt_wf {l : List Int} (h : ∀ x ∈ l, (Lit.int .u8 x).wf = true) : Byt l := fun x hx => wf_u8 (h x hx)
theorem byt_nil : Byt [] := fun x hx => by cases hx
theorem byt_cons {a : Int} {l : List Int} (h0 : 0 ≤ a) (h1 : a < 256) (h : Byt l) : Byt (a :: l) := fun x hx => by
  rcases List.mem_cons.1 hx with rfl | h2
  · exact ⟨h0, h1⟩
  · exact h x h2
theorem byt_app {l m : List Int} (h : Byt l) (k : Byt m) : Byt (l ++ m) := fun x hx => by
  rcases List.mem_append.1 hx with h2 | h2
  · exact h x h2
  · exact k x h2
theorem byt_flat {l : List (List Int)} (h : ∀ x ∈ l, Byt x) : Byt l.flatten := fun x hx => by
  obtain ⟨y, hy, hx⟩ := List.mem_flatten.1 hx
  exact h y hy x hx
theorem byt_take {l : List Int} (h : Byt l) (n : Nat) : Byt (l.take n) := fun x hx => h x (List.mem_of_mem_take hx)
theorem byt_drop {l : List Int} (h : Byt l) (n : Nat) : Byt (l.drop n) := fun x hx => h x (List.mem_of_mem_drop hx)
theorem mod_byte (x : Int) : 0 ≤ x % 256 ∧ x % 256 < 256 := by omega
theorem strs_inj : ∀ {l m : List Int}, Byt l → Byt m → (l.map fun n => UInt8.ofNat n.toNat) = (m.map fun n => UInt8.ofNat n.toNat) → l = m
  | [], [], _, _, _ => rfl
  | [], _ :: _, _, _, h => by simp at h
  | _ :: _, [], _, _, h => by simp at h
  | a :: l, b :: m, hl, hm, h => by
    simp only [List.map_cons, List.cons.injEq] at h
    have ha := hl a (List.mem_cons_self ..)
    have hb := hm b (List.mem_cons_self ..)
    have h1 : (UInt8.ofNat a.toNat).toNat = (UInt8.ofNat b.toNat).toNat := by rw [h.1]
    simp only [UInt8.toNat_ofNat'] at h1
    have e : a = b := by omega
    rw [e, strs_inj (fun x hx => hl x (List.mem_cons_of_mem _ hx)) (fun x hx => hm x (List.mem_cons_of_mem _ hx)) h.2]
theorem bytes_list (b : ByteArray) : b.toList = b.data.toList := by
  have loop : ∀ (n i : Nat) (r : List UInt8), b.size - i = n → ByteArray.toList.loop b i r = r.reverse ++ b.data.toList.drop i := by
    intro n
    induction n with
    | zero =>
      intro i r h
      unfold ByteArray.toList.loop
      rw [if_neg (by omega), List.drop_eq_nil_of_le (by rw [Array.length_toList]; exact Nat.le_of_sub_eq_zero h)]
      simp
    | succ n ih =>
      intro i r h
      have hi : i < b.size := by omega
      unfold ByteArray.toList.loop
      rw [if_pos hi, ih (i + 1) _ (by omega)]
      have hd : b.data.toList.drop i = b.data.toList[i]'(by rw [Array.length_toList]; exact hi) :: b.data.toList.drop (i + 1) := by rw [List.drop_eq_getElem_cons]
      rw [hd]
      simp only [List.reverse_cons, List.append_assoc, List.singleton_append]
      congr 2
      rw [ByteArray.get!]
      have : b.data[i]! = b.data[i]'hi := by rw [getElem!_pos]
      rw [Array.getElem_toList]
      exact this
  unfold ByteArray.toList
  rw [loop _ 0 [] rfl]
  simp
theorem equal_strs {l m : List Int} (hl : Byt l) (hm : Byt m) : ((strOfNums l).toList == (strOfNums m).toList) = decide (l = m) := by
  rw [bytes_list, bytes_list, strOfNums_data, strOfNums_data]
  by_cases h : l = m
  · subst h; simp
  · rw [decide_eq_false h]
    exact beq_eq_false_iff_ne.2 (fun e => h (strs_inj hl hm e))
theorem w64 {n : Int} (h0 : -9223372036854775808 ≤ n) (h1 : n ≤ 9223372036854775807) : wrap64 n = n := by unfold wrap64; omega
/-- A number in m bytes, the highest first; what has no room is left out. -/
def be : Nat → Int → List Int
  | 0, _ => []
  | m + 1, n => (n / 256 ^ m % 256) :: be m n
theorem be_length : ∀ m n, (be m n).length = m
  | 0, _ => rfl
  | m + 1, n => by rw [be, List.length_cons, be_length m n]
theorem be_byt : ∀ m n, Byt (be m n)
  | 0, _ => byt_nil
  | m + 1, n => byt_cons (mod_byte _).1 (mod_byte _).2 (be_byt m n)
theorem div_pow (n : Int) (m : Nat) : n / 256 / 256 ^ m = n / 256 ^ (m + 1) := by
  rw [Int.ediv_ediv_of_nonneg (by decide), show (256 : Int) * 256 ^ m = 256 ^ (m + 1) by rw [Int.pow_succ, Int.mul_comm]]
theorem be_snoc : ∀ m n, be (m + 1) n = be m (n / 256) ++ [n % 256]
  | 0, n => by simp [be]
  | m + 1, n => by
    rw [be, be_snoc m n, be, div_pow]
    rfl
theorem pow_pos' (m : Nat) : (0 : Int) < 256 ^ m := Int.pow_pos (by decide)
theorem be_inj : ∀ {m : Nat} {a b : Int}, 0 ≤ a → a < 256 ^ m → 0 ≤ b → b < 256 ^ m → be m a = be m b → a = b
  | 0, a, b, h0, h1, h2, h3, _ => by simp at h1 h3; omega
  | m + 1, a, b, h0, h1, h2, h3, h => by
    rw [be_snoc, be_snoc] at h
    have hl : (be m (a / 256)).length = (be m (b / 256)).length := by rw [be_length, be_length]
    have h' := List.append_inj h hl
    rw [Int.pow_succ] at h1 h3
    have e := be_inj (a := a / 256) (b := b / 256) (by omega) (by omega) (by omega) (by omega) h'.1
    have e2 : a % 256 = b % 256 := by simpa using h'.2
    omega
theorem be_set (n : Int) (m i : Nat) (hi : i < m) : (List.replicate (m - i) 0 ++ be i n).set (m - 1 - i) (n / 256 ^ i % 256) = List.replicate (m - (i + 1)) 0 ++ be (i + 1) n := by
  obtain ⟨d, rfl⟩ : ∃ d, m = i + 1 + d := ⟨m - (i + 1), by omega⟩
  rw [show i + 1 + d - i = d + 1 by omega, show i + 1 + d - 1 - i = d by omega, show i + 1 + d - (i + 1) = d by omega]
  rw [List.replicate_succ', List.append_assoc, List.set_append_right _ _ (by simp)]
  simp [be]
theorem nat_xor_zero {a b : Nat} : a ^^^ b = 0 ↔ a = b := by
  constructor
  · intro h
    apply Nat.eq_of_testBit_eq
    intro i
    have := congrArg (fun n => n.testBit i) h
    simpa [Nat.testBit_xor] using this
  · rintro rfl
    exact Nat.xor_self _
theorem or_xor {x a b : Int} (hx0 : 0 ≤ x) (hx1 : x < 256) (ha0 : 0 ≤ a) (ha1 : a < 256) (hb0 : 0 ≤ b) (hb1 : b < 256) :
    0 ≤ Go.bits .or .u8 x (Go.bits .xor .u8 a b) ∧ Go.bits .or .u8 x (Go.bits .xor .u8 a b) < 256 ∧ (Go.bits .or .u8 x (Go.bits .xor .u8 a b) = 0 ↔ x = 0 ∧ a = b) := by
  obtain ⟨X, rfl⟩ := Int.eq_ofNat_of_zero_le hx0
  obtain ⟨A, rfl⟩ := Int.eq_ofNat_of_zero_le ha0
  obtain ⟨B, rfl⟩ := Int.eq_ofNat_of_zero_le hb0
  have hx : A ^^^ B < 2 ^ 8 := Nat.xor_lt_two_pow (by omega) (by omega)
  have ho : X ||| (A ^^^ B) < 2 ^ 8 := Nat.or_lt_two_pow (by omega) hx
  rw [u8_xor_nat A B (by omega) (by omega), u8_or_nat X _ (by omega) (by omega)]
  refine ⟨by omega, by omega, ?_⟩
  rw [show ((X ||| (A ^^^ B) : Nat) : Int) = 0 ↔ (X ||| (A ^^^ B)) = 0 by omega, Nat.or_eq_zero_iff, nat_xor_zero]
  omega
end Go.Proofs.YtgacaemgmgoiaaaW.Cm
