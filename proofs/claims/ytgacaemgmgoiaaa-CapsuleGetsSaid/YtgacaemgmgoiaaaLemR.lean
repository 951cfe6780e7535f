import Derived.Test.YtgacaemgmgoiaaaLemQ
import Derived.Test.YtgacaemgmgoiaaaCapB

/- What the document's Get comes to. -/
namespace Go.Proofs.Ytgacaemgmgoiaaa.QLeaf
open Go.RowKit Go.Proofs.YtgacaemgmgoiaaaW.PrintWords Go.Proofs.YtgacaemgmgoiaaaW.PrintLast Go.Proofs.YtgacaemgmgoiaaaW.PrintMore Go.Proofs.YtgacaemgmgoiaaaW.Cm Go.Proofs.YtgacaemgmgoiaaaW.Rg
set_option linter.unusedVariables false
set_option linter.unusedSimpArgs false

theorem cut_at {l : List Int} {a b : Nat} (h : a ≤ b) : l.take b = l.take a ++ (l.take b).drop a := by
  conv => lhs; rw [← List.take_append_drop a (l.take b), List.take_take, Nat.min_eq_left h]
theorem cut_len {l : List Int} {a b : Nat} (h : b ≤ l.length) : ((l.take b).drop a).length = b - a := mid_len h
theorem cut_app {x y z : List Int} : ((x ++ (y ++ z)).take (x.length + y.length)).drop x.length = y := by
  rw [← List.append_assoc, show x.length + y.length = (x ++ y).length by simp, List.take_left, List.drop_left]
theorem be_cut {l : List Int} (yl : Byt l) {a b k : Nat} (hk : b - a = k) (h : b ≤ l.length) : be k (num ((l.take b).drop a)) = (l.take b).drop a := by
  have := be_num (byt_drop (byt_take yl b) a)
  rw [cut_len h, hk] at this
  exact this
theorem num_cut {l : List Int} (yl : Byt l) {a b k : Nat} (hk : b - a = k) (h : b ≤ l.length) : 0 ≤ num ((l.take b).drop a) ∧ num ((l.take b).drop a) < 256 ^ k := by
  have := num_range (byt_drop (byt_take yl b) a)
  rw [cut_len h, hk] at this
  exact this
/-- The form of a capsule, cut. -/
theorem form_cut (d : Cp) (hd : d.Form) {l : List Int} (e : l = d.inner ++ d.sig) : 28 ≤ l.length ∧ num ((l.take 28).drop 26) = d.pub.length ∧ 28 + d.pub.length + 1088 + 2 ≤ l.length ∧ num ((l.take (28 + d.pub.length + 1088 + 2)).drop (28 + d.pub.length + 1088)) = d.sl.length ∧ l.length = 28 + d.pub.length + 1088 + 2 + d.sl.length + 3309 := by
  obtain ⟨hod, a1, a2, a3, a4, a5, a6⟩ := hd
  have hlen : l.length = 28 + d.pub.length + 1088 + 2 + d.sl.length + 3309 := by rw [e, List.length_append, inner_length]; omega
  refine ⟨by omega, ?_, by omega, ?_, hlen⟩
  · have h := cut_app (x := [d.fr % 256, d.tt % 256] ++ (be 4 d.tid ++ (be 4 d.key ++ (be 8 d.lo ++ be 8 d.hi)))) (y := be 2 d.pub.length) (z := d.pub ++ (d.ct ++ (be 2 d.sl.length ++ (d.sl ++ d.sig))))
    rw [show ([d.fr % 256, d.tt % 256] ++ (be 4 d.tid ++ (be 4 d.key ++ (be 8 d.lo ++ be 8 d.hi)))) ++ (be 2 d.pub.length ++ (d.pub ++ (d.ct ++ (be 2 d.sl.length ++ (d.sl ++ d.sig))))) = l from by rw [e]; simp [Cp.inner, Cp.said], show ([d.fr % 256, d.tt % 256] ++ (be 4 d.tid ++ (be 4 d.key ++ (be 8 d.lo ++ be 8 d.hi)))).length = 26 from by simp [be_length], be_length] at h
    rw [h]
    exact num_be 2 (by omega) (by omega)
  · have h := cut_app (x := d.said ++ d.ct) (y := be 2 d.sl.length) (z := d.sl ++ d.sig)
    rw [show (d.said ++ d.ct) ++ (be 2 d.sl.length ++ (d.sl ++ d.sig)) = l from by rw [e]; simp [Cp.inner], show (d.said ++ d.ct).length = 28 + d.pub.length + 1088 from by rw [List.length_append, said_length]; omega, be_length] at h
    rw [h]
    exact num_be 2 (by omega) (by omega)
theorem refGet_calls (l : List Int) (yl : Byt l) (hl : l.length < 100000) : ∃ c e, Res l c e ∧ ∀ (v : Value) (w : World), Row 0 w v l → Ret 22 #[v] w (fun u w' => ∃ x, u = .tuple #[x, .int .i64 e] ∧ CapV w.heap.size w' x c) := by
  have z0 := num_range (byt_drop (byt_take yl 28) 26)
  obtain ⟨n, e1⟩ : ∃ n : Nat, num ((l.take 28).drop 26) = (n : Int) := ⟨(num ((l.take 28).drop 26)).toNat, by omega⟩
  have q1 : 28 ≤ l.length → n < 65536 := fun h => by have := num_cut yl (a := 26) (b := 28) (k := 2) rfl h; omega
  obtain ⟨a5, ha⟩ : ∃ a5 : Nat, a5 = 28 + n + 1088 := ⟨_, rfl⟩
  have z1 := num_range (byt_drop (byt_take yl (a5 + 2)) a5)
  obtain ⟨m, e2⟩ : ∃ m : Nat, num ((l.take (a5 + 2)).drop a5) = (m : Int) := ⟨(num ((l.take (a5 + 2)).drop a5)).toNat, by omega⟩
  have q2 : a5 + 2 ≤ l.length → m < 65536 := fun h => by have := num_cut yl (a := a5) (b := a5 + 2) (k := 2) (by omega) h; omega
  obtain ⟨b0, hb0⟩ : ∃ x, l.getD 0 0 = x := ⟨_, rfl⟩
  obtain ⟨b1, hb1⟩ : ∃ x, l.getD 1 0 = x := ⟨_, rfl⟩
  obtain ⟨p7, f7⟩ : ∃ x, (l.take (28 + n)).drop 28 = x := ⟨_, rfl⟩
  obtain ⟨p8, f8⟩ : ∃ x, (l.take a5).drop (28 + n) = x := ⟨_, rfl⟩
  obtain ⟨p9, f9⟩ : ∃ x, (l.take (a5 + 2 + m)).drop (a5 + 2) = x := ⟨_, rfl⟩
  obtain ⟨p10, f10⟩ : ∃ x, l.drop (a5 + 2 + m) = x := ⟨_, rfl⟩
  obtain ⟨n3, e3⟩ : ∃ x, num ((l.take 6).drop 2) = x := ⟨_, rfl⟩
  obtain ⟨n4, e4⟩ : ∃ x, num ((l.take 10).drop 6) = x := ⟨_, rfl⟩
  obtain ⟨n5, e5⟩ : ∃ x, num ((l.take 18).drop 10) = x := ⟨_, rfl⟩
  obtain ⟨n6, e6⟩ : ∃ x, num ((l.take 26).drop 18) = x := ⟨_, rfl⟩
  have hget : l.length = a5 + 2 + m + 3309 → l[0]? = some b0 ∧ l[1]? = some b1 := fun h => by
    rw [← hb0, ← hb1]
    exact ⟨by rw [List.getD_eq_getElem?_getD, List.getElem?_eq_getElem (by omega)]; rfl, by rw [List.getD_eq_getElem?_getD, List.getElem?_eq_getElem (by omega)]; rfl⟩
  have G := refGet_all l yl hl n a5 m b0 b1 n3 n4 n5 n6 p7 p8 p9 p10 ⟨e1⟩ (fun h => ⟨q1 h, by omega, by omega⟩) ⟨e2⟩ q2 (fun h => by
    obtain ⟨h0, h1⟩ := hget h
    have q3 := num_cut yl (a := 2) (b := 6) (k := 4) rfl (by omega)
    have q4 := num_cut yl (a := 6) (b := 10) (k := 4) rfl (by omega)
    rw [e3] at q3
    rw [e4] at q4
    exact ⟨yl b0 (List.mem_of_getElem? h0), yl b1 (List.mem_of_getElem? h1), by simpa using q3, by simpa using q4, ⟨h0⟩, ⟨h1⟩⟩) ⟨e3⟩ ⟨e4⟩ ⟨e5⟩ ⟨e6⟩ ⟨f7⟩ ⟨f8⟩ ⟨f9⟩ ⟨f10⟩
  by_cases h28 : l.length < 28
  · exact ⟨_, _, .inr ⟨rfl, rfl, fun d hd hm e => by have := form_cut d (may_form hd hm) e; omega⟩, fun v w hv => (G v w hv).mono (fun e w' ⟨u, he, h, hb⟩ => ⟨u, he, h.bad (.inl h28), hb⟩)⟩
  have n0 := q1 (by omega)
  by_cases hat : l.length < a5 + 2
  · refine ⟨_, _, .inr ⟨rfl, rfl, fun d hd hm e => ?_⟩, fun v w hv => (G v w hv).mono (fun e w' ⟨u, he, h, hb⟩ => ⟨u, he, h.bad (.inr (.inl hat)), hb⟩)⟩
    obtain ⟨_, k2, k3, _⟩ := form_cut d (may_form hd hm) e
    omega
  have m0 := q2 (by omega)
  by_cases hlen : l.length = a5 + 2 + m + 3309
  case neg =>
    refine ⟨_, _, .inr ⟨rfl, rfl, fun d hd hm e => ?_⟩, fun v w hv => (G v w hv).mono (fun e w' ⟨u, he, h, hb⟩ => ⟨u, he, h.bad (.inr (.inr (.inl hlen))), hb⟩)⟩
    obtain ⟨_, k2, k3, k4, k5⟩ := form_cut d (may_form hd hm) e
    have en : n = d.pub.length := by omega
    subst en
    rw [← ha, e2] at k4
    omega
  clear hb0 hb1
  obtain ⟨hb0, hb1⟩ := hget hlen
  have q3 := num_cut yl (a := 2) (b := 6) (k := 4) rfl (by omega)
  have q4 := num_cut yl (a := 6) (b := 10) (k := 4) rfl (by omega)
  have q5 := num_cut yl (a := 10) (b := 18) (k := 8) rfl (by omega)
  have q6 := num_cut yl (a := 18) (b := 26) (k := 8) rfl (by omega)
  have r0 := yl b0 (List.mem_of_getElem? hb0)
  have r1 := yl b1 (List.mem_of_getElem? hb1)
  have g3 := be_cut yl (a := 2) (b := 6) (k := 4) rfl (by omega)
  have g4 := be_cut yl (a := 6) (b := 10) (k := 4) rfl (by omega)
  have g5 := be_cut yl (a := 10) (b := 18) (k := 8) rfl (by omega)
  have g6 := be_cut yl (a := 18) (b := 26) (k := 8) rfl (by omega)
  have g7 := be_cut yl (a := 26) (b := 28) (k := 2) rfl (by omega)
  have g8 := be_cut yl (a := a5) (b := a5 + 2) (k := 2) (by omega) (by omega)
  have t1 := cut_at (l := l) (a := 2) (b := 6) (by decide)
  have t2 := cut_at (l := l) (a := 6) (b := 10) (by decide)
  have t3 := cut_at (l := l) (a := 10) (b := 18) (by decide)
  have t4 := cut_at (l := l) (a := 18) (b := 26) (by decide)
  have t5 := cut_at (l := l) (a := 26) (b := 28) (by decide)
  have t6 := cut_at (l := l) (a := 28) (b := 28 + n) (by omega)
  have t7 := cut_at (l := l) (a := 28 + n) (b := a5) (by omega)
  have t8 := cut_at (l := l) (a := a5) (b := a5 + 2) (by omega)
  have t9 := cut_at (l := l) (a := a5 + 2) (b := a5 + 2 + m) (by omega)
  have ta := (List.take_append_drop (a5 + 2 + m) l).symm
  have u7 := cut_len (l := l) (a := 28) (b := 28 + n) (by omega)
  have u8 := cut_len (l := l) (a := 28 + n) (b := a5) (by omega)
  have u9 := cut_len (l := l) (a := a5 + 2) (b := a5 + 2 + m) (by omega)
  have u10 : (l.drop (a5 + 2 + m)).length = 3309 := by rw [List.length_drop]; omega
  have z7 := byt_drop (byt_take yl (28 + n)) 28
  have z8 := byt_drop (byt_take yl a5) (28 + n)
  have z9 := byt_drop (byt_take yl (a5 + 2 + m)) (a5 + 2)
  have z10 := byt_drop yl (a5 + 2 + m)
  rw [f7] at t6 u7 z7
  rw [f8] at t7 u8 z8
  rw [f9] at t9 u9 z9
  rw [f10] at ta u10 z10
  rw [e3] at g3 q3
  rw [e4] at g4 q4
  rw [e5] at g5 q5
  rw [e6] at g6 q6
  rw [e1] at g7
  rw [e2] at g8
  have ho : Cp.Ok ⟨b0, b1, n3, n4, n5, n6, p7, p8, p9, p10⟩ := ⟨by simp only; omega, by simp only; omega, by simpa using q3, by simpa using q4, by simpa using q5, by simpa using q6, z7, z8, z9, z10⟩
  have hf : Cp.Form ⟨b0, b1, n3, n4, n5, n6, p7, p8, p9, p10⟩ := ⟨ho, by simpa using r0, by simpa using r1, by simp only; omega, by simp only; omega, by simp only; omega, by simp only; omega⟩
  have h2 : l.take 2 = [b0 % 256, b1 % 256] := by
    match l, hb0, hb1 with
    | x :: y :: r, hb0, hb1 =>
      simp only [List.getElem?_cons_zero, Option.some.injEq, List.getElem?_cons_succ] at hb0 hb1
      subst hb0 hb1
      simp only [List.take_succ_cons, List.take_zero]
      rw [Int.emod_eq_of_lt r0.1 r0.2, Int.emod_eq_of_lt r1.1 r1.2]
  have hll : l = (Cp.inner ⟨b0, b1, n3, n4, n5, n6, p7, p8, p9, p10⟩) ++ p10 := by
    rw [ta, t9, t8, t7, t6, t5, t4, t3, t2, t1, h2, ← g3, ← g4, ← g5, ← g6, ← g7, ← g8]
    have k7 : ((n : Nat) : Int) = (p7.length : Int) := by omega
    have k9 : ((m : Nat) : Int) = (p9.length : Int) := by omega
    rw [k7, k9]
    simp [Cp.inner, Cp.said]
  by_cases hm : Cp.May ⟨b0, b1, n3, n4, n5, n6, p7, p8, p9, p10⟩
  · exact ⟨_, _, res_may hf hll hm, fun v w hv => (G v w hv).mono (fun e w' ⟨u, he, h, hb⟩ => ⟨u, he, h.good (fun h => by rcases h with h | h | h | h <;> first | omega | exact h hm), hb⟩)⟩
  · exact ⟨_, _, res_not hf hll hm, fun v w hv => (G v w hv).mono (fun e w' ⟨u, he, h, hb⟩ => ⟨u, he, h.bad (.inr (.inr (.inr hm))), hb⟩)⟩

end Go.Proofs.Ytgacaemgmgoiaaa.QLeaf
