import Derived.Test.YtgacaemgmgoiaaaCapA

/- What both Get's come to: the one capsule whose form these bytes are, or none. -/
namespace Go.Proofs.Ytgacaemgmgoiaaa.QLeaf
open Go.RowKit Go.Proofs.YtgacaemgmgoiaaaW.PrintWords Go.Proofs.YtgacaemgmgoiaaaW.PrintLast Go.Proofs.YtgacaemgmgoiaaaW.PrintMore Go.Proofs.YtgacaemgmgoiaaaW.Cm Go.Proofs.YtgacaemgmgoiaaaW.Rg
set_option linter.unusedVariables false
set_option linter.unusedSimpArgs false
/-- A capsule whose parts have room in a form. -/
structure Cp.Form (c : Cp) : Prop where
  ok : c.Ok
  fr : 0 ≤ c.fr ∧ c.fr < 256
  tt : 0 ≤ c.tt ∧ c.tt < 256
  pub : c.pub.length < 65536
  ct : c.ct.length = 1088
  sl : c.sl.length < 65536
  sig : c.sig.length = 3309
theorem may_form {c : Cp} (ho : c.Ok) (h : c.May) : c.Form := by
  obtain ⟨⟨⟨a1, a2, a3, a4, a5, a6, a7, a8, a9⟩, a10, a11, a12⟩, a13⟩ := h
  exact ⟨ho, by omega, by omega, by omega, a10, by omega, a13⟩
theorem form_inj {c d : Cp} (hc : c.Form) (hd : d.Form) (h : c.inner ++ c.sig = d.inner ++ d.sig) : c = d := by
  obtain ⟨hoc, a1, a2, a3, a4, a5, a6⟩ := hc
  obtain ⟨hod, b1, b2, b3, b4, b5, b6⟩ := hd
  simp only [Cp.inner, Cp.said, List.append_assoc] at h
  obtain ⟨e0, h⟩ := List.append_inj h rfl
  obtain ⟨e1, h⟩ := List.append_inj h (by simp [be_length])
  obtain ⟨e2, h⟩ := List.append_inj h (by simp [be_length])
  obtain ⟨e3, h⟩ := List.append_inj h (by simp [be_length])
  obtain ⟨e4, h⟩ := List.append_inj h (by simp [be_length])
  obtain ⟨e5, h⟩ := List.append_inj h (by simp [be_length])
  have n5 := be_inj (m := 2) (by omega) (by omega) (by omega) (by omega) e5
  obtain ⟨e6, h⟩ := List.append_inj h (by omega)
  obtain ⟨e7, h⟩ := List.append_inj h (by omega)
  obtain ⟨e8, h⟩ := List.append_inj h (by simp [be_length])
  have n8 := be_inj (m := 2) (by omega) (by omega) (by omega) (by omega) e8
  obtain ⟨e9, e10⟩ := List.append_inj h (by omega)
  simp only [List.cons.injEq, and_true] at e0
  have f1 : c.fr = d.fr := by omega
  have f2 : c.tt = d.tt := by omega
  have f3 := be_inj hoc.tid.1 (by simpa using hoc.tid.2) hod.tid.1 (by simpa using hod.tid.2) e1
  have f4 := be_inj hoc.key.1 (by simpa using hoc.key.2) hod.key.1 (by simpa using hod.key.2) e2
  have f5 := be_inj hoc.lo.1 (by simpa using hoc.lo.2) hod.lo.1 (by simpa using hod.lo.2) e3
  have f6 := be_inj hoc.hi.1 (by simpa using hoc.hi.2) hod.hi.1 (by simpa using hod.hi.2) e4
  cases c; cases d
  simp only at f1 f2 f3 f4 f5 f6 e6 e7 e9 e10
  subst f1 f2 f3 f4 f5 f6 e6 e7 e9 e10
  rfl
/-- What Get answers: the capsule of these bytes, or that they are none's. -/
def Res (l : List Int) (c : Cp) (e : Int) : Prop := (e = 0 ∧ c.May ∧ c.Form ∧ l = c.inner ++ c.sig) ∨ (e = 230 ∧ c = zeroCp ∧ ∀ d : Cp, d.Ok → d.May → l ≠ d.inner ++ d.sig)
theorem res_one {l : List Int} {c d : Cp} {e f : Int} (h : Res l c e) (k : Res l d f) : c = d ∧ e = f := by
  rcases h with ⟨h1, h2, h3, h4⟩ | ⟨h1, h2, h3⟩ <;> rcases k with ⟨k1, k2, k3, k4⟩ | ⟨k1, k2, k3⟩
  · exact ⟨form_inj h3 k3 (h4.symm.trans k4), by omega⟩
  · exact absurd h4 (k3 c h3.ok h2)
  · exact absurd k4 (h3 d k3.ok k2)
  · exact ⟨h2.trans k2.symm, by omega⟩
theorem res_may {l : List Int} {c : Cp} (hf : c.Form) (hl : l = c.inner ++ c.sig) (h : c.May) : Res l c 0 := .inl ⟨rfl, h, hf, hl⟩
theorem res_not {l : List Int} {c : Cp} (hf : c.Form) (hl : l = c.inner ++ c.sig) (h : ¬ c.May) : Res l zeroCp 230 := .inr ⟨rfl, rfl, fun d hd hm e => by
  have := form_inj hf (may_form hd hm) (hl.symm.trans e)
  subst this
  exact h hm⟩
theorem tk_fine {n : Nat} {l : List Int} {b : Bool} (h : tkb n l b = false) : b = false ∧ tkv n l b ++ tkr n l b = l ∧ (tkv n l b).length = n := by
  unfold tkb at h
  split at h
  · cases h
  · rename_i h2
    obtain ⟨e1, e2, _⟩ := tk_ok h2
    rw [e1, e2]
    simp only [not_or, Bool.not_eq_true] at h2
    exact ⟨h2.1, List.take_append_drop _ _, by rw [List.length_take]; omega⟩
theorem tkv_le (n : Nat) (l : List Int) (b : Bool) : (tkv n l b).length ≤ n := by
  unfold tkv
  split
  · rw [List.length_replicate]; omega
  · rw [List.length_take]; omega
theorem nm_fine {n : Nat} {l : List Int} {b : Bool} (hl : Byt l) (h : tkb n l b = false) : be n (nmv n l b) = tkv n l b := by
  have h2 := be_num (tkv_byt (n := n) (b := b) hl)
  rw [(tk_fine h).2.2] at h2
  exact h2
theorem txn_lt {l : List Int} (b : Bool) (hl : Byt l) : txn l b < 65536 := by
  have := nmv_range (n := 2) b hl (by decide)
  unfold txn
  omega
theorem tx_fine {l : List Int} {b : Bool} (hl : Byt l) (h : txb l b = false) : b = false ∧ be 2 (txv l b).length ++ (txv l b ++ txr l b) = l := by
  unfold txb at h
  obtain ⟨h1, h2, h3⟩ := tk_fine h
  obtain ⟨k1, k2, k3⟩ := tk_fine h1
  refine ⟨k1, ?_⟩
  unfold txv txr
  rw [h2, h3, show ((txn l b : Nat) : Int) = nmv 2 l b from by
    have := nmv_range (n := 2) b hl (by decide)
    unfold txn
    omega, nm_fine hl h1]
  exact k2
theorem tk_app {n : Nat} {x y : List Int} (h : x.length = n) : tkv n (x ++ y) false = x ∧ tkr n (x ++ y) false = y ∧ tkb n (x ++ y) false = false := by
  subst h
  obtain ⟨e1, e2, e3⟩ := tk_ok (n := x.length) (l := x ++ y) (b := false) (by simp)
  rw [e1, e2, e3]
  exact ⟨List.take_left .., List.drop_left .., rfl⟩
theorem tx_app {x y : List Int} (h : x.length < 65536) : txv (be 2 x.length ++ (x ++ y)) false = x ∧ txr (be 2 x.length ++ (x ++ y)) false = y ∧ txb (be 2 x.length ++ (x ++ y)) false = false := by
  obtain ⟨e1, e2, e3⟩ := tk_app (n := 2) (x := be 2 x.length) (y := x ++ y) (be_length _ _)
  have en : txn (be 2 x.length ++ (x ++ y)) false = x.length := by
    unfold txn nmv
    rw [e1, num_be 2 (by omega) (by omega)]
    rfl
  unfold txv txr txb
  rw [en, e2, e3]
  exact tk_app rfl

theorem get_calls (l : List Int) (yl : Byt l) (hl : l.length < 100000) : ∃ c e, Res l c e ∧ ∀ (v : Value) (w : World), Row 0 w v l → Ret 21 #[v] w (fun u w' => ∃ x, u = .tuple #[x, .int .i64 e] ∧ CapV w.heap.size w' x c) := by
  obtain ⟨n1, en1⟩ : ∃ x, nmv 1 l false = x := ⟨_, rfl⟩
  obtain ⟨l1, el1⟩ : ∃ x, tkr 1 l false = x := ⟨_, rfl⟩
  obtain ⟨q1, eb1⟩ : ∃ x, tkb 1 l false = x := ⟨_, rfl⟩
  have y1 : Byt l1 := by rw [← el1]; exact tkr_byt yl
  have h1 : l1.length < 100000 := by have := tkr_len 1 l false; rw [el1] at this; omega
  have r1 := nmv_range (n := 1) false yl (by decide)
  rw [en1] at r1
  obtain ⟨n2, en2⟩ : ∃ x, nmv 1 l1 q1 = x := ⟨_, rfl⟩
  obtain ⟨l2, el2⟩ : ∃ x, tkr 1 l1 q1 = x := ⟨_, rfl⟩
  obtain ⟨q2, eb2⟩ : ∃ x, tkb 1 l1 q1 = x := ⟨_, rfl⟩
  have y2 : Byt l2 := by rw [← el2]; exact tkr_byt y1
  have h2 : l2.length < 100000 := by have := tkr_len 1 l1 q1; rw [el2] at this; omega
  have r2 := nmv_range (n := 1) q1 y1 (by decide)
  rw [en2] at r2
  obtain ⟨n3, en3⟩ : ∃ x, nmv 4 l2 q2 = x := ⟨_, rfl⟩
  obtain ⟨l3, el3⟩ : ∃ x, tkr 4 l2 q2 = x := ⟨_, rfl⟩
  obtain ⟨q3, eb3⟩ : ∃ x, tkb 4 l2 q2 = x := ⟨_, rfl⟩
  have y3 : Byt l3 := by rw [← el3]; exact tkr_byt y2
  have h3 : l3.length < 100000 := by have := tkr_len 4 l2 q2; rw [el3] at this; omega
  have r3 := nmv_range (n := 4) q2 y2 (by decide)
  rw [en3] at r3
  obtain ⟨n4, en4⟩ : ∃ x, nmv 4 l3 q3 = x := ⟨_, rfl⟩
  obtain ⟨l4, el4⟩ : ∃ x, tkr 4 l3 q3 = x := ⟨_, rfl⟩
  obtain ⟨q4, eb4⟩ : ∃ x, tkb 4 l3 q3 = x := ⟨_, rfl⟩
  have y4 : Byt l4 := by rw [← el4]; exact tkr_byt y3
  have h4 : l4.length < 100000 := by have := tkr_len 4 l3 q3; rw [el4] at this; omega
  have r4 := nmv_range (n := 4) q3 y3 (by decide)
  rw [en4] at r4
  obtain ⟨n5, en5⟩ : ∃ x, nmv 8 l4 q4 = x := ⟨_, rfl⟩
  obtain ⟨l5, el5⟩ : ∃ x, tkr 8 l4 q4 = x := ⟨_, rfl⟩
  obtain ⟨q5, eb5⟩ : ∃ x, tkb 8 l4 q4 = x := ⟨_, rfl⟩
  have y5 : Byt l5 := by rw [← el5]; exact tkr_byt y4
  have h5 : l5.length < 100000 := by have := tkr_len 8 l4 q4; rw [el5] at this; omega
  have r5 := nmv_range (n := 8) q4 y4 (by decide)
  rw [en5] at r5
  obtain ⟨n6, en6⟩ : ∃ x, nmv 8 l5 q5 = x := ⟨_, rfl⟩
  obtain ⟨l6, el6⟩ : ∃ x, tkr 8 l5 q5 = x := ⟨_, rfl⟩
  obtain ⟨q6, eb6⟩ : ∃ x, tkb 8 l5 q5 = x := ⟨_, rfl⟩
  have y6 : Byt l6 := by rw [← el6]; exact tkr_byt y5
  have h6 : l6.length < 100000 := by have := tkr_len 8 l5 q5; rw [el6] at this; omega
  have r6 := nmv_range (n := 8) q5 y5 (by decide)
  rw [en6] at r6
  obtain ⟨p7, ep7⟩ : ∃ x, txv l6 q6 = x := ⟨_, rfl⟩
  obtain ⟨l7, el7⟩ : ∃ x, txr l6 q6 = x := ⟨_, rfl⟩
  obtain ⟨q7, eb7⟩ : ∃ x, txb l6 q6 = x := ⟨_, rfl⟩
  have y7 : Byt l7 := by rw [← el7]; exact tkr_byt (tkr_byt y6)
  have h7 : l7.length < 100000 := by have h1 := tkr_len 2 l6 q6; have h2 := tkr_len (txn l6 q6) (tkr 2 l6 q6) (tkb 2 l6 q6); rw [show tkr (txn l6 q6) (tkr 2 l6 q6) (tkb 2 l6 q6) = l7 from el7] at h2; omega
  have z7 : Byt p7 := by rw [← ep7]; exact tkv_byt (tkr_byt y6)
  have s7 : p7.length < 65536 := by rw [← ep7]; exact Nat.lt_of_le_of_lt (tkv_le _ _ _) (txn_lt _ y6)
  obtain ⟨p8, ep8⟩ : ∃ x, tkv 1088 l7 q7 = x := ⟨_, rfl⟩
  obtain ⟨l8, el8⟩ : ∃ x, tkr 1088 l7 q7 = x := ⟨_, rfl⟩
  obtain ⟨q8, eb8⟩ : ∃ x, tkb 1088 l7 q7 = x := ⟨_, rfl⟩
  have y8 : Byt l8 := by rw [← el8]; exact tkr_byt y7
  have h8 : l8.length < 100000 := by have := tkr_len 1088 l7 q7; rw [el8] at this; omega
  have z8 : Byt p8 := by rw [← ep8]; exact tkv_byt y7
  have s8 : p8.length < 65536 := by have := tkv_le 1088 l7 q7; rw [ep8] at this; omega
  obtain ⟨p9, ep9⟩ : ∃ x, txv l8 q8 = x := ⟨_, rfl⟩
  obtain ⟨l9, el9⟩ : ∃ x, txr l8 q8 = x := ⟨_, rfl⟩
  obtain ⟨q9, eb9⟩ : ∃ x, txb l8 q8 = x := ⟨_, rfl⟩
  have y9 : Byt l9 := by rw [← el9]; exact tkr_byt (tkr_byt y8)
  have h9 : l9.length < 100000 := by have h1 := tkr_len 2 l8 q8; have h2 := tkr_len (txn l8 q8) (tkr 2 l8 q8) (tkb 2 l8 q8); rw [show tkr (txn l8 q8) (tkr 2 l8 q8) (tkb 2 l8 q8) = l9 from el9] at h2; omega
  have z9 : Byt p9 := by rw [← ep9]; exact tkv_byt (tkr_byt y8)
  have s9 : p9.length < 65536 := by rw [← ep9]; exact Nat.lt_of_le_of_lt (tkv_le _ _ _) (txn_lt _ y8)
  obtain ⟨p10, ep10⟩ : ∃ x, tkv 3309 l9 q9 = x := ⟨_, rfl⟩
  obtain ⟨l10, el10⟩ : ∃ x, tkr 3309 l9 q9 = x := ⟨_, rfl⟩
  obtain ⟨q10, eb10⟩ : ∃ x, tkb 3309 l9 q9 = x := ⟨_, rfl⟩
  have y10 : Byt l10 := by rw [← el10]; exact tkr_byt y9
  have h10 : l10.length < 100000 := by have := tkr_len 3309 l9 q9; rw [el10] at this; omega
  have z10 : Byt p10 := by rw [← ep10]; exact tkv_byt y9
  have s10 : p10.length < 65536 := by have := tkv_le 3309 l9 q9; rw [ep10] at this; omega
  have ho : Cp.Ok ⟨n1, n2, n3, n4, n5, n6, p7, p8, p9, p10⟩ := ⟨by simp only; omega, by simp only; omega, by simpa using r3, by simpa using r4, by simpa using r5, by simpa using r6, z7, z8, z9, z10⟩
  have hno : (q10 = true ∨ 0 < l10.length) → Res l zeroCp 230 := fun hb => .inr ⟨rfl, rfl, fun d hd hm e => by
    obtain ⟨hod, a1, a2, a3, a4, a5, a6⟩ := may_form hd hm
    rw [show d.inner ++ d.sig = [d.fr % 256] ++ ([d.tt % 256] ++ (be 4 d.tid ++ (be 4 d.key ++ (be 8 d.lo ++ (be 8 d.hi ++ (be 2 d.pub.length ++ (d.pub ++ (d.ct ++ (be 2 d.sl.length ++ (d.sl ++ (d.sig ++ []))))))))))) from by simp [Cp.inner, Cp.said]] at e
    obtain ⟨_, u0, v0⟩ := tk_app (n := 1) (x := [d.fr % 256]) (y := _) (rfl)
    rw [e] at el1 eb1
    rw [u0] at el1
    rw [v0] at eb1
    subst el1 eb1
    obtain ⟨_, u1, v1⟩ := tk_app (n := 1) (x := [d.tt % 256]) (y := _) (rfl)
    rw [u1] at el2
    rw [v1] at eb2
    subst el2 eb2
    obtain ⟨_, u2, v2⟩ := tk_app (n := 4) (x := be 4 d.tid) (y := _) (be_length _ _)
    rw [u2] at el3
    rw [v2] at eb3
    subst el3 eb3
    obtain ⟨_, u3, v3⟩ := tk_app (n := 4) (x := be 4 d.key) (y := _) (be_length _ _)
    rw [u3] at el4
    rw [v3] at eb4
    subst el4 eb4
    obtain ⟨_, u4, v4⟩ := tk_app (n := 8) (x := be 8 d.lo) (y := _) (be_length _ _)
    rw [u4] at el5
    rw [v4] at eb5
    subst el5 eb5
    obtain ⟨_, u5, v5⟩ := tk_app (n := 8) (x := be 8 d.hi) (y := _) (be_length _ _)
    rw [u5] at el6
    rw [v5] at eb6
    subst el6 eb6
    obtain ⟨_, u7, v7⟩ := tx_app (x := d.pub) (y := _) a3
    rw [u7] at el7
    rw [v7] at eb7
    subst el7 eb7
    obtain ⟨_, u8, v8⟩ := tk_app (n := 1088) (x := d.ct) (y := _) a4
    rw [u8] at el8
    rw [v8] at eb8
    subst el8 eb8
    obtain ⟨_, u9, v9⟩ := tx_app (x := d.sl) (y := _) a5
    rw [u9] at el9
    rw [v9] at eb9
    subst el9 eb9
    obtain ⟨_, u10, v10⟩ := tk_app (n := 3309) (x := d.sig) (y := _) a6
    rw [u10] at el10
    rw [v10] at eb10
    subst el10 eb10
    rcases hb with hb | hb <;> simp at hb⟩
  cases q10 with
  | true => exact ⟨_, _, hno (.inl rfl), fun v w hv => (get_all l l1 l2 l3 l4 l5 l6 l7 l8 l9 l10 p7 p8 p9 p10 _ _ _ _ _ _ _ _ _ _ n1 n2 n3 n4 n5 n6 en1 el1 eb1 en2 el2 eb2 en3 el3 eb3 en4 el4 eb4 en5 el5 eb5 en6 el6 eb6 ep7 el7 eb7 ep8 el8 eb8 ep9 el9 eb9 ep10 el10 eb10 yl hl y1 h1 y2 h2 y3 h3 y4 h4 y5 h5 y6 h6 y7 h7 y8 h8 y9 h9 y10 h10 (by simpa using r1) (by simpa using r2) (by simpa using r3) (by simpa using r4) ho s7 s8 s9 s10 v w hv).mono (fun e w' ⟨u, he, h, hb⟩ => ⟨u, he, h.bad (.inl rfl), hb⟩)⟩
  | false =>
  by_cases hr : 0 < l10.length
  · exact ⟨_, _, hno (.inr hr), fun v w hv => (get_all l l1 l2 l3 l4 l5 l6 l7 l8 l9 l10 p7 p8 p9 p10 _ _ _ _ _ _ _ _ _ _ n1 n2 n3 n4 n5 n6 en1 el1 eb1 en2 el2 eb2 en3 el3 eb3 en4 el4 eb4 en5 el5 eb5 en6 el6 eb6 ep7 el7 eb7 ep8 el8 eb8 ep9 el9 eb9 ep10 el10 eb10 yl hl y1 h1 y2 h2 y3 h3 y4 h4 y5 h5 y6 h6 y7 h7 y8 h8 y9 h9 y10 h10 (by simpa using r1) (by simpa using r2) (by simpa using r3) (by simpa using r4) ho s7 s8 s9 s10 v w hv).mono (fun e w' ⟨u, he, h, hb⟩ => ⟨u, he, h.bad (.inr (.inl hr)), hb⟩)⟩
  have g10 := tk_fine eb10
  obtain ⟨o9, c10, d10⟩ := g10
  subst o9
  obtain ⟨o8, c9⟩ := tx_fine y8 eb9
  subst o8
  obtain ⟨o7, c8, d8⟩ := tk_fine eb8
  subst o7
  obtain ⟨o6, c7⟩ := tx_fine y6 eb7
  subst o6
  have c6 := tk_fine eb6
  have m6 := nm_fine y5 eb6
  obtain ⟨o5, c6, _⟩ := c6
  subst o5
  have c5 := tk_fine eb5
  have m5 := nm_fine y4 eb5
  obtain ⟨o4, c5, _⟩ := c5
  subst o4
  have c4 := tk_fine eb4
  have m4 := nm_fine y3 eb4
  obtain ⟨o3, c4, _⟩ := c4
  subst o3
  have c3 := tk_fine eb3
  have m3 := nm_fine y2 eb3
  obtain ⟨o2, c3, _⟩ := c3
  subst o2
  have c2 := tk_fine eb2
  have m2 := nm_fine y1 eb2
  obtain ⟨o1, c2, _⟩ := c2
  subst o1
  have c1 := tk_fine eb1
  have m1 := nm_fine yl eb1
  obtain ⟨_, c1, _⟩ := c1
  rw [en1] at m1
  rw [el1, ← m1] at c1
  rw [en2] at m2
  rw [el2, ← m2] at c2
  rw [en3] at m3
  rw [el3, ← m3] at c3
  rw [en4] at m4
  rw [el4, ← m4] at c4
  rw [en5] at m5
  rw [el5, ← m5] at c5
  rw [en6] at m6
  rw [el6, ← m6] at c6
  rw [ep7, el7] at c7
  rw [ep8, el8] at c8
  rw [ep9, el9] at c9
  rw [ep10, el10] at c10
  rw [ep8] at d8
  rw [ep10] at d10
  have hl10 : l10 = [] := List.eq_nil_of_length_eq_zero (by omega)
  have hf : Cp.Form ⟨n1, n2, n3, n4, n5, n6, p7, p8, p9, p10⟩ := ⟨ho, by simpa using r1, by simpa using r2, s7, d8, s9, d10⟩
  have hll : l = (Cp.inner ⟨n1, n2, n3, n4, n5, n6, p7, p8, p9, p10⟩) ++ p10 := by
    rw [← c1, ← c2, ← c3, ← c4, ← c5, ← c6, ← c7, ← c8, ← c9, ← c10, hl10]
    simp [Cp.inner, Cp.said, be]
  by_cases hm : Cp.May ⟨n1, n2, n3, n4, n5, n6, p7, p8, p9, p10⟩
  · exact ⟨_, _, res_may hf hll hm, fun v w hv => (get_all l l1 l2 l3 l4 l5 l6 l7 l8 l9 l10 p7 p8 p9 p10 _ _ _ _ _ _ _ _ _ _ n1 n2 n3 n4 n5 n6 en1 el1 eb1 en2 el2 eb2 en3 el3 eb3 en4 el4 eb4 en5 el5 eb5 en6 el6 eb6 ep7 el7 eb7 ep8 el8 eb8 ep9 el9 eb9 ep10 el10 eb10 yl hl y1 h1 y2 h2 y3 h3 y4 h4 y5 h5 y6 h6 y7 h7 y8 h8 y9 h9 y10 h10 (by simpa using r1) (by simpa using r2) (by simpa using r3) (by simpa using r4) ho s7 s8 s9 s10 v w hv).mono (fun e w' ⟨u, he, h, hb⟩ => ⟨u, he, h.good (fun h => by rcases h with h | h | h <;> first | cases h | omega | exact h hm), hb⟩)⟩
  · exact ⟨_, _, res_not hf hll hm, fun v w hv => (get_all l l1 l2 l3 l4 l5 l6 l7 l8 l9 l10 p7 p8 p9 p10 _ _ _ _ _ _ _ _ _ _ n1 n2 n3 n4 n5 n6 en1 el1 eb1 en2 el2 eb2 en3 el3 eb3 en4 el4 eb4 en5 el5 eb5 en6 el6 eb6 ep7 el7 eb7 ep8 el8 eb8 ep9 el9 eb9 ep10 el10 eb10 yl hl y1 h1 y2 h2 y3 h3 y4 h4 y5 h5 y6 h6 y7 h7 y8 h8 y9 h9 y10 h10 (by simpa using r1) (by simpa using r2) (by simpa using r3) (by simpa using r4) ho s7 s8 s9 s10 v w hv).mono (fun e w' ⟨u, he, h, hb⟩ => ⟨u, he, h.bad (.inr (.inr hm)), hb⟩)⟩

end Go.Proofs.Ytgacaemgmgoiaaa.QLeaf
