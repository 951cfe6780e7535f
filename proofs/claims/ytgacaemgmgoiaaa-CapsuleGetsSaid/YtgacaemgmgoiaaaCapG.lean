import Derived.Test.YtgacaemgmgoiaaaCapC
import Derived.Test.YtgacaemgmgoiaaaLemR
import Derived.Test.YtgacaemgmgoiaaaCap4b

/- The law CapsuleGets. -/
namespace Go.Proofs.Ytgacaemgmgoiaaa.QLeaf
open Go.RowKit Go.Proofs.YtgacaemgmgoiaaaW.PrintWords Go.Proofs.YtgacaemgmgoiaaaW.PrintLast Go.Proofs.YtgacaemgmgoiaaaW.PrintMore Go.Proofs.YtgacaemgmgoiaaaW.Cm Go.Proofs.YtgacaemgmgoiaaaW.Rg
set_option linter.unusedVariables false
set_option linter.unusedSimpArgs false

set_option maxHeartbeats 4000000 in
set_option maxRecDepth 100000 in
theorem gets_law (l : List Int) (yl : Byt l) (hg : l.length ≤ 90000 → ∃ (c : Cp) (e : Int), c.Ok ∧ (∀ (v : Value) (w : World), Row 0 w v l → Ret 21 #[v] w (fun u w' => ∃ x, u = .tuple #[x, .int .i64 e] ∧ CapV w.heap.size w' x c)) ∧ (∀ (v : Value) (w : World), Row 0 w v l → Ret 22 #[v] w (fun u w' => ∃ x, u = .tuple #[x, .int .i64 e] ∧ CapV w.heap.size w' x c))) (v : Value) (w : World) (hv : Row 0 w v l) : Ret 5 #[v] w (isV (.bool true)) := by
  obtain ⟨A0, c0, rfl, x1, x2, x3⟩ := hv
  have hv : Row 0 w (.slice A0 l.length c0) l := ⟨_, _, rfl, x1, x2, x3⟩
  clear x1 x2 x3
  refine enterA (n := 54) Try.func5 rfl rfl fun a0 sz df he => ?_
  have e0 : a0.tmps[0]? = some (.slice A0 l.length c0) := he 0 _ rfl
  clear he
  have CH : Chg (fun _ => False) w w := Chg.refl _ _
  have K8 : Keep8 w w := Keep8.refl _
  refine wp_seq_k fun KK1 hKK1 => ?_
  refine raI (S := fun _ => False) 54 1 sz [2] [isV (.bool false)] [Tr, Tr] rfl (by decide) (by decide) (by decide) ?_ ?_ ?_ ?_
  · intro J hJ; cases hJ; exact trivial
  · exact (sr_cons (sr_V _ _) (sr_nil _))
  ·refine sti_cons ?_ sti_nil
   ·refine sti rfl rfl rfl rfl rfl rfl rfl fun a w' hM hI hoff hp K hK => ?_
    clear hoff hp
    exact ov  (hK _ _ (Rl.refl _ _) trivial rfl)
  intro a1 w1 sz1 df1 hoff hvv hRl hJ
  replace hv := hv.keep hRl.keep
  replace CH := CH.trans hRl.chg (fun _ _ h => h.elim)
  replace K8 := K8.trans hRl.keep
  obtain ⟨_, e2, rfl⟩ := hvv 0 _ _ rfl rfl
  replace e0 := (hoff 0 rfl).trans e0
  replace sz := sz1
  replace df := df1.trans df
  have Zw1 : w.heap.size ≤ w1.heap.size := CH.size
  clear sz1 df1 hoff hvv hRl hJ
  refine wpo_all rfl ?_
  refine hKK1 _ _ ?_
  refine wp_seq_k fun KK2 hKK2 => ?_
  refine wp_seq_k fun KK3 hKK3 => ?_
  by_cases hl : 90000 < l.length
  ·skip
   refine raI (S := fun _ => False) 54 7 sz [9, 10, 11, 12, 13, 14, 15] [isV (.bool true), isV (.bool false), isV (.bool false), isV (.slice A0 l.length c0), isV (.int .i64 (l).length), isV (.bool true), isV (.bool true)] [Tr, Tr, Tr, Tr, Tr, Tr, Tr, Tr] rfl (by decide) (by decide) (by decide) ?_ ?_ ?_ ?_
   · intro J hJ; cases hJ; exact trivial
   · exact (sr_cons (sr_V _ _) (sr_cons (sr_V _ _) (sr_cons (sr_V _ _) (sr_cons (sr_V _ _) (sr_cons (sr_V _ _) (sr_cons (sr_V _ _) (sr_cons (sr_V _ _) (sr_nil _))))))))
   ·refine sti_cons ?_ (sti_cons ?_ (sti_cons ?_ (sti_cons ?_ (sti_cons ?_ (sti_cons ?_ (sti_cons ?_ sti_nil))))))
    ·refine sti rfl rfl rfl rfl rfl rfl rfl fun a w' hM hI hoff hp K hK => ?_
     clear hoff hp
     refine op_call Try.func7 (by kernel_rfl) rfl #[] rfl (by simp [Act.eval]) (live_calls _) ?_
     rintro e w1 ⟨u, rfl, hR, hb⟩
     exact ⟨u, rfl, hK _ _ (Rl.of_below hb) trivial hR⟩
    ·refine sti rfl rfl rfl rfl rfl rfl rfl fun a w' hM hI hoff hp K hK => ?_
     obtain ⟨_, e9, rfl⟩ := hp 0 rfl 9 _ rfl rfl
     clear hoff hp
     exact ov  (hK _ _ (Rl.refl _ _) trivial rfl)
    ·refine sti rfl rfl rfl rfl rfl rfl rfl fun a w' hM hI hoff hp K hK => ?_
     obtain ⟨_, e10, rfl⟩ := hp 1 rfl 10 _ rfl rfl
     clear hoff hp
     exact ov  (hK _ _ (Rl.refl _ _) trivial rfl)
    ·refine stiy 2 rfl rfl rfl rfl rfl rfl rfl rfl rfl rfl rfl fun a w' hM hI hoff hp K hK => ?_
     have e0 : a.tmps[0]? = some (.slice A0 l.length c0) := (hoff 0 rfl).trans e0
     clear hoff hp
     exact ov  (hK _ _ (Rl.refl _ _) trivial rfl)
    ·refine stiy 2 rfl rfl rfl rfl rfl rfl rfl rfl rfl rfl rfl fun a w' hM hI hoff hp K hK => ?_
     obtain ⟨_, e12, rfl⟩ := hp 3 rfl 12 _ rfl rfl
     clear hoff hp
     have hlen := row_len (P := Try.prog) (hv.keep hM.keep) ⟨_, Try.underlying26⟩
     exact ov  (hK _ _ (Rl.refl _ _) trivial rfl)
    ·refine stiy 2 rfl rfl rfl rfl rfl rfl rfl rfl rfl rfl rfl fun a w' hM hI hoff hp K hK => ?_
     obtain ⟨_, e13, rfl⟩ := hp 4 rfl 13 _ rfl rfl
     clear hoff hp
     have q1 : decide ((90000 : Int) < (l.length : Int)) = true := by rw [decide_eq_true_eq]; omega
     exact ov  (hK _ _ (Rl.refl _ _) trivial rfl)
    ·refine sti rfl rfl rfl rfl rfl rfl rfl fun a w' hM hI hoff hp K hK => ?_
     obtain ⟨_, e11, rfl⟩ := hp 2 rfl 11 _ rfl rfl
     obtain ⟨_, e14, rfl⟩ := hp 5 rfl 14 _ rfl rfl
     clear hoff hp
     exact ov  (hK _ _ (Rl.refl _ _) trivial rfl)
   intro a2 w2 sz1 df1 hoff hvv hRl hJ
   replace hv := hv.keep hRl.keep
   replace CH := CH.trans hRl.chg (fun _ _ h => h.elim)
   replace K8 := K8.trans hRl.keep
   obtain ⟨_, e15, rfl⟩ := hvv 6 _ _ rfl rfl
   replace e0 := (hoff 0 rfl).trans e0
   replace e2 := (hoff 2 rfl).trans e2
   replace sz := sz1
   replace df := df1.trans df
   have Zw2 : w.heap.size ≤ w2.heap.size := CH.size
   clear sz1 df1 hoff hvv hRl hJ
   refine wpo_all rfl ?_
   refine hKK3 _ _ ?_
   refine wp_cond_true (ev e15) ?_
   refine wp_seq_k fun KK4 hKK4 => ?_
   refine raI (S := fun _ => False) 54 2 sz [16, 2] [isV (.bool true), isV (.bool true)] [Tr, Tr, Tr] rfl (by decide) (by decide) (by decide) ?_ ?_ ?_ ?_
   · intro J hJ; cases hJ; exact trivial
   · exact (sr_cons (sr_V _ _) (sr_cons (sr_V _ _) (sr_nil _)))
   ·refine sti_cons ?_ (sti_cons ?_ sti_nil)
    ·refine sti rfl rfl rfl rfl rfl rfl rfl fun a w' hM hI hoff hp K hK => ?_
     clear hoff hp
     refine op_call Try.func7 (by kernel_rfl) rfl #[] rfl (by simp [Act.eval]) (live_calls _) ?_
     rintro e w1 ⟨u, rfl, hR, hb⟩
     exact ⟨u, rfl, hK _ _ (Rl.of_below hb) trivial hR⟩
    ·refine sti rfl rfl rfl rfl rfl rfl rfl fun a w' hM hI hoff hp K hK => ?_
     obtain ⟨_, e16, rfl⟩ := hp 0 rfl 16 _ rfl rfl
     clear hoff hp
     exact ov  (hK _ _ (Rl.refl _ _) trivial rfl)
   intro a3 w3 sz1 df1 hoff hvv hRl hJ
   replace hv := hv.keep hRl.keep
   replace CH := CH.trans hRl.chg (fun _ _ h => h.elim)
   replace K8 := K8.trans hRl.keep
   obtain ⟨_, e2, rfl⟩ := hvv 1 _ _ rfl rfl
   replace e0 := (hoff 0 rfl).trans e0
   replace e15 := (hoff 15 rfl).trans e15
   replace sz := sz1
   replace df := df1.trans df
   have Zw3 : w.heap.size ≤ w3.heap.size := CH.size
   clear sz1 df1 hoff hvv hRl hJ
   refine wpo_all rfl ?_
   refine hKK4 _ _ ?_
   refine wp_ret ?_
   refine then_r ?_
   exact ret1 rfl df e2 ⟨_, rfl, rfl, CH.below (fun _ _ h => h)⟩
  ·skip
   refine raI (S := fun _ => False) 54 7 sz [9, 10, 11, 12, 13, 14, 15] [isV (.bool true), isV (.bool false), isV (.bool false), isV (.slice A0 l.length c0), isV (.int .i64 (l).length), isV (.bool false), isV (.bool false)] [Tr, Tr, Tr, Tr, Tr, Tr, Tr, Tr] rfl (by decide) (by decide) (by decide) ?_ ?_ ?_ ?_
   · intro J hJ; cases hJ; exact trivial
   · exact (sr_cons (sr_V _ _) (sr_cons (sr_V _ _) (sr_cons (sr_V _ _) (sr_cons (sr_V _ _) (sr_cons (sr_V _ _) (sr_cons (sr_V _ _) (sr_cons (sr_V _ _) (sr_nil _))))))))
   ·refine sti_cons ?_ (sti_cons ?_ (sti_cons ?_ (sti_cons ?_ (sti_cons ?_ (sti_cons ?_ (sti_cons ?_ sti_nil))))))
    ·refine sti rfl rfl rfl rfl rfl rfl rfl fun a w' hM hI hoff hp K hK => ?_
     clear hoff hp
     refine op_call Try.func7 (by kernel_rfl) rfl #[] rfl (by simp [Act.eval]) (live_calls _) ?_
     rintro e w1 ⟨u, rfl, hR, hb⟩
     exact ⟨u, rfl, hK _ _ (Rl.of_below hb) trivial hR⟩
    ·refine sti rfl rfl rfl rfl rfl rfl rfl fun a w' hM hI hoff hp K hK => ?_
     obtain ⟨_, e9, rfl⟩ := hp 0 rfl 9 _ rfl rfl
     clear hoff hp
     exact ov  (hK _ _ (Rl.refl _ _) trivial rfl)
    ·refine sti rfl rfl rfl rfl rfl rfl rfl fun a w' hM hI hoff hp K hK => ?_
     obtain ⟨_, e10, rfl⟩ := hp 1 rfl 10 _ rfl rfl
     clear hoff hp
     exact ov  (hK _ _ (Rl.refl _ _) trivial rfl)
    ·refine stiy 2 rfl rfl rfl rfl rfl rfl rfl rfl rfl rfl rfl fun a w' hM hI hoff hp K hK => ?_
     have e0 : a.tmps[0]? = some (.slice A0 l.length c0) := (hoff 0 rfl).trans e0
     clear hoff hp
     exact ov  (hK _ _ (Rl.refl _ _) trivial rfl)
    ·refine stiy 2 rfl rfl rfl rfl rfl rfl rfl rfl rfl rfl rfl fun a w' hM hI hoff hp K hK => ?_
     obtain ⟨_, e12, rfl⟩ := hp 3 rfl 12 _ rfl rfl
     clear hoff hp
     have hlen := row_len (P := Try.prog) (hv.keep hM.keep) ⟨_, Try.underlying26⟩
     exact ov  (hK _ _ (Rl.refl _ _) trivial rfl)
    ·refine stiy 2 rfl rfl rfl rfl rfl rfl rfl rfl rfl rfl rfl fun a w' hM hI hoff hp K hK => ?_
     obtain ⟨_, e13, rfl⟩ := hp 4 rfl 13 _ rfl rfl
     clear hoff hp
     have q1 : decide ((90000 : Int) < (l.length : Int)) = false := by rw [decide_eq_false_iff_not]; omega
     exact ov  (hK _ _ (Rl.refl _ _) trivial rfl)
    ·refine sti rfl rfl rfl rfl rfl rfl rfl fun a w' hM hI hoff hp K hK => ?_
     obtain ⟨_, e11, rfl⟩ := hp 2 rfl 11 _ rfl rfl
     obtain ⟨_, e14, rfl⟩ := hp 5 rfl 14 _ rfl rfl
     clear hoff hp
     exact ov  (hK _ _ (Rl.refl _ _) trivial rfl)
   intro a4 w4 sz1 df1 hoff hvv hRl hJ
   replace hv := hv.keep hRl.keep
   replace CH := CH.trans hRl.chg (fun _ _ h => h.elim)
   replace K8 := K8.trans hRl.keep
   obtain ⟨_, e15, rfl⟩ := hvv 6 _ _ rfl rfl
   replace e0 := (hoff 0 rfl).trans e0
   replace e2 := (hoff 2 rfl).trans e2
   replace sz := sz1
   replace df := df1.trans df
   have Zw4 : w.heap.size ≤ w4.heap.size := CH.size
   clear sz1 df1 hoff hvv hRl hJ
   refine wpo_all rfl ?_
   refine hKK3 _ _ ?_
   refine wp_cond_false (ev e15) ?_
   refine wp_skip ?_
   refine hKK2 _ _ ?_
   refine wp_seq_k fun KK5 hKK5 => ?_
   refine raI (S := fun _ => False) 54 4 sz [17, 18, 19, 3] [isV (.slice A0 l.length c0), isRowsS (fun _ => False) [l], isOwnR w4.heap.size l, isOwnR w4.heap.size l] [Tr, Tr, Tr, Tr, Tr] rfl (by decide) (by decide) (by decide) ?_ ?_ ?_ ?_
   · intro J hJ; cases hJ; exact trivial
   · exact (sr_cons (sr_V _ _) (sr_cons (sr_Rows _ _) (sr_cons (sr_OwnR _ _) (sr_cons (sr_OwnR _ _) (sr_nil _)))))
   ·refine sti_cons ?_ (sti_cons ?_ (sti_cons ?_ (sti_cons ?_ sti_nil)))
    ·refine sti rfl rfl rfl rfl rfl rfl rfl fun a w' hM hI hoff hp K hK => ?_
     have e0 : a.tmps[0]? = some (.slice A0 l.length c0) := (hoff 0 rfl).trans e0
     clear hoff hp
     exact ov  (hK _ _ (Rl.refl _ _) trivial rfl)
    ·refine sti rfl rfl rfl rfl rfl rfl rfl fun a w' hM hI hoff hp K hK => ?_
     obtain ⟨_, e17, rfl⟩ := hp 0 rfl 17 _ rfl rfl
     clear hoff hp
     refine ov (v := .slice (some ⟨w'.heap.size, 0, none⟩) 1 1) (w' := w'.alloc (.cells #[.slice A0 l.length c0] 26))  (hK _ _ (Rl.alloc _ _ _) trivial ?_)
     exact isRowsS.of (RowsB.lit (l := [l]) (vs := #[.slice A0 l.length c0]) (RowL.cons ((hv.keep hM.keep).lower (Nat.zero_le _)) (RowL.nil _)) (by simp)) (fun h => h) (by rw [World.size_alloc]; omega)
    ·refine sti rfl rfl rfl rfl rfl rfl rfl fun a w' hM hI hoff hp K hK => ?_
     obtain ⟨v18, e18, h18⟩ := hp 1 rfl 18 _ rfl rfl
     clear hoff hp
     have h_ := refJoin_own _ (by simp) (by simp; omega) _ _ h18.rows
     rw [show [l].flatten = l from by simp] at h_
     refine op_call Try.func20 (by kernel_rfl) rfl #[v18] rfl (by simp [Act.eval, e18]) h_ ?_
     rintro e w1 ⟨u, rfl, hR, hb⟩
     exact ⟨u, rfl, hK _ _ (Rl.of_below hb) trivial (isOwnR.lower hR hM.keep.size)⟩
    ·refine sti rfl rfl rfl rfl rfl rfl rfl fun a w' hM hI hoff hp K hK => ?_
     obtain ⟨v19, e19, h19⟩ := hp 2 rfl 19 _ rfl rfl
     clear hoff hp
     exact ov  (hK _ _ (Rl.refl _ _) trivial h19)
   intro a5 w5 sz1 df1 hoff hvv hRl hJ
   replace hv := hv.keep hRl.keep
   replace CH := CH.trans hRl.chg (fun _ _ h => h.elim)
   replace K8 := K8.trans hRl.keep
   obtain ⟨u3, e3, g3, O3, G3, Kr3⟩ := hvv 3 _ _ rfl rfl
   replace G3 : 0 < l.length → w.heap.size ≤ g3 ∧ g3 < w5.heap.size := fun hn => ⟨Nat.le_trans Zw4 (G3 hn).1, (G3 hn).2⟩
   replace e0 := (hoff 0 rfl).trans e0
   replace e2 := (hoff 2 rfl).trans e2
   replace e15 := (hoff 15 rfl).trans e15
   replace sz := sz1
   replace df := df1.trans df
   have Zw5 : w.heap.size ≤ w5.heap.size := CH.size
   clear sz1 df1 hoff hvv hRl hJ
   refine wpo_all rfl ?_
   refine hKK5 _ _ ?_
   refine wp_seq_k fun KK6 hKK6 => ?_
   obtain ⟨c, e, hok, hget, hget2⟩ := hg (by omega)
   refine raI (S := fun _ => False) 54 6 sz [21, 22, 20, 23, 24, 4] [isV (u3), isPair (isCapB w5.heap.size c) (.int .i64 e), isPair (isCapB w5.heap.size c) (.int .i64 e), isCapB w5.heap.size c, isV (.int .i64 e), isBoxC w5.heap.size #[.int .i64 0, .int .i64 0, .int .u32 0, .int .u32 0, .int .u64 0, .int .u64 0, .slice none 0 0, .slice none 0 0, .slice none 0 0, .slice none 0 0] 28] [Tr, Tr, Tr, Tr, Tr, Tr, Tr] rfl (by decide) (by decide) (by decide) ?_ ?_ ?_ ?_
   · intro J hJ; cases hJ; exact trivial
   · exact (sr_cons (sr_V _ _) (sr_cons (sr_Pair (sr_CapB _ _ _) _) (sr_cons (sr_Pair (sr_CapB _ _ _) _) (sr_cons (sr_CapB _ _ _) (sr_cons (sr_V _ _) (sr_cons (sr_BoxS _ _ _ (fun _ _ h => h)) (sr_nil _)))))))
   ·refine sti_cons ?_ (sti_cons ?_ (sti_cons ?_ (sti_cons ?_ (sti_cons ?_ (sti_cons ?_ sti_nil)))))
    ·refine sti rfl rfl rfl rfl rfl rfl rfl fun a w' hM hI hoff hp K hK => ?_
     have e3 : a.tmps[3]? = some (u3) := (hoff 3 rfl).trans e3
     clear hoff hp
     exact ov  (hK _ _ (Rl.refl _ _) trivial rfl)
    ·refine sti rfl rfl rfl rfl rfl rfl rfl fun a w' hM hI hoff hp K hK => ?_
     obtain ⟨v21, e21, ev21⟩ := hp 0 rfl 21 _ rfl rfl
     replace e21 : a.tmps[21]? = some (u3) := e21.trans (congrArg some (show v21 = u3 from ev21))
     clear ev21 v21
     clear hoff hp
     refine op_call Try.func21 (by kernel_rfl) rfl #[u3] rfl (by simp [Act.eval, e21]) (hget _ _ ((Kr3.keep hM.keep).lower (Nat.zero_le _))) ?_
     rintro e w1 ⟨u, rfl, hR, hb⟩
     exact ⟨u, rfl, hK _ _ (Rl.of_below hb) trivial (let ⟨u_, h1_, h2_⟩ := hR; ⟨u_, h1_, CapV.lower h2_ hM.keep.size⟩)⟩
    ·refine sti rfl rfl rfl rfl rfl rfl rfl fun a w' hM hI hoff hp K hK => ?_
     obtain ⟨v22, e22, h22⟩ := hp 1 rfl 22 _ rfl rfl
     clear hoff hp
     exact ov  (hK _ _ (Rl.refl _ _) trivial h22)
    ·refine sti rfl rfl rfl rfl rfl rfl rfl fun a w' hM hI hoff hp K hK => ?_
     obtain ⟨v20, e20, h20⟩ := hp 2 rfl 20 _ rfl rfl
     clear hoff hp
     obtain ⟨u_, ev_, hR_⟩ := h20
     subst ev_
     exact ov  (hK _ _ (Rl.refl _ _) trivial hR_)
    ·refine sti rfl rfl rfl rfl rfl rfl rfl fun a w' hM hI hoff hp K hK => ?_
     obtain ⟨v20, e20, h20⟩ := hp 2 rfl 20 _ rfl rfl
     clear hoff hp
     obtain ⟨u_, ev_, hR_⟩ := h20
     subst ev_
     exact ov  (hK _ _ (Rl.refl _ _) trivial rfl)
    ·refine sti rfl rfl rfl rfl rfl rfl rfl fun a w' hM hI hoff hp K hK => ?_
     clear hoff hp
     refine op_alloc 28 #[.int .i64 0, .int .i64 0, .int .u32 0, .int .u32 0, .int .u64 0, .int .u64 0, .slice none 0 0, .slice none 0 0, .slice none 0 0, .slice none 0 0] rfl (by kernel_rfl) (hK _ _ (Rl.alloc _ _ _) trivial ⟨_, rfl, hM.keep.size, heap_new _ _⟩)
   intro a6 w6 sz1 df1 hoff hvv hRl hJ
   obtain ⟨v_, e4, bx4, z_, G6_4, H4⟩ := hvv 5 _ _ rfl rfl
   rw [z_] at e4
   clear z_
   have G4 : w.heap.size ≤ bx4 := Nat.le_trans CH.size G6_4
   have gw_w5 : 0 < l.length → g3 < w5.heap.size := fun hn => (G3 hn).2
   have neo3_x4 : 0 < l.length → g3 ≠ bx4 := fun hn => ne_new (G3 hn).2 G6_4
   replace hv := hv.keep hRl.keep
   replace Kr3 := Kr3.keep hRl.keep
   replace O3 := O3.chg hRl.chg (fun _ h => h)
   replace G3 : 0 < l.length → w.heap.size ≤ g3 ∧ g3 < w6.heap.size := fun hn => ⟨(G3 hn).1, Nat.lt_of_lt_of_le (G3 hn).2 hRl.chg.size⟩
   replace CH := CH.trans hRl.chg (fun _ _ h => h.elim)
   replace K8 := K8.trans hRl.keep
   obtain ⟨_, e23, x23_6, x23_7, x23_8, x23_9, rfl, g23_6, g23_7, g23_8, g23_9⟩ := hvv 3 _ _ rfl rfl
   obtain ⟨_, e24, rfl⟩ := hvv 4 _ _ rfl rfl
   replace e0 := (hoff 0 rfl).trans e0
   replace e2 := (hoff 2 rfl).trans e2
   replace e15 := (hoff 15 rfl).trans e15
   replace e3 := (hoff 3 rfl).trans e3
   replace sz := sz1
   replace df := df1.trans df
   have Zw6 : w.heap.size ≤ w6.heap.size := CH.size
   clear sz1 df1 hoff hvv hRl hJ
   refine wpo_step 6 _ rfl rfl (og_plain rfl ?_)
   refine op_store_row 28 _ _ rfl bx4 #[.int .i64 c.fr, .int .i64 c.tt, .int .u32 c.tid, .int .u32 c.key, .int .u64 c.lo, .int .u64 c.hi, x23_6, x23_7, x23_8, x23_9] (ev e4) (ev e23) 28 _ H4 (by kernel_rfl) rfl (onel ⟨rfl, rfl, rfl, rfl, rfl, rfl, row_one g23_6, row_one g23_7, row_one g23_8, row_one g23_9, trivial⟩) (nbl ⟨rfl, rfl, rfl, rfl, rfl, rfl, rfl, rfl, rfl, rfl, trivial⟩) ?_
   intro w7 H_ hC hK
   change wpOps _ _ _ _ a6 w7
   replace hv := hv.keep hK
   replace Kr3 := Kr3.keep hK
   replace g23_6 := g23_6.keep hK
   replace g23_7 := g23_7.keep hK
   replace g23_8 := g23_8.keep hK
   replace g23_9 := g23_9.keep hK
   replace O3 := O3.chg hC neo3_x4
   replace G3 : 0 < l.length → w.heap.size ≤ g3 ∧ g3 < w7.heap.size := fun hn => ⟨(G3 hn).1, Nat.lt_of_lt_of_le (G3 hn).2 hC.size⟩
   replace CH := CH.trans hC (fun x hx h => (old_new hx G4 h).elim)
   replace K8 := K8.trans hK
   replace H4 : w7.heap[bx4]? = some (.cells #[.int .i64 c.fr, .int .i64 c.tt, .int .u32 c.tid, .int .u32 c.key, .int .u64 c.lo, .int .u64 c.hi, x23_6, x23_7, x23_8, x23_9] 28 (0, 0)) := H_
   clear hC hK
   have Zw7 : w.heap.size ≤ w7.heap.size := CH.size
   refine wpo_step 7 _ rfl rfl (og_plain rfl ?_)
   refine op_assign rfl (v := .int .i64 e) (ev e24) ?_
   refine abs_put (K := fun x => wpOps _ _ _ _ x _) (t := 5) sz (by decide) fun a8 sz1 df1 e_new hoff => ?_
   replace e0 := (hoff 0 rfl).trans e0
   replace e2 := (hoff 2 rfl).trans e2
   replace e15 := (hoff 15 rfl).trans e15
   replace e3 := (hoff 3 rfl).trans e3
   replace e23 := (hoff 23 rfl).trans e23
   replace e24 := (hoff 24 rfl).trans e24
   replace e4 := (hoff 4 rfl).trans e4
   have e5 := e_new
   replace sz := sz1
   replace df := df1.trans df
   clear sz1 df1 hoff e_new
   refine wpo_all rfl ?_
   refine hKK6 _ _ ?_
   refine wp_seq_k fun KK7 hKK7 => ?_
   have L9_x4 := blk_lt H4
   refine raI (S := fun _ => False) 54 6 sz [26, 27, 25, 28, 29, 6] [isV (.slice A0 l.length c0), isPair (isCapB w7.heap.size c) (.int .i64 e), isPair (isCapB w7.heap.size c) (.int .i64 e), isCapB w7.heap.size c, isV (.int .i64 e), isBoxC w7.heap.size #[.int .i64 0, .int .i64 0, .int .u32 0, .int .u32 0, .int .u64 0, .int .u64 0, .slice none 0 0, .slice none 0 0, .slice none 0 0, .slice none 0 0] 28] [Tr, Tr, Tr, Tr, Tr, Tr, Tr] rfl (by decide) (by decide) (by decide) ?_ ?_ ?_ ?_
   · intro J hJ; cases hJ; exact trivial
   · exact (sr_cons (sr_V _ _) (sr_cons (sr_Pair (sr_CapB _ _ _) _) (sr_cons (sr_Pair (sr_CapB _ _ _) _) (sr_cons (sr_CapB _ _ _) (sr_cons (sr_V _ _) (sr_cons (sr_BoxS _ _ _ (fun _ _ h => h)) (sr_nil _)))))))
   ·refine sti_cons ?_ (sti_cons ?_ (sti_cons ?_ (sti_cons ?_ (sti_cons ?_ (sti_cons ?_ sti_nil)))))
    ·refine sti rfl rfl rfl rfl rfl rfl rfl fun a w' hM hI hoff hp K hK => ?_
     have e0 : a.tmps[0]? = some (.slice A0 l.length c0) := (hoff 0 rfl).trans e0
     clear hoff hp
     exact ov  (hK _ _ (Rl.refl _ _) trivial rfl)
    ·refine sti rfl rfl rfl rfl rfl rfl rfl fun a w' hM hI hoff hp K hK => ?_
     obtain ⟨_, e26, rfl⟩ := hp 0 rfl 26 _ rfl rfl
     clear hoff hp
     refine op_call Try.func22 (by kernel_rfl) rfl #[.slice A0 l.length c0] rfl (by simp [Act.eval, e26]) (hget2 _ _ ((hv.keep hM.keep).lower (Nat.zero_le _))) ?_
     rintro e w1 ⟨u, rfl, hR, hb⟩
     exact ⟨u, rfl, hK _ _ (Rl.of_below hb) trivial (let ⟨u_, h1_, h2_⟩ := hR; ⟨u_, h1_, CapV.lower h2_ hM.keep.size⟩)⟩
    ·refine sti rfl rfl rfl rfl rfl rfl rfl fun a w' hM hI hoff hp K hK => ?_
     obtain ⟨v27, e27, h27⟩ := hp 1 rfl 27 _ rfl rfl
     clear hoff hp
     exact ov  (hK _ _ (Rl.refl _ _) trivial h27)
    ·refine sti rfl rfl rfl rfl rfl rfl rfl fun a w' hM hI hoff hp K hK => ?_
     obtain ⟨v25, e25, h25⟩ := hp 2 rfl 25 _ rfl rfl
     clear hoff hp
     obtain ⟨u_, ev_, hR_⟩ := h25
     subst ev_
     exact ov  (hK _ _ (Rl.refl _ _) trivial hR_)
    ·refine sti rfl rfl rfl rfl rfl rfl rfl fun a w' hM hI hoff hp K hK => ?_
     obtain ⟨v25, e25, h25⟩ := hp 2 rfl 25 _ rfl rfl
     clear hoff hp
     obtain ⟨u_, ev_, hR_⟩ := h25
     subst ev_
     exact ov  (hK _ _ (Rl.refl _ _) trivial rfl)
    ·refine sti rfl rfl rfl rfl rfl rfl rfl fun a w' hM hI hoff hp K hK => ?_
     clear hoff hp
     refine op_alloc 28 #[.int .i64 0, .int .i64 0, .int .u32 0, .int .u32 0, .int .u64 0, .int .u64 0, .slice none 0 0, .slice none 0 0, .slice none 0 0, .slice none 0 0] rfl (by kernel_rfl) (hK _ _ (Rl.alloc _ _ _) trivial ⟨_, rfl, hM.keep.size, heap_new _ _⟩)
   intro a9 w9 sz1 df1 hoff hvv hRl hJ
   obtain ⟨v_, e6, bx6, z_, G9_6, H6⟩ := hvv 5 _ _ rfl rfl
   rw [z_] at e6
   clear z_
   have G6 : w.heap.size ≤ bx6 := Nat.le_trans CH.size G9_6
   have nex4_x6 := ne_new L9_x4 G9_6
   have nex6_x4 := new_ne L9_x4 G9_6
   have gw_w7 : 0 < l.length → g3 < w7.heap.size := fun hn => (G3 hn).2
   have neo3_x6 : 0 < l.length → g3 ≠ bx6 := fun hn => ne_new (G3 hn).2 G9_6
   replace H4 := hRl.chg.blk H4 (fun h => h.elim)
   replace hv := hv.keep hRl.keep
   replace Kr3 := Kr3.keep hRl.keep
   replace g23_6 := g23_6.keep hRl.keep
   replace g23_7 := g23_7.keep hRl.keep
   replace g23_8 := g23_8.keep hRl.keep
   replace g23_9 := g23_9.keep hRl.keep
   replace O3 := O3.chg hRl.chg (fun _ h => h)
   replace G3 : 0 < l.length → w.heap.size ≤ g3 ∧ g3 < w9.heap.size := fun hn => ⟨(G3 hn).1, Nat.lt_of_lt_of_le (G3 hn).2 hRl.chg.size⟩
   replace CH := CH.trans hRl.chg (fun _ _ h => h.elim)
   replace K8 := K8.trans hRl.keep
   obtain ⟨_, e28, x28_6, x28_7, x28_8, x28_9, rfl, g28_6, g28_7, g28_8, g28_9⟩ := hvv 3 _ _ rfl rfl
   obtain ⟨_, e29, rfl⟩ := hvv 4 _ _ rfl rfl
   replace e0 := (hoff 0 rfl).trans e0
   replace e2 := (hoff 2 rfl).trans e2
   replace e15 := (hoff 15 rfl).trans e15
   replace e3 := (hoff 3 rfl).trans e3
   replace e23 := (hoff 23 rfl).trans e23
   replace e24 := (hoff 24 rfl).trans e24
   replace e4 := (hoff 4 rfl).trans e4
   replace e5 := (hoff 5 rfl).trans e5
   replace sz := sz1
   replace df := df1.trans df
   have Zw9 : w.heap.size ≤ w9.heap.size := CH.size
   clear sz1 df1 hoff hvv hRl hJ L9_x4
   refine wpo_step 6 _ rfl rfl (og_plain rfl ?_)
   refine op_store_row 28 _ _ rfl bx6 #[.int .i64 c.fr, .int .i64 c.tt, .int .u32 c.tid, .int .u32 c.key, .int .u64 c.lo, .int .u64 c.hi, x28_6, x28_7, x28_8, x28_9] (ev e6) (ev e28) 28 _ H6 (by kernel_rfl) rfl (onel ⟨rfl, rfl, rfl, rfl, rfl, rfl, row_one g28_6, row_one g28_7, row_one g28_8, row_one g28_9, trivial⟩) (nbl ⟨rfl, rfl, rfl, rfl, rfl, rfl, rfl, rfl, rfl, rfl, trivial⟩) ?_
   intro w10 H_ hC hK
   change wpOps _ _ _ _ a9 w10
   replace H4 := hC.blk H4 nex4_x6
   replace hv := hv.keep hK
   replace Kr3 := Kr3.keep hK
   replace g23_6 := g23_6.keep hK
   replace g23_7 := g23_7.keep hK
   replace g23_8 := g23_8.keep hK
   replace g23_9 := g23_9.keep hK
   replace g28_6 := g28_6.keep hK
   replace g28_7 := g28_7.keep hK
   replace g28_8 := g28_8.keep hK
   replace g28_9 := g28_9.keep hK
   replace O3 := O3.chg hC neo3_x6
   replace G3 : 0 < l.length → w.heap.size ≤ g3 ∧ g3 < w10.heap.size := fun hn => ⟨(G3 hn).1, Nat.lt_of_lt_of_le (G3 hn).2 hC.size⟩
   replace CH := CH.trans hC (fun x hx h => (old_new hx G6 h).elim)
   replace K8 := K8.trans hK
   replace H6 : w10.heap[bx6]? = some (.cells #[.int .i64 c.fr, .int .i64 c.tt, .int .u32 c.tid, .int .u32 c.key, .int .u64 c.lo, .int .u64 c.hi, x28_6, x28_7, x28_8, x28_9] 28 (0, 0)) := H_
   clear hC hK
   have Zw10 : w.heap.size ≤ w10.heap.size := CH.size
   refine wpo_step 7 _ rfl rfl (og_plain rfl ?_)
   refine op_assign rfl (v := .int .i64 e) (ev e29) ?_
   refine abs_put (K := fun x => wpOps _ _ _ _ x _) (t := 7) sz (by decide) fun a11 sz1 df1 e_new hoff => ?_
   replace e0 := (hoff 0 rfl).trans e0
   replace e2 := (hoff 2 rfl).trans e2
   replace e15 := (hoff 15 rfl).trans e15
   replace e3 := (hoff 3 rfl).trans e3
   replace e23 := (hoff 23 rfl).trans e23
   replace e24 := (hoff 24 rfl).trans e24
   replace e4 := (hoff 4 rfl).trans e4
   replace e5 := (hoff 5 rfl).trans e5
   replace e28 := (hoff 28 rfl).trans e28
   replace e29 := (hoff 29 rfl).trans e29
   replace e6 := (hoff 6 rfl).trans e6
   have e7 := e_new
   replace sz := sz1
   replace df := df1.trans df
   clear sz1 df1 hoff e_new
   refine wpo_all rfl ?_
   refine hKK7 _ _ ?_
   refine wp_seq_k fun KK8 hKK8 => ?_
   refine wp_seq_k fun KK9 hKK9 => ?_
   refine raI (S := fun _ => False) 54 4 sz [30, 31, 32, 33] [isV (u3), isV (.slice A0 l.length c0), isV (.bool true), isV (.bool false)] [Tr, Tr, Tr, Tr, Tr] rfl (by decide) (by decide) (by decide) ?_ ?_ ?_ ?_
   · intro J hJ; cases hJ; exact trivial
   · exact (sr_cons (sr_V _ _) (sr_cons (sr_V _ _) (sr_cons (sr_V _ _) (sr_cons (sr_V _ _) (sr_nil _)))))
   ·refine sti_cons ?_ (sti_cons ?_ (sti_cons ?_ (sti_cons ?_ sti_nil)))
    ·refine sti rfl rfl rfl rfl rfl rfl rfl fun a w' hM hI hoff hp K hK => ?_
     have e3 : a.tmps[3]? = some (u3) := (hoff 3 rfl).trans e3
     clear hoff hp
     exact ov  (hK _ _ (Rl.refl _ _) trivial rfl)
    ·refine sti rfl rfl rfl rfl rfl rfl rfl fun a w' hM hI hoff hp K hK => ?_
     have e0 : a.tmps[0]? = some (.slice A0 l.length c0) := (hoff 0 rfl).trans e0
     clear hoff hp
     exact ov  (hK _ _ (Rl.refl _ _) trivial rfl)
    ·refine sti rfl rfl rfl rfl rfl rfl rfl fun a w' hM hI hoff hp K hK => ?_
     obtain ⟨v30, e30, ev30⟩ := hp 0 rfl 30 _ rfl rfl
     replace e30 : a.tmps[30]? = some (u3) := e30.trans (congrArg some (show v30 = u3 from ev30))
     clear ev30 v30
     obtain ⟨_, e31, rfl⟩ := hp 1 rfl 31 _ rfl rfl
     clear hoff hp
     refine op_call Try.func11 (by kernel_rfl) rfl #[u3, .slice A0 l.length c0] rfl (by simp [Act.eval, e30, e31]) (equal_calls _ _ yl yl true (by simp) _ _ _ (Kr3.keep hM.keep) (hv.keep hM.keep)) ?_
     rintro e w1 ⟨u, rfl, hR, hb⟩
     exact ⟨u, rfl, hK _ _ (Rl.of_below hb) trivial hR⟩
    ·refine sti rfl rfl rfl rfl rfl rfl rfl fun a w' hM hI hoff hp K hK => ?_
     obtain ⟨_, e32, rfl⟩ := hp 2 rfl 32 _ rfl rfl
     clear hoff hp
     exact ov  (hK _ _ (Rl.refl _ _) trivial rfl)
   intro a12 w12 sz1 df1 hoff hvv hRl hJ
   have gw_w10 : 0 < l.length → g3 < w10.heap.size := fun hn => (G3 hn).2
   replace H4 := hRl.chg.blk H4 (fun h => h.elim)
   replace H6 := hRl.chg.blk H6 (fun h => h.elim)
   replace hv := hv.keep hRl.keep
   replace Kr3 := Kr3.keep hRl.keep
   replace g23_6 := g23_6.keep hRl.keep
   replace g23_7 := g23_7.keep hRl.keep
   replace g23_8 := g23_8.keep hRl.keep
   replace g23_9 := g23_9.keep hRl.keep
   replace g28_6 := g28_6.keep hRl.keep
   replace g28_7 := g28_7.keep hRl.keep
   replace g28_8 := g28_8.keep hRl.keep
   replace g28_9 := g28_9.keep hRl.keep
   replace O3 := O3.chg hRl.chg (fun _ h => h)
   replace G3 : 0 < l.length → w.heap.size ≤ g3 ∧ g3 < w12.heap.size := fun hn => ⟨(G3 hn).1, Nat.lt_of_lt_of_le (G3 hn).2 hRl.chg.size⟩
   replace CH := CH.trans hRl.chg (fun _ _ h => h.elim)
   replace K8 := K8.trans hRl.keep
   obtain ⟨_, e33, rfl⟩ := hvv 3 _ _ rfl rfl
   replace e0 := (hoff 0 rfl).trans e0
   replace e2 := (hoff 2 rfl).trans e2
   replace e15 := (hoff 15 rfl).trans e15
   replace e3 := (hoff 3 rfl).trans e3
   replace e23 := (hoff 23 rfl).trans e23
   replace e24 := (hoff 24 rfl).trans e24
   replace e4 := (hoff 4 rfl).trans e4
   replace e5 := (hoff 5 rfl).trans e5
   replace e28 := (hoff 28 rfl).trans e28
   replace e29 := (hoff 29 rfl).trans e29
   replace e6 := (hoff 6 rfl).trans e6
   replace e7 := (hoff 7 rfl).trans e7
   replace sz := sz1
   replace df := df1.trans df
   have Zw12 : w.heap.size ≤ w12.heap.size := CH.size
   clear sz1 df1 hoff hvv hRl hJ
   refine wpo_all rfl ?_
   refine hKK9 _ _ ?_
   refine wp_cond_false (ev e33) ?_
   refine wp_skip ?_
   refine hKK8 _ _ ?_
   refine wp_seq_k fun KK10 hKK10 => ?_
   refine wp_seq_k fun KK11 hKK11 => ?_
   refine raI (S := fun _ => False) 54 3 sz [34, 35, 36] [isV (u3), isV (.int .i64 (l).length), isV (.int .i64 0)] [Tr, Tr, Tr, Tr] rfl (by decide) (by decide) (by decide) ?_ ?_ ?_ ?_
   · intro J hJ; cases hJ; exact trivial
   · exact (sr_cons (sr_V _ _) (sr_cons (sr_V _ _) (sr_cons (sr_V _ _) (sr_nil _))))
   ·refine sti_cons ?_ (sti_cons ?_ (sti_cons ?_ sti_nil))
    ·refine sti rfl rfl rfl rfl rfl rfl rfl fun a w' hM hI hoff hp K hK => ?_
     have e3 : a.tmps[3]? = some (u3) := (hoff 3 rfl).trans e3
     clear hoff hp
     exact ov  (hK _ _ (Rl.refl _ _) trivial rfl)
    ·refine sti rfl rfl rfl rfl rfl rfl rfl fun a w' hM hI hoff hp K hK => ?_
     obtain ⟨v34, e34, ev34⟩ := hp 0 rfl 34 _ rfl rfl
     replace e34 : a.tmps[34]? = some (u3) := e34.trans (congrArg some (show v34 = u3 from ev34))
     clear ev34 v34
     clear hoff hp
     have hlen := row_len (P := Try.prog) (Kr3.keep hM.keep) ⟨_, Try.underlying26⟩
     exact ov  (hK _ _ (Rl.refl _ _) trivial rfl)
    ·refine sti rfl rfl rfl rfl rfl rfl rfl fun a w' hM hI hoff hp K hK => ?_
     clear hoff hp
     exact ov  (hK _ _ (Rl.refl _ _) trivial rfl)
   intro a13 w13 sz1 df1 hoff hvv hRl hJ
   have gw_w12 : 0 < l.length → g3 < w12.heap.size := fun hn => (G3 hn).2
   replace H4 := hRl.chg.blk H4 (fun h => h.elim)
   replace H6 := hRl.chg.blk H6 (fun h => h.elim)
   replace hv := hv.keep hRl.keep
   replace Kr3 := Kr3.keep hRl.keep
   replace g23_6 := g23_6.keep hRl.keep
   replace g23_7 := g23_7.keep hRl.keep
   replace g23_8 := g23_8.keep hRl.keep
   replace g23_9 := g23_9.keep hRl.keep
   replace g28_6 := g28_6.keep hRl.keep
   replace g28_7 := g28_7.keep hRl.keep
   replace g28_8 := g28_8.keep hRl.keep
   replace g28_9 := g28_9.keep hRl.keep
   replace O3 := O3.chg hRl.chg (fun _ h => h)
   replace G3 : 0 < l.length → w.heap.size ≤ g3 ∧ g3 < w13.heap.size := fun hn => ⟨(G3 hn).1, Nat.lt_of_lt_of_le (G3 hn).2 hRl.chg.size⟩
   replace CH := CH.trans hRl.chg (fun _ _ h => h.elim)
   replace K8 := K8.trans hRl.keep
   obtain ⟨_, e35, rfl⟩ := hvv 1 _ _ rfl rfl
   obtain ⟨_, e36, rfl⟩ := hvv 2 _ _ rfl rfl
   replace e0 := (hoff 0 rfl).trans e0
   replace e2 := (hoff 2 rfl).trans e2
   replace e15 := (hoff 15 rfl).trans e15
   replace e3 := (hoff 3 rfl).trans e3
   replace e23 := (hoff 23 rfl).trans e23
   replace e24 := (hoff 24 rfl).trans e24
   replace e4 := (hoff 4 rfl).trans e4
   replace e5 := (hoff 5 rfl).trans e5
   replace e28 := (hoff 28 rfl).trans e28
   replace e29 := (hoff 29 rfl).trans e29
   replace e6 := (hoff 6 rfl).trans e6
   replace e7 := (hoff 7 rfl).trans e7
   replace e33 := (hoff 33 rfl).trans e33
   replace sz := sz1
   replace df := df1.trans df
   have Zw13 : w.heap.size ≤ w13.heap.size := CH.size
   clear sz1 df1 hoff hvv hRl hJ
   refine wpo_all rfl ?_
   refine hKK11 _ _ ?_
   refine wp_block ?_
   refine wp_loop (fun a_ w_ => ∃ i : Nat, i ≤ l.length ∧ a_.tmps[36]? = some (.int .i64 (i : Int)) ∧ OwnN (l.length) g3 w_ u3 ∧ Sz a_ 54 ∧ a_.defers = [] ∧ a_.tmps[0]? = some (.slice A0 l.length c0) ∧ a_.tmps[2]? = some (.bool false) ∧ a_.tmps[15]? = some (.bool false) ∧ a_.tmps[3]? = some (u3) ∧ a_.tmps[23]? = some (.agg #[.int .i64 c.fr, .int .i64 c.tt, .int .u32 c.tid, .int .u32 c.key, .int .u64 c.lo, .int .u64 c.hi, x23_6, x23_7, x23_8, x23_9]) ∧ a_.tmps[24]? = some (.int .i64 e) ∧ a_.tmps[4]? = some (.pointer (some ⟨bx4, 0, none⟩)) ∧ a_.tmps[5]? = some (.int .i64 e) ∧ a_.tmps[28]? = some (.agg #[.int .i64 c.fr, .int .i64 c.tt, .int .u32 c.tid, .int .u32 c.key, .int .u64 c.lo, .int .u64 c.hi, x28_6, x28_7, x28_8, x28_9]) ∧ a_.tmps[29]? = some (.int .i64 e) ∧ a_.tmps[6]? = some (.pointer (some ⟨bx6, 0, none⟩)) ∧ a_.tmps[7]? = some (.int .i64 e) ∧ a_.tmps[33]? = some (.bool false) ∧ a_.tmps[35]? = some (.int .i64 (l).length) ∧ w_.heap[bx4]? = some (.cells #[.int .i64 c.fr, .int .i64 c.tt, .int .u32 c.tid, .int .u32 c.key, .int .u64 c.lo, .int .u64 c.hi, x23_6, x23_7, x23_8, x23_9] 28 (0, 0)) ∧ w_.heap[bx6]? = some (.cells #[.int .i64 c.fr, .int .i64 c.tt, .int .u32 c.tid, .int .u32 c.key, .int .u64 c.lo, .int .u64 c.hi, x28_6, x28_7, x28_8, x28_9] 28 (0, 0)) ∧ Row w5.heap.size w_ x23_6 c.pub ∧ Row w5.heap.size w_ x23_7 c.ct ∧ Row w5.heap.size w_ x23_8 c.sl ∧ Row w5.heap.size w_ x23_9 c.sig ∧ Row w7.heap.size w_ x28_6 c.pub ∧ Row w7.heap.size w_ x28_7 c.ct ∧ Row w7.heap.size w_ x28_8 c.sl ∧ Row w7.heap.size w_ x28_9 c.sig ∧ Chg (fun _ => False) w w_) (fun a_ _ => l.length - slotN a_ 36) ?_ ?_
   · exact ⟨0, Nat.zero_le _, e36, O3, sz, df, e0, e2, e15, e3, e23, e24, e4, e5, e28, e29, e6, e7, e33, e35, H4, H6, g23_6, g23_7, g23_8, g23_9, g28_6, g28_7, g28_8, g28_9, CH⟩
   clear O3 sz df e0 e2 e15 e3 e23 e24 e4 e5 e28 e29 e6 e7 e33 e35 H4 H6 g23_6 g23_7 g23_8 g23_9 g28_6 g28_7 g28_8 g28_9 CH
   rintro a14 w14 ⟨i, hi, e36, O3, sz, df, e0, e2, e15, e3, e23, e24, e4, e5, e28, e29, e6, e7, e33, e35, H4, H6, g23_6, g23_7, g23_8, g23_9, g28_6, g28_7, g28_8, g28_9, CH⟩
   have K8 : Keep8 w14 w14 := Keep8.refl _
   have Zw14 : w.heap.size ≤ w14.heap.size := CH.size
   replace G3 : 0 < l.length → w.heap.size ≤ g3 ∧ g3 < w14.heap.size := fun hn => ⟨(G3 hn).1, OwnN.lt O3 hn⟩
   by_cases hlt : i < l.length
   ·skip
    obtain ⟨A_, c_, hu_, hm_, hO_⟩ := O3
    obtain ⟨cur, hA_, hg_, hcur⟩ := hO_ (by omega)
    subst hA_ hu_
    have hG_ := G3 (by omega)
    have hpos : 0 < l.length := by omega
    clear hO_
    have ei0 := e36
    refine wp_seq_k fun KK12 hKK12 => ?_
    refine raI (S := fun _ => False) 54 1 sz [37] [isV (.bool true)] [Tr, Tr] rfl (by decide) (by decide) (by decide) ?_ ?_ ?_ ?_
    · intro J hJ; cases hJ; exact trivial
    · exact (sr_cons (sr_V _ _) (sr_nil _))
    ·refine sti_cons ?_ sti_nil
     ·refine sti rfl rfl rfl rfl rfl rfl rfl fun a w' hM hI hoff hp K hK => ?_
      have e36 : a.tmps[36]? = some (.int .i64 (i : Int)) := (hoff 36 rfl).trans e36
      have e35 : a.tmps[35]? = some (.int .i64 (l).length) := (hoff 35 rfl).trans e35
      clear hoff hp
      have q1 : decide ((i : Int) < (l.length : Int)) = true := by rw [decide_eq_true_eq]; omega
      exact ov  (hK _ _ (Rl.refl _ _) trivial rfl)
    intro a15 w15 sz1 df1 hoff hvv hRl hJ
    replace H4 := hRl.chg.blk H4 (fun h => h.elim)
    replace H6 := hRl.chg.blk H6 (fun h => h.elim)
    replace g23_6 := g23_6.keep hRl.keep
    replace g23_7 := g23_7.keep hRl.keep
    replace g23_8 := g23_8.keep hRl.keep
    replace g23_9 := g23_9.keep hRl.keep
    replace g28_6 := g28_6.keep hRl.keep
    replace g28_7 := g28_7.keep hRl.keep
    replace g28_8 := g28_8.keep hRl.keep
    replace g28_9 := g28_9.keep hRl.keep
    replace CH := CH.trans hRl.chg (fun _ _ h => h.elim)
    replace K8 := K8.trans hRl.keep
    replace hg_ := hRl.chg.blk hg_ (fun h => h.elim)
    obtain ⟨_, e37, rfl⟩ := hvv 0 _ _ rfl rfl
    replace e0 := (hoff 0 rfl).trans e0
    replace e2 := (hoff 2 rfl).trans e2
    replace e15 := (hoff 15 rfl).trans e15
    replace e3 := (hoff 3 rfl).trans e3
    replace e23 := (hoff 23 rfl).trans e23
    replace e24 := (hoff 24 rfl).trans e24
    replace e4 := (hoff 4 rfl).trans e4
    replace e5 := (hoff 5 rfl).trans e5
    replace e28 := (hoff 28 rfl).trans e28
    replace e29 := (hoff 29 rfl).trans e29
    replace e6 := (hoff 6 rfl).trans e6
    replace e7 := (hoff 7 rfl).trans e7
    replace e33 := (hoff 33 rfl).trans e33
    replace e35 := (hoff 35 rfl).trans e35
    replace e36 := (hoff 36 rfl).trans e36
    replace sz := sz1
    replace df := df1.trans df
    have Zw15 : w.heap.size ≤ w15.heap.size := CH.size
    clear sz1 df1 hoff hvv hRl hJ
    refine wpo_all rfl ?_
    refine hKK12 _ _ ?_
    refine wp_seq_k fun KK13 hKK13 => ?_
    refine wp_cond_true (ev e37) ?_
    refine wp_skip ?_
    refine hKK13 _ _ ?_
    refine wp_seq_k fun KK14 hKK14 => ?_
    refine wp_block ?_
    refine wp_seq_k fun KK15 hKK15 => ?_
    refine raI (S := fun _ => False) 54 2 sz [38, 8] [isV (.int .i64 (i : Int)), isV (.int .i64 (i : Int))] [Tr, Tr, Tr] rfl (by decide) (by decide) (by decide) ?_ ?_ ?_ ?_
    · intro J hJ; cases hJ; exact trivial
    · exact (sr_cons (sr_V _ _) (sr_cons (sr_V _ _) (sr_nil _)))
    ·refine sti_cons ?_ (sti_cons ?_ sti_nil)
     ·refine sti rfl rfl rfl rfl rfl rfl rfl fun a w' hM hI hoff hp K hK => ?_
      have e36 : a.tmps[36]? = some (.int .i64 (i : Int)) := (hoff 36 rfl).trans e36
      clear hoff hp
      exact ov  (hK _ _ (Rl.refl _ _) trivial rfl)
     ·refine sti rfl rfl rfl rfl rfl rfl rfl fun a w' hM hI hoff hp K hK => ?_
      obtain ⟨_, e38, rfl⟩ := hp 0 rfl 38 _ rfl rfl
      clear hoff hp
      exact ov  (hK _ _ (Rl.refl _ _) trivial rfl)
    intro a16 w16 sz1 df1 hoff hvv hRl hJ
    replace H4 := hRl.chg.blk H4 (fun h => h.elim)
    replace H6 := hRl.chg.blk H6 (fun h => h.elim)
    replace g23_6 := g23_6.keep hRl.keep
    replace g23_7 := g23_7.keep hRl.keep
    replace g23_8 := g23_8.keep hRl.keep
    replace g23_9 := g23_9.keep hRl.keep
    replace g28_6 := g28_6.keep hRl.keep
    replace g28_7 := g28_7.keep hRl.keep
    replace g28_8 := g28_8.keep hRl.keep
    replace g28_9 := g28_9.keep hRl.keep
    replace CH := CH.trans hRl.chg (fun _ _ h => h.elim)
    replace K8 := K8.trans hRl.keep
    replace hg_ := hRl.chg.blk hg_ (fun h => h.elim)
    obtain ⟨_, e38, rfl⟩ := hvv 0 _ _ rfl rfl
    obtain ⟨_, e8, rfl⟩ := hvv 1 _ _ rfl rfl
    replace e0 := (hoff 0 rfl).trans e0
    replace e2 := (hoff 2 rfl).trans e2
    replace e15 := (hoff 15 rfl).trans e15
    replace e3 := (hoff 3 rfl).trans e3
    replace e23 := (hoff 23 rfl).trans e23
    replace e24 := (hoff 24 rfl).trans e24
    replace e4 := (hoff 4 rfl).trans e4
    replace e5 := (hoff 5 rfl).trans e5
    replace e28 := (hoff 28 rfl).trans e28
    replace e29 := (hoff 29 rfl).trans e29
    replace e6 := (hoff 6 rfl).trans e6
    replace e7 := (hoff 7 rfl).trans e7
    replace e33 := (hoff 33 rfl).trans e33
    replace e35 := (hoff 35 rfl).trans e35
    replace e36 := (hoff 36 rfl).trans e36
    replace e37 := (hoff 37 rfl).trans e37
    replace sz := sz1
    replace df := df1.trans df
    have Zw16 : w.heap.size ≤ w16.heap.size := CH.size
    clear sz1 df1 hoff hvv hRl hJ
    refine wpo_all rfl ?_
    refine hKK15 _ _ ?_
    refine raI (S := fun _ => False) 54 6 sz [39, 40, 41, 42, 43, 44] [isV (.slice (some ⟨g3, 0, none⟩) (l.length) c_), isV (.int .i64 (i : Int)), isV (.pointer (some ⟨g3, i, none⟩)), isByte, isByte, isV (.pointer (some ⟨g3, i, none⟩))] [Tr, Tr, Tr, Tr, Tr, Tr, Tr] rfl (by decide) (by decide) (by decide) ?_ ?_ ?_ ?_
    · intro J hJ; cases hJ; exact trivial
    · exact (sr_cons (sr_V _ _) (sr_cons (sr_V _ _) (sr_cons (sr_V _ _) (sr_cons (sr_Byte _) (sr_cons (sr_Byte _) (sr_cons (sr_V _ _) (sr_nil _)))))))
    ·refine sti_cons ?_ (sti_cons ?_ (sti_cons ?_ (sti_cons ?_ (sti_cons ?_ (sti_cons ?_ sti_nil)))))
     ·refine sti rfl rfl rfl rfl rfl rfl rfl fun a w' hM hI hoff hp K hK => ?_
      have e3 : a.tmps[3]? = some (.slice (some ⟨g3, 0, none⟩) (l.length) c_) := (hoff 3 rfl).trans e3
      clear hoff hp
      exact ov  (hK _ _ (Rl.refl _ _) trivial rfl)
     ·refine sti rfl rfl rfl rfl rfl rfl rfl fun a w' hM hI hoff hp K hK => ?_
      have e8 : a.tmps[8]? = some (.int .i64 (i : Int)) := (hoff 8 rfl).trans e8
      clear hoff hp
      exact ov  (hK _ _ (Rl.refl _ _) trivial rfl)
     ·refine sti rfl rfl rfl rfl rfl rfl rfl fun a w' hM hI hoff hp K hK => ?_
      obtain ⟨_, e39, rfl⟩ := hp 0 rfl 39 _ rfl rfl
      obtain ⟨_, e40, rfl⟩ := hp 1 rfl 40 _ rfl rfl
      clear hoff hp
      have hsl : (Instr.indexAt 26 (.slice (some ⟨g3, 0, none⟩) (l.length) c_) (.int .i64 (i : Int))).run Try.prog w' = .ok (.pointer (some ⟨g3, i, none⟩)) w' := own_at w' 26 5 Try.underlying26 size5 hlt
      exact ov  (hK _ _ (Rl.refl _ _) trivial rfl)
     ·refine sti rfl rfl rfl rfl rfl rfl rfl fun a w' hM hI hoff hp K hK => ?_
      obtain ⟨_, e41, rfl⟩ := hp 2 rfl 41 _ rfl rfl
      clear hoff hp
      obtain ⟨x_, hx_⟩ := hcur i hlt
      have hc_ : w'.cell? ⟨g3, i, none⟩ = some (.int .u8 x_) := (blk_cell (hM.chg.blk hg_ (fun h => h)) i).trans hx_
      exact ov (v := .int .u8 x_)  (hK _ _ (Rl.refl _ _) trivial ⟨_, rfl⟩)
     ·refine sti rfl rfl rfl rfl rfl rfl rfl fun a w' hM hI hoff hp K hK => ?_
      obtain ⟨v42, e42, h42⟩ := hp 3 rfl 42 _ rfl rfl
      clear hoff hp
      obtain ⟨x_, rfl⟩ := h42
      exact ov (v := .int .u8 (IntKind.u8.wrap (x_ + 1)))  (hK _ _ (Rl.refl _ _) trivial ⟨_, rfl⟩)
     ·refine sti rfl rfl rfl rfl rfl rfl rfl fun a w' hM hI hoff hp K hK => ?_
      obtain ⟨_, e39, rfl⟩ := hp 0 rfl 39 _ rfl rfl
      obtain ⟨_, e40, rfl⟩ := hp 1 rfl 40 _ rfl rfl
      clear hoff hp
      have hsl : (Instr.indexAt 26 (.slice (some ⟨g3, 0, none⟩) (l.length) c_) (.int .i64 (i : Int))).run Try.prog w' = .ok (.pointer (some ⟨g3, i, none⟩)) w' := own_at w' 26 5 Try.underlying26 size5 hlt
      exact ov  (hK _ _ (Rl.refl _ _) trivial rfl)
    intro a17 w17 sz1 df1 hoff hvv hRl hJ
    replace H4 := hRl.chg.blk H4 (fun h => h.elim)
    replace H6 := hRl.chg.blk H6 (fun h => h.elim)
    replace g23_6 := g23_6.keep hRl.keep
    replace g23_7 := g23_7.keep hRl.keep
    replace g23_8 := g23_8.keep hRl.keep
    replace g23_9 := g23_9.keep hRl.keep
    replace g28_6 := g28_6.keep hRl.keep
    replace g28_7 := g28_7.keep hRl.keep
    replace g28_8 := g28_8.keep hRl.keep
    replace g28_9 := g28_9.keep hRl.keep
    replace CH := CH.trans hRl.chg (fun _ _ h => h.elim)
    replace K8 := K8.trans hRl.keep
    replace hg_ := hRl.chg.blk hg_ (fun h => h.elim)
    obtain ⟨_, e39, rfl⟩ := hvv 0 _ _ rfl rfl
    obtain ⟨_, e40, rfl⟩ := hvv 1 _ _ rfl rfl
    obtain ⟨_, e41, rfl⟩ := hvv 2 _ _ rfl rfl
    obtain ⟨_, e42, y42, rfl⟩ := hvv 3 _ _ rfl rfl
    obtain ⟨_, e43, y43, rfl⟩ := hvv 4 _ _ rfl rfl
    obtain ⟨_, e44, rfl⟩ := hvv 5 _ _ rfl rfl
    replace e0 := (hoff 0 rfl).trans e0
    replace e2 := (hoff 2 rfl).trans e2
    replace e15 := (hoff 15 rfl).trans e15
    replace e3 := (hoff 3 rfl).trans e3
    replace e23 := (hoff 23 rfl).trans e23
    replace e24 := (hoff 24 rfl).trans e24
    replace e4 := (hoff 4 rfl).trans e4
    replace e5 := (hoff 5 rfl).trans e5
    replace e28 := (hoff 28 rfl).trans e28
    replace e29 := (hoff 29 rfl).trans e29
    replace e6 := (hoff 6 rfl).trans e6
    replace e7 := (hoff 7 rfl).trans e7
    replace e33 := (hoff 33 rfl).trans e33
    replace e35 := (hoff 35 rfl).trans e35
    replace e36 := (hoff 36 rfl).trans e36
    replace e37 := (hoff 37 rfl).trans e37
    replace e38 := (hoff 38 rfl).trans e38
    replace e8 := (hoff 8 rfl).trans e8
    replace sz := sz1
    replace df := df1.trans df
    have Zw17 : w.heap.size ≤ w17.heap.size := CH.size
    clear sz1 df1 hoff hvv hRl hJ
    refine wpo_step 6 _ rfl rfl (og_plain rfl ?_)
    refine op_store_any 5 _ _ rfl g3 i (.int .u8 y43) (ev e44) (ev e43) 5 _ hg_ (by kernel_rfl) (by obtain ⟨x_, hx_⟩ := hcur i hlt; exact (Array.getElem?_eq_some_iff.1 hx_).1) rfl ?_
    intro w18 H_ hC
    change wpOps _ _ _ _ a17 w18
    have O_ := own_set (c := c_) hm_ hcur H_
    replace H4 := hC.blk H4 (fun h => neo3_x4 hpos h.symm)
    replace H6 := hC.blk H6 (fun h => neo3_x6 hpos h.symm)
    replace g23_6 := g23_6.chg hC (fun k hk h => (old_new (gw_w5 hpos) hk h.symm).elim)
    replace g23_7 := g23_7.chg hC (fun k hk h => (old_new (gw_w5 hpos) hk h.symm).elim)
    replace g23_8 := g23_8.chg hC (fun k hk h => (old_new (gw_w5 hpos) hk h.symm).elim)
    replace g23_9 := g23_9.chg hC (fun k hk h => (old_new (gw_w5 hpos) hk h.symm).elim)
    replace g28_6 := g28_6.chg hC (fun k hk h => (old_new (gw_w7 hpos) hk h.symm).elim)
    replace g28_7 := g28_7.chg hC (fun k hk h => (old_new (gw_w7 hpos) hk h.symm).elim)
    replace g28_8 := g28_8.chg hC (fun k hk h => (old_new (gw_w7 hpos) hk h.symm).elim)
    replace g28_9 := g28_9.chg hC (fun k hk h => (old_new (gw_w7 hpos) hk h.symm).elim)
    replace CH := CH.trans hC (fun x hx h => (old_new hx hG_.1 h).elim)
    have Zs := hC.size
    have Zw18 : w.heap.size ≤ w18.heap.size := CH.size
    have K8 : Keep8 w18 w18 := Keep8.refl _
    clear hg_ H_ hcur hC
    refine wpo_all rfl ?_
    refine inb_n ?_
    refine hKK14 _ _ ?_
    refine raI (S := fun _ => False) 54 1 sz [45] [isV (.int .i64 ((i : Int) + 1))] [Tr, Tr] rfl (by decide) (by decide) (by decide) ?_ ?_ ?_ ?_
    · intro J hJ; cases hJ; exact trivial
    · exact (sr_cons (sr_V _ _) (sr_nil _))
    ·refine sti_cons ?_ sti_nil
     ·refine sti rfl rfl rfl rfl rfl rfl rfl fun a w' hM hI hoff hp K hK => ?_
      have e36 : a.tmps[36]? = some (.int .i64 (i : Int)) := (hoff 36 rfl).trans e36
      clear hoff hp
      have hw1 := i64wrap (n := (i : Int) + 1) (by omega) (by omega)
      exact ov  (hK _ _ (Rl.refl _ _) trivial rfl)
    intro a19 w19 sz1 df1 hoff hvv hRl hJ
    replace H4 := hRl.chg.blk H4 (fun h => h.elim)
    replace H6 := hRl.chg.blk H6 (fun h => h.elim)
    replace g23_6 := g23_6.keep hRl.keep
    replace g23_7 := g23_7.keep hRl.keep
    replace g23_8 := g23_8.keep hRl.keep
    replace g23_9 := g23_9.keep hRl.keep
    replace g28_6 := g28_6.keep hRl.keep
    replace g28_7 := g28_7.keep hRl.keep
    replace g28_8 := g28_8.keep hRl.keep
    replace g28_9 := g28_9.keep hRl.keep
    replace O_ := O_.chg hRl.chg (fun _ h => h)
    replace CH := CH.trans hRl.chg (fun _ _ h => h.elim)
    replace K8 := K8.trans hRl.keep
    obtain ⟨_, e45, rfl⟩ := hvv 0 _ _ rfl rfl
    replace e0 := (hoff 0 rfl).trans e0
    replace e2 := (hoff 2 rfl).trans e2
    replace e15 := (hoff 15 rfl).trans e15
    replace e3 := (hoff 3 rfl).trans e3
    replace e23 := (hoff 23 rfl).trans e23
    replace e24 := (hoff 24 rfl).trans e24
    replace e4 := (hoff 4 rfl).trans e4
    replace e5 := (hoff 5 rfl).trans e5
    replace e28 := (hoff 28 rfl).trans e28
    replace e29 := (hoff 29 rfl).trans e29
    replace e6 := (hoff 6 rfl).trans e6
    replace e7 := (hoff 7 rfl).trans e7
    replace e33 := (hoff 33 rfl).trans e33
    replace e35 := (hoff 35 rfl).trans e35
    replace e36 := (hoff 36 rfl).trans e36
    replace e37 := (hoff 37 rfl).trans e37
    replace e38 := (hoff 38 rfl).trans e38
    replace e8 := (hoff 8 rfl).trans e8
    replace e39 := (hoff 39 rfl).trans e39
    replace e40 := (hoff 40 rfl).trans e40
    replace e41 := (hoff 41 rfl).trans e41
    replace e42 := (hoff 42 rfl).trans e42
    replace e43 := (hoff 43 rfl).trans e43
    replace e44 := (hoff 44 rfl).trans e44
    replace sz := sz1
    replace df := df1.trans df
    have Zw19 : w.heap.size ≤ w19.heap.size := CH.size
    clear sz1 df1 hoff hvv hRl hJ
    refine wpo_step 1 _ rfl rfl (og_plain rfl ?_)
    refine op_move rfl (v := .int .i64 ((i : Int) + 1)) (ev e45) ?_
    refine abs_put (K := fun x => wpOps _ _ _ _ x _) (t := 36) sz (by decide) fun a20 sz1 df1 e_new hoff => ?_
    replace e0 := (hoff 0 rfl).trans e0
    replace e2 := (hoff 2 rfl).trans e2
    replace e15 := (hoff 15 rfl).trans e15
    replace e3 := (hoff 3 rfl).trans e3
    replace e23 := (hoff 23 rfl).trans e23
    replace e24 := (hoff 24 rfl).trans e24
    replace e4 := (hoff 4 rfl).trans e4
    replace e5 := (hoff 5 rfl).trans e5
    replace e28 := (hoff 28 rfl).trans e28
    replace e29 := (hoff 29 rfl).trans e29
    replace e6 := (hoff 6 rfl).trans e6
    replace e7 := (hoff 7 rfl).trans e7
    replace e33 := (hoff 33 rfl).trans e33
    replace e35 := (hoff 35 rfl).trans e35
    replace e37 := (hoff 37 rfl).trans e37
    replace e38 := (hoff 38 rfl).trans e38
    replace e8 := (hoff 8 rfl).trans e8
    replace e39 := (hoff 39 rfl).trans e39
    replace e40 := (hoff 40 rfl).trans e40
    replace e41 := (hoff 41 rfl).trans e41
    replace e42 := (hoff 42 rfl).trans e42
    replace e43 := (hoff 43 rfl).trans e43
    replace e44 := (hoff 44 rfl).trans e44
    replace e45 := (hoff 45 rfl).trans e45
    have e36 := e_new
    replace sz := sz1
    replace df := df1.trans df
    clear sz1 df1 hoff e_new
    refine wpo_all rfl ?_
    replace e36 : a20.tmps[36]? = some (.int .i64 ((i + 1 : Nat) : Int)) := e36
    refine ⟨⟨i + 1, by omega, e36, O_, sz, df, e0, e2, e15, e3, e23, e24, e4, e5, e28, e29, e6, e7, e33, e35, H4, H6, g23_6, g23_7, g23_8, g23_9, g28_6, g28_7, g28_8, g28_9, CH⟩, ?_⟩
    rw [slotN_of e36, slotN_of ei0]
    omega
   ·skip
    refine wp_seq_k fun KK16 hKK16 => ?_
    refine raI (S := fun _ => False) 54 1 sz [37] [isV (.bool false)] [Tr, Tr] rfl (by decide) (by decide) (by decide) ?_ ?_ ?_ ?_
    · intro J hJ; cases hJ; exact trivial
    · exact (sr_cons (sr_V _ _) (sr_nil _))
    ·refine sti_cons ?_ sti_nil
     ·refine sti rfl rfl rfl rfl rfl rfl rfl fun a w' hM hI hoff hp K hK => ?_
      have e36 : a.tmps[36]? = some (.int .i64 (i : Int)) := (hoff 36 rfl).trans e36
      have e35 : a.tmps[35]? = some (.int .i64 (l).length) := (hoff 35 rfl).trans e35
      clear hoff hp
      have q1 : decide ((i : Int) < (l.length : Int)) = false := by rw [decide_eq_false_iff_not]; omega
      exact ov  (hK _ _ (Rl.refl _ _) trivial rfl)
    intro a21 w21 sz1 df1 hoff hvv hRl hJ
    have gw_w14 : 0 < l.length → g3 < w14.heap.size := fun hn => (G3 hn).2
    replace H4 := hRl.chg.blk H4 (fun h => h.elim)
    replace H6 := hRl.chg.blk H6 (fun h => h.elim)
    replace g23_6 := g23_6.keep hRl.keep
    replace g23_7 := g23_7.keep hRl.keep
    replace g23_8 := g23_8.keep hRl.keep
    replace g23_9 := g23_9.keep hRl.keep
    replace g28_6 := g28_6.keep hRl.keep
    replace g28_7 := g28_7.keep hRl.keep
    replace g28_8 := g28_8.keep hRl.keep
    replace g28_9 := g28_9.keep hRl.keep
    replace O3 := O3.chg hRl.chg (fun _ h => h)
    replace G3 : 0 < l.length → w.heap.size ≤ g3 ∧ g3 < w21.heap.size := fun hn => ⟨(G3 hn).1, Nat.lt_of_lt_of_le (G3 hn).2 hRl.chg.size⟩
    replace CH := CH.trans hRl.chg (fun _ _ h => h.elim)
    replace K8 := K8.trans hRl.keep
    obtain ⟨_, e37, rfl⟩ := hvv 0 _ _ rfl rfl
    replace e0 := (hoff 0 rfl).trans e0
    replace e2 := (hoff 2 rfl).trans e2
    replace e15 := (hoff 15 rfl).trans e15
    replace e3 := (hoff 3 rfl).trans e3
    replace e23 := (hoff 23 rfl).trans e23
    replace e24 := (hoff 24 rfl).trans e24
    replace e4 := (hoff 4 rfl).trans e4
    replace e5 := (hoff 5 rfl).trans e5
    replace e28 := (hoff 28 rfl).trans e28
    replace e29 := (hoff 29 rfl).trans e29
    replace e6 := (hoff 6 rfl).trans e6
    replace e7 := (hoff 7 rfl).trans e7
    replace e33 := (hoff 33 rfl).trans e33
    replace e35 := (hoff 35 rfl).trans e35
    replace e36 := (hoff 36 rfl).trans e36
    replace sz := sz1
    replace df := df1.trans df
    have Zw21 : w.heap.size ≤ w21.heap.size := CH.size
    clear sz1 df1 hoff hvv hRl hJ
    refine wpo_all rfl ?_
    refine hKK16 _ _ ?_
    refine wp_seq_k fun KK17 hKK17 => ?_
    refine wp_cond_false (ev e37) ?_
    refine wp_exit ?_
    refine then_x ?_
    refine then_x ?_
    refine inb_x ?_
    refine hKK10 _ _ ?_
    refine wp_seq_k fun KK18 hKK18 => ?_
    refine raI (S := fun _ => False) 54 9 sz [46, 47, 48, 49, 50, 51, 52, 53, 2] [isV (.agg #[.int .i64 c.fr, .int .i64 c.tt, .int .u32 c.tid, .int .u32 c.key, .int .u64 c.lo, .int .u64 c.hi, x23_6, x23_7, x23_8, x23_9]), isV (.agg #[.int .i64 c.fr, .int .i64 c.tt, .int .u32 c.tid, .int .u32 c.key, .int .u64 c.lo, .int .u64 c.hi, x28_6, x28_7, x28_8, x28_9]), isV (.bool true), isV (.bool true), isV (.int .i64 e), isV (.int .i64 e), isV (.bool true), isV (.bool true), isV (.bool true)] [Tr, Tr, Tr, Tr, Tr, Tr, Tr, Tr, Tr, Tr] rfl (by decide) (by decide) (by decide) ?_ ?_ ?_ ?_
    · intro J hJ; cases hJ; exact trivial
    · exact (sr_cons (sr_V _ _) (sr_cons (sr_V _ _) (sr_cons (sr_V _ _) (sr_cons (sr_V _ _) (sr_cons (sr_V _ _) (sr_cons (sr_V _ _) (sr_cons (sr_V _ _) (sr_cons (sr_V _ _) (sr_cons (sr_V _ _) (sr_nil _))))))))))
    ·refine sti_cons ?_ (sti_cons ?_ (sti_cons ?_ (sti_cons ?_ (sti_cons ?_ (sti_cons ?_ (sti_cons ?_ (sti_cons ?_ (sti_cons ?_ sti_nil))))))))
     ·refine sti rfl rfl rfl rfl rfl rfl rfl fun a w' hM hI hoff hp K hK => ?_
      have e4 : a.tmps[4]? = some (.pointer (some ⟨bx4, 0, none⟩)) := (hoff 4 rfl).trans e4
      clear hoff hp
      have d0 : w'.cell? ⟨bx4, 0, none⟩ = some (.int .i64 c.fr) := (blk_cell (hM.chg.blk H4 (fun h => h)) 0).trans rfl
      have d1 : w'.cell? ⟨bx4, 1, none⟩ = some (.int .i64 c.tt) := (blk_cell (hM.chg.blk H4 (fun h => h)) 1).trans rfl
      have d2 : w'.cell? ⟨bx4, 2, none⟩ = some (.int .u32 c.tid) := (blk_cell (hM.chg.blk H4 (fun h => h)) 2).trans rfl
      have d3 : w'.cell? ⟨bx4, 3, none⟩ = some (.int .u32 c.key) := (blk_cell (hM.chg.blk H4 (fun h => h)) 3).trans rfl
      have d4 : w'.cell? ⟨bx4, 4, none⟩ = some (.int .u64 c.lo) := (blk_cell (hM.chg.blk H4 (fun h => h)) 4).trans rfl
      have d5 : w'.cell? ⟨bx4, 5, none⟩ = some (.int .u64 c.hi) := (blk_cell (hM.chg.blk H4 (fun h => h)) 5).trans rfl
      have d6 : w'.cell? ⟨bx4, 6, none⟩ = some (x23_6) := (blk_cell (hM.chg.blk H4 (fun h => h)) 6).trans rfl
      have d7 : w'.cell? ⟨bx4, 7, none⟩ = some (x23_7) := (blk_cell (hM.chg.blk H4 (fun h => h)) 7).trans rfl
      have d8 : w'.cell? ⟨bx4, 8, none⟩ = some (x23_8) := (blk_cell (hM.chg.blk H4 (fun h => h)) 8).trans rfl
      have d9 : w'.cell? ⟨bx4, 9, none⟩ = some (x23_9) := (blk_cell (hM.chg.blk H4 (fun h => h)) 9).trans rfl
      have hu := Try.underlying28
      have hv_25 := Try.underlying25
      exact ov  (hK _ _ (Rl.refl _ _) trivial rfl)
     ·refine sti rfl rfl rfl rfl rfl rfl rfl fun a w' hM hI hoff hp K hK => ?_
      have e6 : a.tmps[6]? = some (.pointer (some ⟨bx6, 0, none⟩)) := (hoff 6 rfl).trans e6
      clear hoff hp
      have d0 : w'.cell? ⟨bx6, 0, none⟩ = some (.int .i64 c.fr) := (blk_cell (hM.chg.blk H6 (fun h => h)) 0).trans rfl
      have d1 : w'.cell? ⟨bx6, 1, none⟩ = some (.int .i64 c.tt) := (blk_cell (hM.chg.blk H6 (fun h => h)) 1).trans rfl
      have d2 : w'.cell? ⟨bx6, 2, none⟩ = some (.int .u32 c.tid) := (blk_cell (hM.chg.blk H6 (fun h => h)) 2).trans rfl
      have d3 : w'.cell? ⟨bx6, 3, none⟩ = some (.int .u32 c.key) := (blk_cell (hM.chg.blk H6 (fun h => h)) 3).trans rfl
      have d4 : w'.cell? ⟨bx6, 4, none⟩ = some (.int .u64 c.lo) := (blk_cell (hM.chg.blk H6 (fun h => h)) 4).trans rfl
      have d5 : w'.cell? ⟨bx6, 5, none⟩ = some (.int .u64 c.hi) := (blk_cell (hM.chg.blk H6 (fun h => h)) 5).trans rfl
      have d6 : w'.cell? ⟨bx6, 6, none⟩ = some (x28_6) := (blk_cell (hM.chg.blk H6 (fun h => h)) 6).trans rfl
      have d7 : w'.cell? ⟨bx6, 7, none⟩ = some (x28_7) := (blk_cell (hM.chg.blk H6 (fun h => h)) 7).trans rfl
      have d8 : w'.cell? ⟨bx6, 8, none⟩ = some (x28_8) := (blk_cell (hM.chg.blk H6 (fun h => h)) 8).trans rfl
      have d9 : w'.cell? ⟨bx6, 9, none⟩ = some (x28_9) := (blk_cell (hM.chg.blk H6 (fun h => h)) 9).trans rfl
      have hu := Try.underlying28
      have hv_25 := Try.underlying25
      exact ov  (hK _ _ (Rl.refl _ _) trivial rfl)
     ·refine sti rfl rfl rfl rfl rfl rfl rfl fun a w' hM hI hoff hp K hK => ?_
      obtain ⟨_, e46, rfl⟩ := hp 0 rfl 46 _ rfl rfl
      obtain ⟨_, e47, rfl⟩ := hp 1 rfl 47 _ rfl rfl
      clear hoff hp
      refine op_call Try.func19 (by kernel_rfl) rfl #[.agg #[.int .i64 c.fr, .int .i64 c.tt, .int .u32 c.tid, .int .u32 c.key, .int .u64 c.lo, .int .u64 c.hi, x23_6, x23_7, x23_8, x23_9], .agg #[.int .i64 c.fr, .int .i64 c.tt, .int .u32 c.tid, .int .u32 c.key, .int .u64 c.lo, .int .u64 c.hi, x28_6, x28_7, x28_8, x28_9]] rfl (by simp [Act.eval, e46, e47]) (refSame_self c hok _ _ _ ⟨_, _, _, _, rfl, (g23_6.keep hM.keep).lower (Nat.zero_le _), (g23_7.keep hM.keep).lower (Nat.zero_le _), (g23_8.keep hM.keep).lower (Nat.zero_le _), (g23_9.keep hM.keep).lower (Nat.zero_le _)⟩ ⟨_, _, _, _, rfl, (g28_6.keep hM.keep).lower (Nat.zero_le _), (g28_7.keep hM.keep).lower (Nat.zero_le _), (g28_8.keep hM.keep).lower (Nat.zero_le _), (g28_9.keep hM.keep).lower (Nat.zero_le _)⟩) ?_
      rintro e w1 ⟨u, rfl, hR, hb⟩
      exact ⟨u, rfl, hK _ _ (Rl.of_below hb) trivial hR⟩
     ·refine sti rfl rfl rfl rfl rfl rfl rfl fun a w' hM hI hoff hp K hK => ?_
      obtain ⟨_, e48, rfl⟩ := hp 2 rfl 48 _ rfl rfl
      clear hoff hp
      exact ov  (hK _ _ (Rl.refl _ _) trivial rfl)
     ·refine stiy 3 rfl rfl rfl rfl rfl rfl rfl rfl rfl rfl rfl fun a w' hM hI hoff hp K hK => ?_
      have e5 : a.tmps[5]? = some (.int .i64 e) := (hoff 5 rfl).trans e5
      clear hoff hp
      exact ov  (hK _ _ (Rl.refl _ _) trivial rfl)
     ·refine stiy 3 rfl rfl rfl rfl rfl rfl rfl rfl rfl rfl rfl fun a w' hM hI hoff hp K hK => ?_
      have e7 : a.tmps[7]? = some (.int .i64 e) := (hoff 7 rfl).trans e7
      clear hoff hp
      exact ov  (hK _ _ (Rl.refl _ _) trivial rfl)
     ·refine stiy 3 rfl rfl rfl rfl rfl rfl rfl rfl rfl rfl rfl fun a w' hM hI hoff hp K hK => ?_
      obtain ⟨_, e50, rfl⟩ := hp 4 rfl 50 _ rfl rfl
      obtain ⟨_, e51, rfl⟩ := hp 5 rfl 51 _ rfl rfl
      clear hoff hp
      exact ov  (hK _ _ (Rl.refl _ _) trivial rfl)
     ·refine sti rfl rfl rfl rfl rfl rfl rfl fun a w' hM hI hoff hp K hK => ?_
      obtain ⟨_, e49, rfl⟩ := hp 3 rfl 49 _ rfl rfl
      obtain ⟨_, e52, rfl⟩ := hp 6 rfl 52 _ rfl rfl
      clear hoff hp
      exact ov  (hK _ _ (Rl.refl _ _) trivial rfl)
     ·refine sti rfl rfl rfl rfl rfl rfl rfl fun a w' hM hI hoff hp K hK => ?_
      obtain ⟨_, e53, rfl⟩ := hp 7 rfl 53 _ rfl rfl
      clear hoff hp
      exact ov  (hK _ _ (Rl.refl _ _) trivial rfl)
    intro a22 w22 sz1 df1 hoff hvv hRl hJ
    have gw_w21 : 0 < l.length → g3 < w21.heap.size := fun hn => (G3 hn).2
    replace H4 := hRl.chg.blk H4 (fun h => h.elim)
    replace H6 := hRl.chg.blk H6 (fun h => h.elim)
    replace g23_6 := g23_6.keep hRl.keep
    replace g23_7 := g23_7.keep hRl.keep
    replace g23_8 := g23_8.keep hRl.keep
    replace g23_9 := g23_9.keep hRl.keep
    replace g28_6 := g28_6.keep hRl.keep
    replace g28_7 := g28_7.keep hRl.keep
    replace g28_8 := g28_8.keep hRl.keep
    replace g28_9 := g28_9.keep hRl.keep
    replace O3 := O3.chg hRl.chg (fun _ h => h)
    replace G3 : 0 < l.length → w.heap.size ≤ g3 ∧ g3 < w22.heap.size := fun hn => ⟨(G3 hn).1, Nat.lt_of_lt_of_le (G3 hn).2 hRl.chg.size⟩
    replace CH := CH.trans hRl.chg (fun _ _ h => h.elim)
    replace K8 := K8.trans hRl.keep
    obtain ⟨_, e2, rfl⟩ := hvv 8 _ _ rfl rfl
    replace e0 := (hoff 0 rfl).trans e0
    replace e15 := (hoff 15 rfl).trans e15
    replace e3 := (hoff 3 rfl).trans e3
    replace e23 := (hoff 23 rfl).trans e23
    replace e24 := (hoff 24 rfl).trans e24
    replace e4 := (hoff 4 rfl).trans e4
    replace e5 := (hoff 5 rfl).trans e5
    replace e28 := (hoff 28 rfl).trans e28
    replace e29 := (hoff 29 rfl).trans e29
    replace e6 := (hoff 6 rfl).trans e6
    replace e7 := (hoff 7 rfl).trans e7
    replace e33 := (hoff 33 rfl).trans e33
    replace e35 := (hoff 35 rfl).trans e35
    replace e36 := (hoff 36 rfl).trans e36
    replace e37 := (hoff 37 rfl).trans e37
    replace sz := sz1
    replace df := df1.trans df
    have Zw22 : w.heap.size ≤ w22.heap.size := CH.size
    clear sz1 df1 hoff hvv hRl hJ
    refine wpo_all rfl ?_
    refine hKK18 _ _ ?_
    refine wp_ret ?_
    exact ret1 rfl df e2 ⟨_, rfl, rfl, CH.below (fun _ _ h => h)⟩
theorem gets_calls (l : List Int) (yl : Byt l) (v : Value) (w : World) (hv : Row 0 w v l) : Ret 5 #[v] w (isV (.bool true)) :=
  gets_law l yl (fun hl => by
    obtain ⟨c, e, hr, hget⟩ := get_calls l yl (by omega)
    obtain ⟨d, f, hr2, hget2⟩ := refGet_calls l yl (by omega)
    obtain ⟨rfl, rfl⟩ := res_one hr hr2
    exact ⟨_, _, hr.ok, hget, hget2⟩) v w hv

end Go.Proofs.Ytgacaemgmgoiaaa.QLeaf
