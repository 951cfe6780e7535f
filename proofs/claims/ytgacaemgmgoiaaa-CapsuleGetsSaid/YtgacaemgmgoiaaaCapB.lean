import Derived.Test.YtgacaemgmgoiaaaCapA
import Derived.Test.YtgacaemgmgoiaaaCapMb

/- The document's Get: what it comes to. -/
namespace Go.Proofs.Ytgacaemgmgoiaaa.QLeaf
open Go.RowKit Go.Proofs.YtgacaemgmgoiaaaW.PrintWords Go.Proofs.YtgacaemgmgoiaaaW.PrintLast Go.Proofs.YtgacaemgmgoiaaaW.PrintMore Go.Proofs.YtgacaemgmgoiaaaW.Cm Go.Proofs.YtgacaemgmgoiaaaW.Rg
set_option linter.unusedVariables false
set_option linter.unusedSimpArgs false
theorem number2_calls (l : List Int) (hl : Byt l) (h8 : l.length ≤ 8) (v : Value) (w : World) {B : Nat} (hv : Row B w v l) : Ret 37 #[v] w (isV (.int .u64 (num l))) := by
  obtain ⟨A, c, rfl, k, hC, _⟩ := hv
  exact (liveryref01_Number.calls (l.length + 1) A c l (num l) w hC k (number_eq l hl h8 _ (by omega))).mono fun e w' ⟨he, hB⟩ => ⟨_, he, rfl, hB.below⟩
theorem mid_len {l : List Int} {a b : Nat} (h : b ≤ l.length) : ((l.take b).drop a).length = b - a := by rw [List.length_drop, List.length_take]; omega

set_option maxHeartbeats 4000000 in
set_option maxRecDepth 100000 in
theorem refGet_all (l : List Int) (yl : Byt l) (hl : l.length < 100000) (n a5 m : Nat) (b0 b1 n3 n4 n5 n6 : Int) (p7 p8 p9 p10 : List Int) (qe1 : Hq (num ((l.take 28).drop 26) = (n : Int))) (hn : 28 ≤ l.length → n < 65536 ∧ 28 + n + 1088 ≤ a5 ∧ a5 ≤ 28 + n + 1088) (qe2 : Hq (num ((l.take (a5 + 2)).drop a5) = (m : Int))) (hm1 : a5 + 2 ≤ l.length → m < 65536) (hr : l.length = a5 + 2 + m + 3309 → (0 ≤ b0 ∧ b0 < 256) ∧ (0 ≤ b1 ∧ b1 < 256) ∧ (0 ≤ n3 ∧ n3 < 4294967296) ∧ (0 ≤ n4 ∧ n4 < 4294967296) ∧ Hq (l[0]? = some b0) ∧ Hq (l[1]? = some b1)) (qe3 : Hq (num ((l.take 6).drop 2) = n3)) (qe4 : Hq (num ((l.take 10).drop 6) = n4)) (qe5 : Hq (num ((l.take 18).drop 10) = n5)) (qe6 : Hq (num ((l.take 26).drop 18) = n6)) (qf7 : Hq ((l.take (28 + n)).drop 28 = p7)) (qf8 : Hq ((l.take a5).drop (28 + n) = p8)) (qf9 : Hq ((l.take (a5 + 2 + m)).drop (a5 + 2) = p9)) (qf10 : Hq (l.drop (a5 + 2 + m) = p10)) (v : Value) (w : World) (hv : Row 0 w v l) : Ret 22 #[v] w (GetP (l.length < 28 ∨ l.length < a5 + 2 ∨ l.length ≠ a5 + 2 + m + 3309 ∨ ¬ Cp.May ⟨b0, b1, n3, n4, n5, n6, p7, p8, p9, p10⟩) ⟨b0, b1, n3, n4, n5, n6, p7, p8, p9, p10⟩ w.heap.size) := by
  obtain ⟨A0, c0, rfl, x1, x2, x3⟩ := hv
  have hv : Row 0 w (.slice A0 l.length c0) l := ⟨_, _, rfl, x1, x2, x3⟩
  clear x1 x2 x3
  refine enterA (n := 105) Try.func22 rfl rfl fun a0 sz df he => ?_
  have e0 : a0.tmps[0]? = some (.slice A0 l.length c0) := he 0 _ rfl
  clear he
  have CH : Chg (fun _ => False) w w := Chg.refl _ _
  have K8 : Keep8 w w := Keep8.refl _
  refine wp_seq_k fun KK1 hKK1 => ?_
  refine raI (S := fun _ => False) 105 2 sz [2, 3] [isBoxC w.heap.size #[.int .i64 0, .int .i64 0, .int .u32 0, .int .u32 0, .int .u64 0, .int .u64 0, .slice none 0 0, .slice none 0 0, .slice none 0 0, .slice none 0 0] 28, isV (.int .i64 0)] [Tr, Tr, Tr] rfl (by decide) (by decide) (by decide) ?_ ?_ ?_ ?_
  · intro J hJ; cases hJ; exact trivial
  · exact (sr_cons (sr_BoxS _ _ _ (fun _ _ h => h)) (sr_cons (sr_V _ _) (sr_nil _)))
  ·refine sti_cons ?_ (sti_cons ?_ sti_nil)
   ·refine sti rfl rfl rfl rfl rfl rfl rfl fun a w' hM hI hoff hp K hK => ?_
    clear hoff hp
    refine op_alloc 28 #[.int .i64 0, .int .i64 0, .int .u32 0, .int .u32 0, .int .u64 0, .int .u64 0, .slice none 0 0, .slice none 0 0, .slice none 0 0, .slice none 0 0] rfl (by kernel_rfl) (hK _ _ (Rl.alloc _ _ _) trivial ⟨_, rfl, hM.keep.size, heap_new _ _⟩)
   ·refine sti rfl rfl rfl rfl rfl rfl rfl fun a w' hM hI hoff hp K hK => ?_
    clear hoff hp
    exact ov  (hK _ _ (Rl.refl _ _) trivial rfl)
  intro a1 w1 sz1 df1 hoff hvv hRl hJ
  obtain ⟨v_, e2, bx2, z_, G1_2, H2⟩ := hvv 0 _ _ rfl rfl
  rw [z_] at e2
  clear z_
  have G2 : w.heap.size ≤ bx2 := Nat.le_trans CH.size G1_2
  replace hv := hv.keep hRl.keep
  replace CH := CH.trans hRl.chg (fun _ _ h => h.elim)
  replace K8 := K8.trans hRl.keep
  obtain ⟨_, e3, rfl⟩ := hvv 1 _ _ rfl rfl
  replace e0 := (hoff 0 rfl).trans e0
  replace sz := sz1
  replace df := df1.trans df
  have Zw1 : w.heap.size ≤ w1.heap.size := CH.size
  clear sz1 df1 hoff hvv hRl hJ
  refine wpo_all rfl ?_
  refine hKK1 _ _ ?_
  refine wp_seq_k fun KK2 hKK2 => ?_
  refine wp_seq_k fun KK3 hKK3 => ?_
  refine raI (S := fun _ => False) 105 3 sz [8, 9, 10] [isV (.slice A0 l.length c0), isV (.int .i64 (l).length), isV (.bool (decide ((l.length : Int) < 28)))] [Tr, Tr, Tr, Tr] rfl (by decide) (by decide) (by decide) ?_ ?_ ?_ ?_
  · intro J hJ; cases hJ; exact trivial
  · exact (sr_cons (sr_V _ _) (sr_cons (sr_V _ _) (sr_cons (sr_V _ _) (sr_nil _))))
  ·refine sti_cons ?_ (sti_cons ?_ (sti_cons ?_ sti_nil))
   ·refine sti rfl rfl rfl rfl rfl rfl rfl fun a w' hM hI hoff hp K hK => ?_
    have e0 : a.tmps[0]? = some (.slice A0 l.length c0) := (hoff 0 rfl).trans e0
    clear hoff hp
    exact ov  (hK _ _ (Rl.refl _ _) trivial rfl)
   ·refine sti rfl rfl rfl rfl rfl rfl rfl fun a w' hM hI hoff hp K hK => ?_
    obtain ⟨_, e8, rfl⟩ := hp 0 rfl 8 _ rfl rfl
    clear hoff hp
    have hlen := row_len (P := Try.prog) (hv.keep hM.keep) ⟨_, Try.underlying26⟩
    exact ov  (hK _ _ (Rl.refl _ _) trivial rfl)
   ·refine sti rfl rfl rfl rfl rfl rfl rfl fun a w' hM hI hoff hp K hK => ?_
    obtain ⟨_, e9, rfl⟩ := hp 1 rfl 9 _ rfl rfl
    clear hoff hp
    exact ov  (hK _ _ (Rl.refl _ _) trivial rfl)
  intro a2 w2 sz1 df1 hoff hvv hRl hJ
  replace H2 := hRl.chg.blk H2 (fun h => h.elim)
  replace hv := hv.keep hRl.keep
  replace CH := CH.trans hRl.chg (fun _ _ h => h.elim)
  replace K8 := K8.trans hRl.keep
  obtain ⟨_, e10, rfl⟩ := hvv 2 _ _ rfl rfl
  replace e0 := (hoff 0 rfl).trans e0
  replace e2 := (hoff 2 rfl).trans e2
  replace e3 := (hoff 3 rfl).trans e3
  replace sz := sz1
  replace df := df1.trans df
  have Zw2 : w.heap.size ≤ w2.heap.size := CH.size
  clear sz1 df1 hoff hvv hRl hJ
  refine wpo_all rfl ?_
  refine hKK3 _ _ ?_
  by_cases f10 : (l.length : Int) < 28
  ·rw [decide_eq_true f10] at e10
   refine wp_cond_true (ev e10) ?_
   refine wp_seq_k fun KK4 hKK4 => ?_
   refine raI (S := fun _ => False) 105 1 sz [11] [isV (.agg #[.int .i64 0, .int .i64 0, .int .u32 0, .int .u32 0, .int .u64 0, .int .u64 0, .slice none 0 0, .slice none 0 0, .slice none 0 0, .slice none 0 0])] [Tr, Tr] rfl (by decide) (by decide) (by decide) ?_ ?_ ?_ ?_
   · intro J hJ; cases hJ; exact trivial
   · exact (sr_cons (sr_V _ _) (sr_nil _))
   ·refine sti_cons ?_ sti_nil
    ·refine sti rfl rfl rfl rfl rfl rfl rfl fun a w' hM hI hoff hp K hK => ?_
     clear hoff hp
     have hu := Try.underlying28
     have hv_25 := Try.underlying25
     exact ov  (hK _ _ (Rl.refl _ _) trivial rfl)
   intro a3 w3 sz1 df1 hoff hvv hRl hJ
   replace H2 := hRl.chg.blk H2 (fun h => h.elim)
   replace hv := hv.keep hRl.keep
   replace CH := CH.trans hRl.chg (fun _ _ h => h.elim)
   replace K8 := K8.trans hRl.keep
   obtain ⟨_, e11, rfl⟩ := hvv 0 _ _ rfl rfl
   replace e0 := (hoff 0 rfl).trans e0
   replace e2 := (hoff 2 rfl).trans e2
   replace e3 := (hoff 3 rfl).trans e3
   replace e10 := (hoff 10 rfl).trans e10
   replace sz := sz1
   replace df := df1.trans df
   have Zw3 : w.heap.size ≤ w3.heap.size := CH.size
   clear sz1 df1 hoff hvv hRl hJ
   refine wpo_step 1 _ rfl rfl (og_plain rfl ?_)
   refine op_store_row 28 _ _ rfl bx2 #[.int .i64 0, .int .i64 0, .int .u32 0, .int .u32 0, .int .u64 0, .int .u64 0, .slice none 0 0, .slice none 0 0, .slice none 0 0, .slice none 0 0] (ev e2) (ev e11) 28 _ H2 (by kernel_rfl) rfl (onel ⟨rfl, rfl, rfl, rfl, rfl, rfl, rfl, rfl, rfl, rfl, trivial⟩) (nbl ⟨rfl, rfl, rfl, rfl, rfl, rfl, rfl, rfl, rfl, rfl, trivial⟩) ?_
   intro w4 H_ hC hK
   change wpOps _ _ _ _ a3 w4
   replace hv := hv.keep hK
   replace CH := CH.trans hC (fun x hx h => (old_new hx G2 h).elim)
   replace K8 := K8.trans hK
   replace H2 : w4.heap[bx2]? = some (.cells #[.int .i64 0, .int .i64 0, .int .u32 0, .int .u32 0, .int .u64 0, .int .u64 0, .slice none 0 0, .slice none 0 0, .slice none 0 0, .slice none 0 0] 28 (0, 0)) := H_
   clear hC hK
   have Zw4 : w.heap.size ≤ w4.heap.size := CH.size
   refine wpo_step 2 _ rfl rfl (og_plain rfl ?_)
   refine op_assign rfl (v := .int .i64 230) rfl ?_
   refine abs_put (K := fun x => wpOps _ _ _ _ x _) (t := 3) sz (by decide) fun a5 sz1 df1 e_new hoff => ?_
   replace e0 := (hoff 0 rfl).trans e0
   replace e2 := (hoff 2 rfl).trans e2
   replace e10 := (hoff 10 rfl).trans e10
   replace e11 := (hoff 11 rfl).trans e11
   have e3 := e_new
   replace sz := sz1
   replace df := df1.trans df
   clear sz1 df1 hoff e_new
   refine wpo_all rfl ?_
   refine hKK4 _ _ ?_
   refine wp_ret ?_
   refine then_r ?_
   exact retc rfl df bx2 28 _ _ _ e2 e3 H2 Try.underlying28 rfl (by kernel_rfl) ⟨_, rfl, ⟨_, .inl ⟨.inl (by omega), rfl, ⟨_, _, _, _, rfl, Row.nil _ _, Row.nil _ _, Row.nil _ _, Row.nil _ _⟩⟩⟩, CH.below (fun _ _ h => h)⟩
  ·rw [decide_eq_false f10] at e10
   refine wp_cond_false (ev e10) ?_
   obtain ⟨n0, ha1, ha2⟩ := hn (by omega)
   refine wp_skip ?_
   refine hKK2 _ _ ?_
   refine wp_seq_k fun KK5 hKK5 => ?_
   refine raI (S := fun _ => False) 105 5 sz [12, 13, 14, 15, 4] [isV (.slice A0 l.length c0), isRow 0 ((l.take 28).drop 26), isV (.int .u64 (n : Int)), isV (.int .i64 (n : Int)), isV (.int .i64 (n : Int))] [Tr, Tr, Tr, Tr, Tr, Tr] rfl (by decide) (by decide) (by decide) ?_ ?_ ?_ ?_
   · intro J hJ; cases hJ; exact trivial
   · exact (sr_cons (sr_V _ _) (sr_cons (sr_Row _ _ _) (sr_cons (sr_V _ _) (sr_cons (sr_V _ _) (sr_cons (sr_V _ _) (sr_nil _))))))
   ·refine sti_cons ?_ (sti_cons ?_ (sti_cons ?_ (sti_cons ?_ (sti_cons ?_ sti_nil))))
    ·refine sti rfl rfl rfl rfl rfl rfl rfl fun a w' hM hI hoff hp K hK => ?_
     have e0 : a.tmps[0]? = some (.slice A0 l.length c0) := (hoff 0 rfl).trans e0
     clear hoff hp
     exact ov  (hK _ _ (Rl.refl _ _) trivial rfl)
    ·refine sti rfl rfl rfl rfl rfl rfl rfl fun a w' hM hI hoff hp K hK => ?_
     obtain ⟨_, e12, rfl⟩ := hp 0 rfl 12 _ rfl rfl
     clear hoff hp
     obtain ⟨v', hrun, hR⟩ := row_mid (P := Try.prog) (hv.keep hM.keep) 26 5 Try.underlying26 size5 26 28 (by omega) (by omega) (by omega)
     have hsl := hrun w'
     exact ov (v := v')  (hK _ _ (Rl.refl _ _) trivial hR)
    ·refine sti rfl rfl rfl rfl rfl rfl rfl fun a w' hM hI hoff hp K hK => ?_
     obtain ⟨v13, e13, h13⟩ := hp 1 rfl 13 _ rfl rfl
     clear hoff hp
     have h_ := number2_calls _ (byt_drop (byt_take yl _) _) (by rw [mid_len (by omega)]; omega) _ _ h13
     rw [qe1.out] at h_
     refine op_call Try.func37 (by kernel_rfl) rfl #[v13] rfl (by simp [Act.eval, e13]) h_ ?_
     rintro e w1 ⟨u, rfl, hR, hb⟩
     exact ⟨u, rfl, hK _ _ (Rl.of_below hb) trivial hR⟩
    ·refine sti rfl rfl rfl rfl rfl rfl rfl fun a w' hM hI hoff hp K hK => ?_
     obtain ⟨_, e14, rfl⟩ := hp 2 rfl 14 _ rfl rfl
     clear hoff hp
     have hw1 := i64wrap (n := (n : Int)) (by omega) (by omega)
     exact ov  (hK _ _ (Rl.refl _ _) trivial rfl)
    ·refine sti rfl rfl rfl rfl rfl rfl rfl fun a w' hM hI hoff hp K hK => ?_
     obtain ⟨_, e15, rfl⟩ := hp 3 rfl 15 _ rfl rfl
     clear hoff hp
     exact ov  (hK _ _ (Rl.refl _ _) trivial rfl)
   intro a6 w6 sz1 df1 hoff hvv hRl hJ
   replace H2 := hRl.chg.blk H2 (fun h => h.elim)
   replace hv := hv.keep hRl.keep
   replace CH := CH.trans hRl.chg (fun _ _ h => h.elim)
   replace K8 := K8.trans hRl.keep
   obtain ⟨_, e4, rfl⟩ := hvv 4 _ _ rfl rfl
   replace e0 := (hoff 0 rfl).trans e0
   replace e2 := (hoff 2 rfl).trans e2
   replace e3 := (hoff 3 rfl).trans e3
   replace e10 := (hoff 10 rfl).trans e10
   replace sz := sz1
   replace df := df1.trans df
   have Zw6 : w.heap.size ≤ w6.heap.size := CH.size
   clear sz1 df1 hoff hvv hRl hJ
   refine wpo_all rfl ?_
   refine hKK5 _ _ ?_
   refine wp_seq_k fun KK6 hKK6 => ?_
   refine raI (S := fun _ => False) 105 4 sz [16, 17, 18, 5] [isV (.int .i64 (n : Int)), isV (.int .i64 (28 + (n : Int))), isV (.int .i64 (a5 : Int)), isV (.int .i64 (a5 : Int))] [Tr, Tr, Tr, Tr, Tr] rfl (by decide) (by decide) (by decide) ?_ ?_ ?_ ?_
   · intro J hJ; cases hJ; exact trivial
   · exact (sr_cons (sr_V _ _) (sr_cons (sr_V _ _) (sr_cons (sr_V _ _) (sr_cons (sr_V _ _) (sr_nil _)))))
   ·refine sti_cons ?_ (sti_cons ?_ (sti_cons ?_ (sti_cons ?_ sti_nil)))
    ·refine sti rfl rfl rfl rfl rfl rfl rfl fun a w' hM hI hoff hp K hK => ?_
     have e4 : a.tmps[4]? = some (.int .i64 (n : Int)) := (hoff 4 rfl).trans e4
     clear hoff hp
     exact ov  (hK _ _ (Rl.refl _ _) trivial rfl)
    ·refine sti rfl rfl rfl rfl rfl rfl rfl fun a w' hM hI hoff hp K hK => ?_
     obtain ⟨_, e16, rfl⟩ := hp 0 rfl 16 _ rfl rfl
     clear hoff hp
     have hw1 := i64wrap (n := 28 + (n : Int)) (by omega) (by omega)
     exact ov  (hK _ _ (Rl.refl _ _) trivial rfl)
    ·refine sti rfl rfl rfl rfl rfl rfl rfl fun a w' hM hI hoff hp K hK => ?_
     obtain ⟨_, e17, rfl⟩ := hp 1 rfl 17 _ rfl rfl
     clear hoff hp
     have hw1 : IntKind.i64.wrap (28 + (n : Int) + 1088) = (a5 : Int) := by rw [i64wrap (by omega) (by omega)]; omega
     exact ov  (hK _ _ (Rl.refl _ _) trivial rfl)
    ·refine sti rfl rfl rfl rfl rfl rfl rfl fun a w' hM hI hoff hp K hK => ?_
     obtain ⟨_, e18, rfl⟩ := hp 2 rfl 18 _ rfl rfl
     clear hoff hp
     exact ov  (hK _ _ (Rl.refl _ _) trivial rfl)
   intro a7 w7 sz1 df1 hoff hvv hRl hJ
   replace H2 := hRl.chg.blk H2 (fun h => h.elim)
   replace hv := hv.keep hRl.keep
   replace CH := CH.trans hRl.chg (fun _ _ h => h.elim)
   replace K8 := K8.trans hRl.keep
   obtain ⟨_, e5, rfl⟩ := hvv 3 _ _ rfl rfl
   replace e0 := (hoff 0 rfl).trans e0
   replace e2 := (hoff 2 rfl).trans e2
   replace e3 := (hoff 3 rfl).trans e3
   replace e10 := (hoff 10 rfl).trans e10
   replace e4 := (hoff 4 rfl).trans e4
   replace sz := sz1
   replace df := df1.trans df
   have Zw7 : w.heap.size ≤ w7.heap.size := CH.size
   clear sz1 df1 hoff hvv hRl hJ
   refine wpo_all rfl ?_
   refine hKK6 _ _ ?_
   refine wp_seq_k fun KK7 hKK7 => ?_
   refine wp_seq_k fun KK8 hKK8 => ?_
   refine raI (S := fun _ => False) 105 5 sz [19, 20, 21, 22, 23] [isV (.slice A0 l.length c0), isV (.int .i64 (l).length), isV (.int .i64 (a5 : Int)), isV (.int .i64 ((a5 : Int) + 2)), isV (.bool (decide ((l.length : Int) < (a5 : Int) + 2)))] [Tr, Tr, Tr, Tr, Tr, Tr] rfl (by decide) (by decide) (by decide) ?_ ?_ ?_ ?_
   · intro J hJ; cases hJ; exact trivial
   · exact (sr_cons (sr_V _ _) (sr_cons (sr_V _ _) (sr_cons (sr_V _ _) (sr_cons (sr_V _ _) (sr_cons (sr_V _ _) (sr_nil _))))))
   ·refine sti_cons ?_ (sti_cons ?_ (sti_cons ?_ (sti_cons ?_ (sti_cons ?_ sti_nil))))
    ·refine sti rfl rfl rfl rfl rfl rfl rfl fun a w' hM hI hoff hp K hK => ?_
     have e0 : a.tmps[0]? = some (.slice A0 l.length c0) := (hoff 0 rfl).trans e0
     clear hoff hp
     exact ov  (hK _ _ (Rl.refl _ _) trivial rfl)
    ·refine sti rfl rfl rfl rfl rfl rfl rfl fun a w' hM hI hoff hp K hK => ?_
     obtain ⟨_, e19, rfl⟩ := hp 0 rfl 19 _ rfl rfl
     clear hoff hp
     have hlen := row_len (P := Try.prog) (hv.keep hM.keep) ⟨_, Try.underlying26⟩
     exact ov  (hK _ _ (Rl.refl _ _) trivial rfl)
    ·refine sti rfl rfl rfl rfl rfl rfl rfl fun a w' hM hI hoff hp K hK => ?_
     have e5 : a.tmps[5]? = some (.int .i64 (a5 : Int)) := (hoff 5 rfl).trans e5
     clear hoff hp
     exact ov  (hK _ _ (Rl.refl _ _) trivial rfl)
    ·refine sti rfl rfl rfl rfl rfl rfl rfl fun a w' hM hI hoff hp K hK => ?_
     obtain ⟨_, e21, rfl⟩ := hp 2 rfl 21 _ rfl rfl
     clear hoff hp
     have hw1 := i64wrap (n := (a5 : Int) + 2) (by omega) (by omega)
     exact ov  (hK _ _ (Rl.refl _ _) trivial rfl)
    ·refine sti rfl rfl rfl rfl rfl rfl rfl fun a w' hM hI hoff hp K hK => ?_
     obtain ⟨_, e20, rfl⟩ := hp 1 rfl 20 _ rfl rfl
     obtain ⟨_, e22, rfl⟩ := hp 3 rfl 22 _ rfl rfl
     clear hoff hp
     exact ov  (hK _ _ (Rl.refl _ _) trivial rfl)
   intro a8 w8 sz1 df1 hoff hvv hRl hJ
   replace H2 := hRl.chg.blk H2 (fun h => h.elim)
   replace hv := hv.keep hRl.keep
   replace CH := CH.trans hRl.chg (fun _ _ h => h.elim)
   replace K8 := K8.trans hRl.keep
   obtain ⟨_, e23, rfl⟩ := hvv 4 _ _ rfl rfl
   replace e0 := (hoff 0 rfl).trans e0
   replace e2 := (hoff 2 rfl).trans e2
   replace e3 := (hoff 3 rfl).trans e3
   replace e10 := (hoff 10 rfl).trans e10
   replace e4 := (hoff 4 rfl).trans e4
   replace e5 := (hoff 5 rfl).trans e5
   replace sz := sz1
   replace df := df1.trans df
   have Zw8 : w.heap.size ≤ w8.heap.size := CH.size
   clear sz1 df1 hoff hvv hRl hJ
   refine wpo_all rfl ?_
   refine hKK8 _ _ ?_
   by_cases f23 : (l.length : Int) < (a5 : Int) + 2
   ·rw [decide_eq_true f23] at e23
    refine wp_cond_true (ev e23) ?_
    refine wp_seq_k fun KK9 hKK9 => ?_
    refine raI (S := fun _ => False) 105 1 sz [24] [isV (.agg #[.int .i64 0, .int .i64 0, .int .u32 0, .int .u32 0, .int .u64 0, .int .u64 0, .slice none 0 0, .slice none 0 0, .slice none 0 0, .slice none 0 0])] [Tr, Tr] rfl (by decide) (by decide) (by decide) ?_ ?_ ?_ ?_
    · intro J hJ; cases hJ; exact trivial
    · exact (sr_cons (sr_V _ _) (sr_nil _))
    ·refine sti_cons ?_ sti_nil
     ·refine sti rfl rfl rfl rfl rfl rfl rfl fun a w' hM hI hoff hp K hK => ?_
      clear hoff hp
      have hu := Try.underlying28
      have hv_25 := Try.underlying25
      exact ov  (hK _ _ (Rl.refl _ _) trivial rfl)
    intro a9 w9 sz1 df1 hoff hvv hRl hJ
    replace H2 := hRl.chg.blk H2 (fun h => h.elim)
    replace hv := hv.keep hRl.keep
    replace CH := CH.trans hRl.chg (fun _ _ h => h.elim)
    replace K8 := K8.trans hRl.keep
    obtain ⟨_, e24, rfl⟩ := hvv 0 _ _ rfl rfl
    replace e0 := (hoff 0 rfl).trans e0
    replace e2 := (hoff 2 rfl).trans e2
    replace e3 := (hoff 3 rfl).trans e3
    replace e10 := (hoff 10 rfl).trans e10
    replace e4 := (hoff 4 rfl).trans e4
    replace e5 := (hoff 5 rfl).trans e5
    replace e23 := (hoff 23 rfl).trans e23
    replace sz := sz1
    replace df := df1.trans df
    have Zw9 : w.heap.size ≤ w9.heap.size := CH.size
    clear sz1 df1 hoff hvv hRl hJ
    refine wpo_step 1 _ rfl rfl (og_plain rfl ?_)
    refine op_store_row 28 _ _ rfl bx2 #[.int .i64 0, .int .i64 0, .int .u32 0, .int .u32 0, .int .u64 0, .int .u64 0, .slice none 0 0, .slice none 0 0, .slice none 0 0, .slice none 0 0] (ev e2) (ev e24) 28 _ H2 (by kernel_rfl) rfl (onel ⟨rfl, rfl, rfl, rfl, rfl, rfl, rfl, rfl, rfl, rfl, trivial⟩) (nbl ⟨rfl, rfl, rfl, rfl, rfl, rfl, rfl, rfl, rfl, rfl, trivial⟩) ?_
    intro w10 H_ hC hK
    change wpOps _ _ _ _ a9 w10
    replace hv := hv.keep hK
    replace CH := CH.trans hC (fun x hx h => (old_new hx G2 h).elim)
    replace K8 := K8.trans hK
    replace H2 : w10.heap[bx2]? = some (.cells #[.int .i64 0, .int .i64 0, .int .u32 0, .int .u32 0, .int .u64 0, .int .u64 0, .slice none 0 0, .slice none 0 0, .slice none 0 0, .slice none 0 0] 28 (0, 0)) := H_
    clear hC hK
    have Zw10 : w.heap.size ≤ w10.heap.size := CH.size
    refine wpo_step 2 _ rfl rfl (og_plain rfl ?_)
    refine op_assign rfl (v := .int .i64 230) rfl ?_
    refine abs_put (K := fun x => wpOps _ _ _ _ x _) (t := 3) sz (by decide) fun a11 sz1 df1 e_new hoff => ?_
    replace e0 := (hoff 0 rfl).trans e0
    replace e2 := (hoff 2 rfl).trans e2
    replace e10 := (hoff 10 rfl).trans e10
    replace e4 := (hoff 4 rfl).trans e4
    replace e5 := (hoff 5 rfl).trans e5
    replace e23 := (hoff 23 rfl).trans e23
    replace e24 := (hoff 24 rfl).trans e24
    have e3 := e_new
    replace sz := sz1
    replace df := df1.trans df
    clear sz1 df1 hoff e_new
    refine wpo_all rfl ?_
    refine hKK9 _ _ ?_
    refine wp_ret ?_
    refine then_r ?_
    exact retc rfl df bx2 28 _ _ _ e2 e3 H2 Try.underlying28 rfl (by kernel_rfl) ⟨_, rfl, ⟨_, .inl ⟨.inr (.inl (by omega)), rfl, ⟨_, _, _, _, rfl, Row.nil _ _, Row.nil _ _, Row.nil _ _, Row.nil _ _⟩⟩⟩, CH.below (fun _ _ h => h)⟩
   ·rw [decide_eq_false f23] at e23
    refine wp_cond_false (ev e23) ?_
    have m0 := hm1 (by omega)
    refine wp_skip ?_
    refine hKK7 _ _ ?_
    refine wp_seq_k fun KK10 hKK10 => ?_
    refine raI (S := fun _ => False) 105 8 sz [25, 26, 27, 28, 29, 30, 31, 6] [isV (.slice A0 l.length c0), isV (.int .i64 (a5 : Int)), isV (.int .i64 (a5 : Int)), isV (.int .i64 ((a5 : Int) + 2)), isRow 0 ((l.take (a5 + 2)).drop a5), isV (.int .u64 (m : Int)), isV (.int .i64 (m : Int)), isV (.int .i64 (m : Int))] [Tr, Tr, Tr, Tr, Tr, Tr, Tr, Tr, Tr] rfl (by decide) (by decide) (by decide) ?_ ?_ ?_ ?_
    · intro J hJ; cases hJ; exact trivial
    · exact (sr_cons (sr_V _ _) (sr_cons (sr_V _ _) (sr_cons (sr_V _ _) (sr_cons (sr_V _ _) (sr_cons (sr_Row _ _ _) (sr_cons (sr_V _ _) (sr_cons (sr_V _ _) (sr_cons (sr_V _ _) (sr_nil _)))))))))
    ·refine sti_cons ?_ (sti_cons ?_ (sti_cons ?_ (sti_cons ?_ (sti_cons ?_ (sti_cons ?_ (sti_cons ?_ (sti_cons ?_ sti_nil)))))))
     ·refine sti rfl rfl rfl rfl rfl rfl rfl fun a w' hM hI hoff hp K hK => ?_
      have e0 : a.tmps[0]? = some (.slice A0 l.length c0) := (hoff 0 rfl).trans e0
      clear hoff hp
      exact ov  (hK _ _ (Rl.refl _ _) trivial rfl)
     ·refine sti rfl rfl rfl rfl rfl rfl rfl fun a w' hM hI hoff hp K hK => ?_
      have e5 : a.tmps[5]? = some (.int .i64 (a5 : Int)) := (hoff 5 rfl).trans e5
      clear hoff hp
      exact ov  (hK _ _ (Rl.refl _ _) trivial rfl)
     ·refine sti rfl rfl rfl rfl rfl rfl rfl fun a w' hM hI hoff hp K hK => ?_
      have e5 : a.tmps[5]? = some (.int .i64 (a5 : Int)) := (hoff 5 rfl).trans e5
      clear hoff hp
      exact ov  (hK _ _ (Rl.refl _ _) trivial rfl)
     ·refine sti rfl rfl rfl rfl rfl rfl rfl fun a w' hM hI hoff hp K hK => ?_
      obtain ⟨_, e27, rfl⟩ := hp 2 rfl 27 _ rfl rfl
      clear hoff hp
      have hw1 := i64wrap (n := (a5 : Int) + 2) (by omega) (by omega)
      exact ov  (hK _ _ (Rl.refl _ _) trivial rfl)
     ·refine sti rfl rfl rfl rfl rfl rfl rfl fun a w' hM hI hoff hp K hK => ?_
      obtain ⟨_, e25, rfl⟩ := hp 0 rfl 25 _ rfl rfl
      obtain ⟨_, e26, rfl⟩ := hp 1 rfl 26 _ rfl rfl
      obtain ⟨_, e28, rfl⟩ := hp 3 rfl 28 _ rfl rfl
      clear hoff hp
      obtain ⟨v', hrun, hR⟩ := row_mid (P := Try.prog) (hv.keep hM.keep) 26 5 Try.underlying26 size5 (a5 : Int) ((a5 : Int) + 2) (by omega) (by omega) (by omega)
      have hsl := hrun w'
      exact ov (v := v')  (hK _ _ (Rl.refl _ _) trivial hR)
     ·refine sti rfl rfl rfl rfl rfl rfl rfl fun a w' hM hI hoff hp K hK => ?_
      obtain ⟨v29, e29, h29⟩ := hp 4 rfl 29 _ rfl rfl
      clear hoff hp
      have h_ := number2_calls _ (byt_drop (byt_take yl _) _) (by rw [mid_len (by omega)]; omega) _ _ h29
      rw [qe2.out] at h_
      refine op_call Try.func37 (by kernel_rfl) rfl #[v29] rfl (by simp [Act.eval, e29]) h_ ?_
      rintro e w1 ⟨u, rfl, hR, hb⟩
      exact ⟨u, rfl, hK _ _ (Rl.of_below hb) trivial hR⟩
     ·refine sti rfl rfl rfl rfl rfl rfl rfl fun a w' hM hI hoff hp K hK => ?_
      obtain ⟨_, e30, rfl⟩ := hp 5 rfl 30 _ rfl rfl
      clear hoff hp
      have hw1 := i64wrap (n := (m : Int)) (by omega) (by omega)
      exact ov  (hK _ _ (Rl.refl _ _) trivial rfl)
     ·refine sti rfl rfl rfl rfl rfl rfl rfl fun a w' hM hI hoff hp K hK => ?_
      obtain ⟨_, e31, rfl⟩ := hp 6 rfl 31 _ rfl rfl
      clear hoff hp
      exact ov  (hK _ _ (Rl.refl _ _) trivial rfl)
    intro a12 w12 sz1 df1 hoff hvv hRl hJ
    replace H2 := hRl.chg.blk H2 (fun h => h.elim)
    replace hv := hv.keep hRl.keep
    replace CH := CH.trans hRl.chg (fun _ _ h => h.elim)
    replace K8 := K8.trans hRl.keep
    obtain ⟨_, e6, rfl⟩ := hvv 7 _ _ rfl rfl
    replace e0 := (hoff 0 rfl).trans e0
    replace e2 := (hoff 2 rfl).trans e2
    replace e3 := (hoff 3 rfl).trans e3
    replace e10 := (hoff 10 rfl).trans e10
    replace e4 := (hoff 4 rfl).trans e4
    replace e5 := (hoff 5 rfl).trans e5
    replace e23 := (hoff 23 rfl).trans e23
    replace sz := sz1
    replace df := df1.trans df
    have Zw12 : w.heap.size ≤ w12.heap.size := CH.size
    clear sz1 df1 hoff hvv hRl hJ
    refine wpo_all rfl ?_
    refine hKK10 _ _ ?_
    refine wp_seq_k fun KK11 hKK11 => ?_
    refine wp_seq_k fun KK12 hKK12 => ?_
    by_cases hlen : l.length = a5 + 2 + m + 3309
    ·skip
     have hl1 : l.length ≤ a5 + 2 + m + 3309 ∧ a5 + 2 + m + 3309 ≤ l.length := by omega
     have ql := Hq.mk hlen
     clear hlen
     refine raI (S := fun _ => False) 105 8 sz [32, 33, 34, 35, 36, 37, 38, 39] [isV (.slice A0 l.length c0), isV (.int .i64 (l).length), isV (.int .i64 (a5 : Int)), isV (.int .i64 ((a5 : Int) + 2)), isV (.int .i64 (m : Int)), isV (.int .i64 ((a5 : Int) + 2 + (m : Int))), isV (.int .i64 ((a5 : Int) + 2 + (m : Int) + 3309)), isV (.bool false)] [Tr, Tr, Tr, Tr, Tr, Tr, Tr, Tr, Tr] rfl (by decide) (by decide) (by decide) ?_ ?_ ?_ ?_
     · intro J hJ; cases hJ; exact trivial
     · exact (sr_cons (sr_V _ _) (sr_cons (sr_V _ _) (sr_cons (sr_V _ _) (sr_cons (sr_V _ _) (sr_cons (sr_V _ _) (sr_cons (sr_V _ _) (sr_cons (sr_V _ _) (sr_cons (sr_V _ _) (sr_nil _)))))))))
     ·refine sti_cons ?_ (sti_cons ?_ (sti_cons ?_ (sti_cons ?_ (sti_cons ?_ (sti_cons ?_ (sti_cons ?_ (sti_cons ?_ sti_nil)))))))
      ·refine sti rfl rfl rfl rfl rfl rfl rfl fun a w' hM hI hoff hp K hK => ?_
       have e0 : a.tmps[0]? = some (.slice A0 l.length c0) := (hoff 0 rfl).trans e0
       clear hoff hp
       exact ov  (hK _ _ (Rl.refl _ _) trivial rfl)
      ·refine sti rfl rfl rfl rfl rfl rfl rfl fun a w' hM hI hoff hp K hK => ?_
       obtain ⟨_, e32, rfl⟩ := hp 0 rfl 32 _ rfl rfl
       clear hoff hp
       have hlen := row_len (P := Try.prog) (hv.keep hM.keep) ⟨_, Try.underlying26⟩
       exact ov  (hK _ _ (Rl.refl _ _) trivial rfl)
      ·refine sti rfl rfl rfl rfl rfl rfl rfl fun a w' hM hI hoff hp K hK => ?_
       have e5 : a.tmps[5]? = some (.int .i64 (a5 : Int)) := (hoff 5 rfl).trans e5
       clear hoff hp
       exact ov  (hK _ _ (Rl.refl _ _) trivial rfl)
      ·refine sti rfl rfl rfl rfl rfl rfl rfl fun a w' hM hI hoff hp K hK => ?_
       obtain ⟨_, e34, rfl⟩ := hp 2 rfl 34 _ rfl rfl
       clear hoff hp
       have hw1 := i64wrap (n := (a5 : Int) + 2) (by omega) (by omega)
       exact ov  (hK _ _ (Rl.refl _ _) trivial rfl)
      ·refine sti rfl rfl rfl rfl rfl rfl rfl fun a w' hM hI hoff hp K hK => ?_
       have e6 : a.tmps[6]? = some (.int .i64 (m : Int)) := (hoff 6 rfl).trans e6
       clear hoff hp
       exact ov  (hK _ _ (Rl.refl _ _) trivial rfl)
      ·refine sti rfl rfl rfl rfl rfl rfl rfl fun a w' hM hI hoff hp K hK => ?_
       obtain ⟨_, e35, rfl⟩ := hp 3 rfl 35 _ rfl rfl
       obtain ⟨_, e36, rfl⟩ := hp 4 rfl 36 _ rfl rfl
       clear hoff hp
       have hw1 := i64wrap (n := ((a5 : Int) + 2) + (m : Int)) (by omega) (by omega)
       exact ov  (hK _ _ (Rl.refl _ _) trivial rfl)
      ·refine sti rfl rfl rfl rfl rfl rfl rfl fun a w' hM hI hoff hp K hK => ?_
       obtain ⟨_, e37, rfl⟩ := hp 5 rfl 37 _ rfl rfl
       clear hoff hp
       have hw1 := i64wrap (n := ((a5 : Int) + 2 + (m : Int)) + 3309) (by omega) (by omega)
       exact ov  (hK _ _ (Rl.refl _ _) trivial rfl)
      ·refine sti rfl rfl rfl rfl rfl rfl rfl fun a w' hM hI hoff hp K hK => ?_
       obtain ⟨_, e33, rfl⟩ := hp 1 rfl 33 _ rfl rfl
       obtain ⟨_, e38, rfl⟩ := hp 6 rfl 38 _ rfl rfl
       clear hoff hp
       have q1 : ((l.length : Int) != (a5 : Int) + 2 + (m : Int) + 3309) = false := by rw [bne_eq_false_iff_eq]; omega
       exact ov  (hK _ _ (Rl.refl _ _) trivial rfl)
     intro a13 w13 sz1 df1 hoff hvv hRl hJ
     replace H2 := hRl.chg.blk H2 (fun h => h.elim)
     replace hv := hv.keep hRl.keep
     replace CH := CH.trans hRl.chg (fun _ _ h => h.elim)
     replace K8 := K8.trans hRl.keep
     obtain ⟨_, e39, rfl⟩ := hvv 7 _ _ rfl rfl
     replace e0 := (hoff 0 rfl).trans e0
     replace e2 := (hoff 2 rfl).trans e2
     replace e3 := (hoff 3 rfl).trans e3
     replace e10 := (hoff 10 rfl).trans e10
     replace e4 := (hoff 4 rfl).trans e4
     replace e5 := (hoff 5 rfl).trans e5
     replace e23 := (hoff 23 rfl).trans e23
     replace e6 := (hoff 6 rfl).trans e6
     replace sz := sz1
     replace df := df1.trans df
     have Zw13 : w.heap.size ≤ w13.heap.size := CH.size
     clear sz1 df1 hoff hvv hRl hJ
     refine wpo_all rfl ?_
     refine hKK12 _ _ ?_
     refine wp_cond_false (ev e39) ?_
     refine wp_skip ?_
     refine hKK11 _ _ ?_
     refine wp_seq_k fun KK13 hKK13 => ?_
     obtain ⟨r0, r1, r3, r4, qb0, qb1⟩ := hr ql.out
     have L14_x2 := blk_lt H2
     refine raR (S := fun _ => False) 105 25 sz (by kernel_rfl) (by decide +kernel) (by decide) (by decide +kernel) [41, 42, 43, 44, 45, 46, 47, 48, 49, 50, 51, 52, 53, 54, 55, 56, 57, 58, 59, 60, 61, 62, 63, 64, 7] [isV (.slice A0 l.length c0), isPtr (.int .u8 b0), isV (.int .u8 b0), isV (.int .i64 b0), isV (.slice A0 l.length c0), isPtr (.int .u8 b1), isV (.int .u8 b1), isV (.int .i64 b1), isV (.slice A0 l.length c0), isRow 0 ((l.take 6).drop 2), isV (.int .u64 n3), isV (.int .u32 n3), isV (.slice A0 l.length c0), isRow 0 ((l.take 10).drop 6), isV (.int .u64 n4), isV (.int .u32 n4), isV (.slice A0 l.length c0), isRow 0 ((l.take 18).drop 10), isV (.int .u64 n5), isV (.slice A0 l.length c0), isRow 0 ((l.take 26).drop 18), isV (.int .u64 n6), isV (.agg #[.int .u64 n5, .int .u64 n6]), isV (.agg #[.int .i64 b0, .int .i64 b1, .int .u32 n3, .int .u32 n4, .int .u64 n5, .int .u64 n6, .slice none 0 0, .slice none 0 0, .slice none 0 0, .slice none 0 0]), isBoxC w13.heap.size #[.int .i64 0, .int .i64 0, .int .u32 0, .int .u32 0, .int .u64 0, .int .u64 0, .slice none 0 0, .slice none 0 0, .slice none 0 0, .slice none 0 0] 28] rfl (by decide) (by decide) ?_ ?_ ?_
     · exact (sr_cons (sr_V _ _) (sr_cons (sr_Ptr _ _) (sr_cons (sr_V _ _) (sr_cons (sr_V _ _) (sr_cons (sr_V _ _) (sr_cons (sr_Ptr _ _) (sr_cons (sr_V _ _) (sr_cons (sr_V _ _) (sr_cons (sr_V _ _) (sr_cons (sr_Row _ _ _) (sr_cons (sr_V _ _) (sr_cons (sr_V _ _) (sr_cons (sr_V _ _) (sr_cons (sr_Row _ _ _) (sr_cons (sr_V _ _) (sr_cons (sr_V _ _) (sr_cons (sr_V _ _) (sr_cons (sr_Row _ _ _) (sr_cons (sr_V _ _) (sr_cons (sr_V _ _) (sr_cons (sr_Row _ _ _) (sr_cons (sr_V _ _) (sr_cons (sr_V _ _) (sr_cons (sr_V _ _) (sr_cons (sr_BoxS _ _ _ (fun _ _ h => h)) (sr_nil _))))))))))))))))))))))))))
     ·refine str_cons ?_ (str_cons ?_ (str_cons ?_ (str_cons ?_ (str_cons ?_ (str_cons ?_ (str_cons ?_ (str_cons ?_ (str_cons ?_ (str_cons ?_ (str_cons ?_ (str_cons ?_ (str_cons ?_ (str_cons ?_ (str_cons ?_ (str_cons ?_ (str_cons ?_ (str_cons ?_ (str_cons ?_ (str_cons ?_ (str_cons ?_ (str_cons ?_ (str_cons ?_ (str_cons ?_ (str_cons ?_ str_nil))))))))))))))))))))))))
      ·refine str rfl rfl rfl rfl rfl fun a w' hM hI hoff hp K hK => ?_
       have e0 : a.tmps[0]? = some (.slice A0 l.length c0) := (hoff 0 rfl).trans e0
       clear hoff hp
       exact ov  (hK _ _ (Rl.refl _ _) trivial rfl)
      ·refine str rfl rfl rfl rfl rfl fun a w' hM hI hoff hp K hK => ?_
       obtain ⟨_, e41, rfl⟩ := hp 0 rfl 41 _ rfl rfl
       clear hoff hp
       obtain ⟨ad, hrun, hP⟩ := row_at (P := Try.prog) (hv.keep hM.keep) 26 5 Try.underlying26 size5 0 b0 qb0.out
       have hsl : (Instr.indexAt 26 (.slice A0 l.length c0) (.int .i64 0)).run Try.prog w' = .ok (.pointer (some ad)) w' := hrun w'
       exact ov (v := .pointer (some ad))  (hK _ _ (Rl.refl _ _) trivial hP)
      ·refine str rfl rfl rfl rfl rfl fun a w' hM hI hoff hp K hK => ?_
       obtain ⟨v42, e42, h42⟩ := hp 1 rfl 42 _ rfl rfl
       clear hoff hp
       obtain ⟨ad, rfl, hc⟩ := h42
       exact ov  (hK _ _ (Rl.refl _ _) trivial rfl)
      ·refine str rfl rfl rfl rfl rfl fun a w' hM hI hoff hp K hK => ?_
       obtain ⟨_, e43, rfl⟩ := hp 2 rfl 43 _ rfl rfl
       clear hoff hp
       have hw1 := i64wrap (n := b0) (by omega) (by omega)
       exact ov  (hK _ _ (Rl.refl _ _) trivial rfl)
      ·refine str rfl rfl rfl rfl rfl fun a w' hM hI hoff hp K hK => ?_
       have e0 : a.tmps[0]? = some (.slice A0 l.length c0) := (hoff 0 rfl).trans e0
       clear hoff hp
       exact ov  (hK _ _ (Rl.refl _ _) trivial rfl)
      ·refine str rfl rfl rfl rfl rfl fun a w' hM hI hoff hp K hK => ?_
       obtain ⟨_, e45, rfl⟩ := hp 4 rfl 45 _ rfl rfl
       clear hoff hp
       obtain ⟨ad, hrun, hP⟩ := row_at (P := Try.prog) (hv.keep hM.keep) 26 5 Try.underlying26 size5 1 b1 qb1.out
       have hsl : (Instr.indexAt 26 (.slice A0 l.length c0) (.int .i64 1)).run Try.prog w' = .ok (.pointer (some ad)) w' := hrun w'
       exact ov (v := .pointer (some ad))  (hK _ _ (Rl.refl _ _) trivial hP)
      ·refine str rfl rfl rfl rfl rfl fun a w' hM hI hoff hp K hK => ?_
       obtain ⟨v46, e46, h46⟩ := hp 5 rfl 46 _ rfl rfl
       clear hoff hp
       obtain ⟨ad, rfl, hc⟩ := h46
       exact ov  (hK _ _ (Rl.refl _ _) trivial rfl)
      ·refine str rfl rfl rfl rfl rfl fun a w' hM hI hoff hp K hK => ?_
       obtain ⟨_, e47, rfl⟩ := hp 6 rfl 47 _ rfl rfl
       clear hoff hp
       have hw1 := i64wrap (n := b1) (by omega) (by omega)
       exact ov  (hK _ _ (Rl.refl _ _) trivial rfl)
      ·refine str rfl rfl rfl rfl rfl fun a w' hM hI hoff hp K hK => ?_
       have e0 : a.tmps[0]? = some (.slice A0 l.length c0) := (hoff 0 rfl).trans e0
       clear hoff hp
       exact ov  (hK _ _ (Rl.refl _ _) trivial rfl)
      ·refine str rfl rfl rfl rfl rfl fun a w' hM hI hoff hp K hK => ?_
       obtain ⟨_, e49, rfl⟩ := hp 8 rfl 49 _ rfl rfl
       clear hoff hp
       obtain ⟨v', hrun, hR⟩ := row_mid (P := Try.prog) (hv.keep hM.keep) 26 5 Try.underlying26 size5 2 6 (by omega) (by omega) (by omega)
       have hsl := hrun w'
       exact ov (v := v')  (hK _ _ (Rl.refl _ _) trivial hR)
      ·refine str rfl rfl rfl rfl rfl fun a w' hM hI hoff hp K hK => ?_
       obtain ⟨v50, e50, h50⟩ := hp 9 rfl 50 _ rfl rfl
       clear hoff hp
       have h_ := number2_calls _ (byt_drop (byt_take yl _) _) (by rw [mid_len (by omega)]; omega) _ _ h50
       rw [qe3.out] at h_
       refine op_call Try.func37 (by kernel_rfl) rfl #[v50] rfl (by simp [Act.eval, e50]) h_ ?_
       rintro e w1 ⟨u, rfl, hR, hb⟩
       exact ⟨u, rfl, hK _ _ (Rl.of_below hb) trivial hR⟩
      ·refine str rfl rfl rfl rfl rfl fun a w' hM hI hoff hp K hK => ?_
       obtain ⟨_, e51, rfl⟩ := hp 10 rfl 51 _ rfl rfl
       clear hoff hp
       have hw1 := u32wrap (n := n3) (by omega) (by omega)
       exact ov  (hK _ _ (Rl.refl _ _) trivial rfl)
      ·refine str rfl rfl rfl rfl rfl fun a w' hM hI hoff hp K hK => ?_
       have e0 : a.tmps[0]? = some (.slice A0 l.length c0) := (hoff 0 rfl).trans e0
       clear hoff hp
       exact ov  (hK _ _ (Rl.refl _ _) trivial rfl)
      ·refine str rfl rfl rfl rfl rfl fun a w' hM hI hoff hp K hK => ?_
       obtain ⟨_, e53, rfl⟩ := hp 12 rfl 53 _ rfl rfl
       clear hoff hp
       obtain ⟨v', hrun, hR⟩ := row_mid (P := Try.prog) (hv.keep hM.keep) 26 5 Try.underlying26 size5 6 10 (by omega) (by omega) (by omega)
       have hsl := hrun w'
       exact ov (v := v')  (hK _ _ (Rl.refl _ _) trivial hR)
      ·refine str rfl rfl rfl rfl rfl fun a w' hM hI hoff hp K hK => ?_
       obtain ⟨v54, e54, h54⟩ := hp 13 rfl 54 _ rfl rfl
       clear hoff hp
       have h_ := number2_calls _ (byt_drop (byt_take yl _) _) (by rw [mid_len (by omega)]; omega) _ _ h54
       rw [qe4.out] at h_
       refine op_call Try.func37 (by kernel_rfl) rfl #[v54] rfl (by simp [Act.eval, e54]) h_ ?_
       rintro e w1 ⟨u, rfl, hR, hb⟩
       exact ⟨u, rfl, hK _ _ (Rl.of_below hb) trivial hR⟩
      ·refine str rfl rfl rfl rfl rfl fun a w' hM hI hoff hp K hK => ?_
       obtain ⟨_, e55, rfl⟩ := hp 14 rfl 55 _ rfl rfl
       clear hoff hp
       have hw1 := u32wrap (n := n4) (by omega) (by omega)
       exact ov  (hK _ _ (Rl.refl _ _) trivial rfl)
      ·refine str rfl rfl rfl rfl rfl fun a w' hM hI hoff hp K hK => ?_
       have e0 : a.tmps[0]? = some (.slice A0 l.length c0) := (hoff 0 rfl).trans e0
       clear hoff hp
       exact ov  (hK _ _ (Rl.refl _ _) trivial rfl)
      ·refine str rfl rfl rfl rfl rfl fun a w' hM hI hoff hp K hK => ?_
       obtain ⟨_, e57, rfl⟩ := hp 16 rfl 57 _ rfl rfl
       clear hoff hp
       obtain ⟨v', hrun, hR⟩ := row_mid (P := Try.prog) (hv.keep hM.keep) 26 5 Try.underlying26 size5 10 18 (by omega) (by omega) (by omega)
       have hsl := hrun w'
       exact ov (v := v')  (hK _ _ (Rl.refl _ _) trivial hR)
      ·refine str rfl rfl rfl rfl rfl fun a w' hM hI hoff hp K hK => ?_
       obtain ⟨v58, e58, h58⟩ := hp 17 rfl 58 _ rfl rfl
       clear hoff hp
       have h_ := number2_calls _ (byt_drop (byt_take yl _) _) (by rw [mid_len (by omega)]; omega) _ _ h58
       rw [qe5.out] at h_
       refine op_call Try.func37 (by kernel_rfl) rfl #[v58] rfl (by simp [Act.eval, e58]) h_ ?_
       rintro e w1 ⟨u, rfl, hR, hb⟩
       exact ⟨u, rfl, hK _ _ (Rl.of_below hb) trivial hR⟩
      ·refine str rfl rfl rfl rfl rfl fun a w' hM hI hoff hp K hK => ?_
       have e0 : a.tmps[0]? = some (.slice A0 l.length c0) := (hoff 0 rfl).trans e0
       clear hoff hp
       exact ov  (hK _ _ (Rl.refl _ _) trivial rfl)
      ·refine str rfl rfl rfl rfl rfl fun a w' hM hI hoff hp K hK => ?_
       obtain ⟨_, e60, rfl⟩ := hp 19 rfl 60 _ rfl rfl
       clear hoff hp
       obtain ⟨v', hrun, hR⟩ := row_mid (P := Try.prog) (hv.keep hM.keep) 26 5 Try.underlying26 size5 18 26 (by omega) (by omega) (by omega)
       have hsl := hrun w'
       exact ov (v := v')  (hK _ _ (Rl.refl _ _) trivial hR)
      ·refine str rfl rfl rfl rfl rfl fun a w' hM hI hoff hp K hK => ?_
       obtain ⟨v61, e61, h61⟩ := hp 20 rfl 61 _ rfl rfl
       clear hoff hp
       have h_ := number2_calls _ (byt_drop (byt_take yl _) _) (by rw [mid_len (by omega)]; omega) _ _ h61
       rw [qe6.out] at h_
       refine op_call Try.func37 (by kernel_rfl) rfl #[v61] rfl (by simp [Act.eval, e61]) h_ ?_
       rintro e w1 ⟨u, rfl, hR, hb⟩
       exact ⟨u, rfl, hK _ _ (Rl.of_below hb) trivial hR⟩
      ·refine str rfl rfl rfl rfl rfl fun a w' hM hI hoff hp K hK => ?_
       obtain ⟨_, e59, rfl⟩ := hp 18 rfl 59 _ rfl rfl
       obtain ⟨_, e62, rfl⟩ := hp 21 rfl 62 _ rfl rfl
       clear hoff hp
       have hu := Try.underlying25
       exact ov  (hK _ _ (Rl.refl _ _) trivial rfl)
      ·refine str rfl rfl rfl rfl rfl fun a w' hM hI hoff hp K hK => ?_
       obtain ⟨_, e44, rfl⟩ := hp 3 rfl 44 _ rfl rfl
       obtain ⟨_, e48, rfl⟩ := hp 7 rfl 48 _ rfl rfl
       obtain ⟨_, e52, rfl⟩ := hp 11 rfl 52 _ rfl rfl
       obtain ⟨_, e56, rfl⟩ := hp 15 rfl 56 _ rfl rfl
       obtain ⟨_, e63, rfl⟩ := hp 22 rfl 63 _ rfl rfl
       clear hoff hp
       have hu := Try.underlying28
       have hv_25 := Try.underlying25
       exact ov  (hK _ _ (Rl.refl _ _) trivial rfl)
      ·refine str rfl rfl rfl rfl rfl fun a w' hM hI hoff hp K hK => ?_
       clear hoff hp
       refine op_alloc 28 #[.int .i64 0, .int .i64 0, .int .u32 0, .int .u32 0, .int .u64 0, .int .u64 0, .slice none 0 0, .slice none 0 0, .slice none 0 0, .slice none 0 0] rfl (by kernel_rfl) (hK _ _ (Rl.alloc _ _ _) trivial ⟨_, rfl, hM.keep.size, heap_new _ _⟩)
     intro a14 w14 sz1 df1 hoff hvv hRl
     obtain ⟨v_, e7, bx7, z_, G14_7, H7⟩ := hvv 24 _ _ rfl rfl
     rw [z_] at e7
     clear z_
     have G7 : w.heap.size ≤ bx7 := Nat.le_trans CH.size G14_7
     have nex2_x7 := ne_new L14_x2 G14_7
     have nex7_x2 := new_ne L14_x2 G14_7
     replace H2 := hRl.chg.blk H2 (fun h => h.elim)
     replace hv := hv.keep hRl.keep
     replace CH := CH.trans hRl.chg (fun _ _ h => h.elim)
     replace K8 := K8.trans hRl.keep
     obtain ⟨_, e64, rfl⟩ := hvv 23 _ _ rfl rfl
     replace e0 := (hoff 0 rfl).trans e0
     replace e2 := (hoff 2 rfl).trans e2
     replace e3 := (hoff 3 rfl).trans e3
     replace e10 := (hoff 10 rfl).trans e10
     replace e4 := (hoff 4 rfl).trans e4
     replace e5 := (hoff 5 rfl).trans e5
     replace e23 := (hoff 23 rfl).trans e23
     replace e6 := (hoff 6 rfl).trans e6
     replace e39 := (hoff 39 rfl).trans e39
     replace sz := sz1
     replace df := df1.trans df
     have Zw14 : w.heap.size ≤ w14.heap.size := CH.size
     clear sz1 df1 hoff hvv hRl L14_x2
     refine wpo_step 25 _ rfl rfl (og_plain rfl ?_)
     refine op_store_row 28 _ _ rfl bx7 #[.int .i64 b0, .int .i64 b1, .int .u32 n3, .int .u32 n4, .int .u64 n5, .int .u64 n6, .slice none 0 0, .slice none 0 0, .slice none 0 0, .slice none 0 0] (ev e7) (ev e64) 28 _ H7 (by kernel_rfl) rfl (onel ⟨rfl, rfl, rfl, rfl, rfl, rfl, rfl, rfl, rfl, rfl, trivial⟩) (nbl ⟨rfl, rfl, rfl, rfl, rfl, rfl, rfl, rfl, rfl, rfl, trivial⟩) ?_
     intro w15 H_ hC hK
     change wpOps _ _ _ _ a14 w15
     replace H2 := hC.blk H2 nex2_x7
     replace hv := hv.keep hK
     replace CH := CH.trans hC (fun x hx h => (old_new hx G7 h).elim)
     replace K8 := K8.trans hK
     replace H7 : w15.heap[bx7]? = some (.cells #[.int .i64 b0, .int .i64 b1, .int .u32 n3, .int .u32 n4, .int .u64 n5, .int .u64 n6, .slice none 0 0, .slice none 0 0, .slice none 0 0, .slice none 0 0] 28 (0, 0)) := H_
     clear hC hK
     have Zw15 : w.heap.size ≤ w15.heap.size := CH.size
     refine wpo_all rfl ?_
     refine hKK13 _ _ ?_
     refine wp_seq_k fun KK14 hKK14 => ?_
     refine raR (S := fun _ => False) 105 32 sz (by kernel_rfl) (by decide +kernel) (by decide) (by decide +kernel) [65, 66, 67, 68, 69, 70, 71, 72, 73, 74, 75, 76, 77, 78, 79, 80, 81, 82, 83, 84, 85, 86, 87, 88, 89, 90, 91, 92, 93, 94, 95, 96] [isV (.slice A0 l.length c0), isV (.int .i64 (n : Int)), isV (.int .i64 (28 + (n : Int))), isRow 0 ((l.take (28 + n)).drop 28), isRowsS (fun _ => False) [(l.take (28 + n)).drop 28], isRow w15.heap.size p7, isV (.slice A0 l.length c0), isV (.int .i64 (n : Int)), isV (.int .i64 (28 + (n : Int))), isV (.int .i64 (a5 : Int)), isRow 0 ((l.take a5).drop (28 + n)), isRowsS (fun _ => False) [(l.take a5).drop (28 + n)], isRow w15.heap.size p8, isV (.slice A0 l.length c0), isV (.int .i64 (a5 : Int)), isV (.int .i64 ((a5 : Int) + 2)), isV (.int .i64 (a5 : Int)), isV (.int .i64 ((a5 : Int) + 2)), isV (.int .i64 (m : Int)), isV (.int .i64 ((a5 : Int) + 2 + (m : Int))), isRow 0 ((l.take (a5 + 2 + m)).drop (a5 + 2)), isRowsS (fun _ => False) [(l.take (a5 + 2 + m)).drop (a5 + 2)], isRow w15.heap.size p9, isV (.slice A0 l.length c0), isV (.int .i64 (a5 : Int)), isV (.int .i64 ((a5 : Int) + 2)), isV (.int .i64 (m : Int)), isV (.int .i64 ((a5 : Int) + 2 + (m : Int))), isRow 0 (l.drop (a5 + 2 + m)), isRowsS (fun _ => False) [l.drop (a5 + 2 + m)], isRow w15.heap.size p10, isV (.pointer (some ⟨bx7, 6, none⟩))] rfl (by decide) (by decide) ?_ ?_ ?_
     · exact (sr_cons (sr_V _ _) (sr_cons (sr_V _ _) (sr_cons (sr_V _ _) (sr_cons (sr_Row _ _ _) (sr_cons (sr_Rows _ _) (sr_cons (sr_Row _ _ _) (sr_cons (sr_V _ _) (sr_cons (sr_V _ _) (sr_cons (sr_V _ _) (sr_cons (sr_V _ _) (sr_cons (sr_Row _ _ _) (sr_cons (sr_Rows _ _) (sr_cons (sr_Row _ _ _) (sr_cons (sr_V _ _) (sr_cons (sr_V _ _) (sr_cons (sr_V _ _) (sr_cons (sr_V _ _) (sr_cons (sr_V _ _) (sr_cons (sr_V _ _) (sr_cons (sr_V _ _) (sr_cons (sr_Row _ _ _) (sr_cons (sr_Rows _ _) (sr_cons (sr_Row _ _ _) (sr_cons (sr_V _ _) (sr_cons (sr_V _ _) (sr_cons (sr_V _ _) (sr_cons (sr_V _ _) (sr_cons (sr_V _ _) (sr_cons (sr_Row _ _ _) (sr_cons (sr_Rows _ _) (sr_cons (sr_Row _ _ _) (sr_cons (sr_V _ _) (sr_nil _)))))))))))))))))))))))))))))))))
     ·refine str_cons ?_ (str_cons ?_ (str_cons ?_ (str_cons ?_ (str_cons ?_ (str_cons ?_ (str_cons ?_ (str_cons ?_ (str_cons ?_ (str_cons ?_ (str_cons ?_ (str_cons ?_ (str_cons ?_ (str_cons ?_ (str_cons ?_ (str_cons ?_ (str_cons ?_ (str_cons ?_ (str_cons ?_ (str_cons ?_ (str_cons ?_ (str_cons ?_ (str_cons ?_ (str_cons ?_ (str_cons ?_ (str_cons ?_ (str_cons ?_ (str_cons ?_ (str_cons ?_ (str_cons ?_ (str_cons ?_ (str_cons ?_ str_nil)))))))))))))))))))))))))))))))
      ·refine str rfl rfl rfl rfl rfl fun a w' hM hI hoff hp K hK => ?_
       have e0 : a.tmps[0]? = some (.slice A0 l.length c0) := (hoff 0 rfl).trans e0
       clear hoff hp
       exact ov  (hK _ _ (Rl.refl _ _) trivial rfl)
      ·refine str rfl rfl rfl rfl rfl fun a w' hM hI hoff hp K hK => ?_
       have e4 : a.tmps[4]? = some (.int .i64 (n : Int)) := (hoff 4 rfl).trans e4
       clear hoff hp
       exact ov  (hK _ _ (Rl.refl _ _) trivial rfl)
      ·refine str rfl rfl rfl rfl rfl fun a w' hM hI hoff hp K hK => ?_
       obtain ⟨_, e66, rfl⟩ := hp 1 rfl 66 _ rfl rfl
       clear hoff hp
       have hw1 := i64wrap (n := 28 + (n : Int)) (by omega) (by omega)
       exact ov  (hK _ _ (Rl.refl _ _) trivial rfl)
      ·refine str rfl rfl rfl rfl rfl fun a w' hM hI hoff hp K hK => ?_
       obtain ⟨_, e65, rfl⟩ := hp 0 rfl 65 _ rfl rfl
       obtain ⟨_, e67, rfl⟩ := hp 2 rfl 67 _ rfl rfl
       clear hoff hp
       obtain ⟨v', hrun, hR⟩ := row_mid (P := Try.prog) (hv.keep hM.keep) 26 5 Try.underlying26 size5 28 (28 + (n : Int)) (by omega) (by omega) (by omega)
       have hsl := hrun w'
       exact ov (v := v')  (hK _ _ (Rl.refl _ _) trivial hR)
      ·refine str rfl rfl rfl rfl rfl fun a w' hM hI hoff hp K hK => ?_
       obtain ⟨v68, e68, h68⟩ := hp 3 rfl 68 _ rfl rfl
       clear hoff hp
       have k68 := h68.lower (Nat.zero_le _)
       obtain ⟨X68, y68, rfl, _, _, _⟩ := h68
       refine ov (v := .slice (some ⟨w'.heap.size, 0, none⟩) 1 1) (w' := w'.alloc (.cells #[.slice X68 ((l.take (28 + n)).drop 28).length y68] 26))  (hK _ _ (Rl.alloc _ _ _) trivial ?_)
       exact isRowsS.of (RowsB.lit (l := [(l.take (28 + n)).drop 28]) (vs := #[.slice X68 ((l.take (28 + n)).drop 28).length y68]) (RowL.cons k68 (RowL.nil _)) (by simp)) (fun h => h) (by rw [World.size_alloc]; omega)
      ·refine str rfl rfl rfl rfl rfl fun a w' hM hI hoff hp K hK => ?_
       obtain ⟨v69, e69, h69⟩ := hp 4 rfl 69 _ rfl rfl
       clear hoff hp
       have h_ := refJoin_calls _ (by simp) (by simp; omega) _ _ h69.rows
       rw [show [(l.take (28 + n)).drop 28].flatten = p7 from by simp [qf7.out]] at h_
       refine op_call Try.func20 (by kernel_rfl) rfl #[v69] rfl (by simp [Act.eval, e69]) h_ ?_
       rintro e w1 ⟨u, rfl, hR, hb⟩
       exact ⟨u, rfl, hK _ _ (Rl.of_below hb) trivial (hR.lower hM.keep.size)⟩
      ·refine str rfl rfl rfl rfl rfl fun a w' hM hI hoff hp K hK => ?_
       have e0 : a.tmps[0]? = some (.slice A0 l.length c0) := (hoff 0 rfl).trans e0
       clear hoff hp
       exact ov  (hK _ _ (Rl.refl _ _) trivial rfl)
      ·refine str rfl rfl rfl rfl rfl fun a w' hM hI hoff hp K hK => ?_
       have e4 : a.tmps[4]? = some (.int .i64 (n : Int)) := (hoff 4 rfl).trans e4
       clear hoff hp
       exact ov  (hK _ _ (Rl.refl _ _) trivial rfl)
      ·refine str rfl rfl rfl rfl rfl fun a w' hM hI hoff hp K hK => ?_
       obtain ⟨_, e72, rfl⟩ := hp 7 rfl 72 _ rfl rfl
       clear hoff hp
       have hw1 := i64wrap (n := 28 + (n : Int)) (by omega) (by omega)
       exact ov  (hK _ _ (Rl.refl _ _) trivial rfl)
      ·refine str rfl rfl rfl rfl rfl fun a w' hM hI hoff hp K hK => ?_
       have e5 : a.tmps[5]? = some (.int .i64 (a5 : Int)) := (hoff 5 rfl).trans e5
       clear hoff hp
       exact ov  (hK _ _ (Rl.refl _ _) trivial rfl)
      ·refine str rfl rfl rfl rfl rfl fun a w' hM hI hoff hp K hK => ?_
       obtain ⟨_, e71, rfl⟩ := hp 6 rfl 71 _ rfl rfl
       obtain ⟨_, e73, rfl⟩ := hp 8 rfl 73 _ rfl rfl
       obtain ⟨_, e74, rfl⟩ := hp 9 rfl 74 _ rfl rfl
       clear hoff hp
       obtain ⟨v', hrun, hR⟩ := row_mid (P := Try.prog) (hv.keep hM.keep) 26 5 Try.underlying26 size5 (28 + (n : Int)) (a5 : Int) (by omega) (by omega) (by omega)
       have hsl := hrun w'
       exact ov (v := v')  (hK _ _ (Rl.refl _ _) trivial hR)
      ·refine str rfl rfl rfl rfl rfl fun a w' hM hI hoff hp K hK => ?_
       obtain ⟨v75, e75, h75⟩ := hp 10 rfl 75 _ rfl rfl
       clear hoff hp
       have k75 := h75.lower (Nat.zero_le _)
       obtain ⟨X75, y75, rfl, _, _, _⟩ := h75
       refine ov (v := .slice (some ⟨w'.heap.size, 0, none⟩) 1 1) (w' := w'.alloc (.cells #[.slice X75 ((l.take a5).drop (28 + n)).length y75] 26))  (hK _ _ (Rl.alloc _ _ _) trivial ?_)
       exact isRowsS.of (RowsB.lit (l := [(l.take a5).drop (28 + n)]) (vs := #[.slice X75 ((l.take a5).drop (28 + n)).length y75]) (RowL.cons k75 (RowL.nil _)) (by simp)) (fun h => h) (by rw [World.size_alloc]; omega)
      ·refine str rfl rfl rfl rfl rfl fun a w' hM hI hoff hp K hK => ?_
       obtain ⟨v76, e76, h76⟩ := hp 11 rfl 76 _ rfl rfl
       clear hoff hp
       have h_ := refJoin_calls _ (by simp) (by simp; omega) _ _ h76.rows
       rw [show [(l.take a5).drop (28 + n)].flatten = p8 from by simp [qf8.out]] at h_
       refine op_call Try.func20 (by kernel_rfl) rfl #[v76] rfl (by simp [Act.eval, e76]) h_ ?_
       rintro e w1 ⟨u, rfl, hR, hb⟩
       exact ⟨u, rfl, hK _ _ (Rl.of_below hb) trivial (hR.lower hM.keep.size)⟩
      ·refine str rfl rfl rfl rfl rfl fun a w' hM hI hoff hp K hK => ?_
       have e0 : a.tmps[0]? = some (.slice A0 l.length c0) := (hoff 0 rfl).trans e0
       clear hoff hp
       exact ov  (hK _ _ (Rl.refl _ _) trivial rfl)
      ·refine str rfl rfl rfl rfl rfl fun a w' hM hI hoff hp K hK => ?_
       have e5 : a.tmps[5]? = some (.int .i64 (a5 : Int)) := (hoff 5 rfl).trans e5
       clear hoff hp
       exact ov  (hK _ _ (Rl.refl _ _) trivial rfl)
      ·refine str rfl rfl rfl rfl rfl fun a w' hM hI hoff hp K hK => ?_
       obtain ⟨_, e79, rfl⟩ := hp 14 rfl 79 _ rfl rfl
       clear hoff hp
       have hw1 := i64wrap (n := (a5 : Int) + 2) (by omega) (by omega)
       exact ov  (hK _ _ (Rl.refl _ _) trivial rfl)
      ·refine str rfl rfl rfl rfl rfl fun a w' hM hI hoff hp K hK => ?_
       have e5 : a.tmps[5]? = some (.int .i64 (a5 : Int)) := (hoff 5 rfl).trans e5
       clear hoff hp
       exact ov  (hK _ _ (Rl.refl _ _) trivial rfl)
      ·refine str rfl rfl rfl rfl rfl fun a w' hM hI hoff hp K hK => ?_
       obtain ⟨_, e81, rfl⟩ := hp 16 rfl 81 _ rfl rfl
       clear hoff hp
       have hw1 := i64wrap (n := (a5 : Int) + 2) (by omega) (by omega)
       exact ov  (hK _ _ (Rl.refl _ _) trivial rfl)
      ·refine str rfl rfl rfl rfl rfl fun a w' hM hI hoff hp K hK => ?_
       have e6 : a.tmps[6]? = some (.int .i64 (m : Int)) := (hoff 6 rfl).trans e6
       clear hoff hp
       exact ov  (hK _ _ (Rl.refl _ _) trivial rfl)
      ·refine str rfl rfl rfl rfl rfl fun a w' hM hI hoff hp K hK => ?_
       obtain ⟨_, e82, rfl⟩ := hp 17 rfl 82 _ rfl rfl
       obtain ⟨_, e83, rfl⟩ := hp 18 rfl 83 _ rfl rfl
       clear hoff hp
       have hw1 := i64wrap (n := ((a5 : Int) + 2) + (m : Int)) (by omega) (by omega)
       exact ov  (hK _ _ (Rl.refl _ _) trivial rfl)
      ·refine str rfl rfl rfl rfl rfl fun a w' hM hI hoff hp K hK => ?_
       obtain ⟨_, e78, rfl⟩ := hp 13 rfl 78 _ rfl rfl
       obtain ⟨_, e80, rfl⟩ := hp 15 rfl 80 _ rfl rfl
       obtain ⟨_, e84, rfl⟩ := hp 19 rfl 84 _ rfl rfl
       clear hoff hp
       obtain ⟨v', hrun, hR⟩ := row_mid (P := Try.prog) (hv.keep hM.keep) 26 5 Try.underlying26 size5 ((a5 : Int) + 2) ((a5 : Int) + 2 + (m : Int)) (by omega) (by omega) (by omega)
       have hsl := hrun w'
       exact ov (v := v')  (hK _ _ (Rl.refl _ _) trivial hR)
      ·refine str rfl rfl rfl rfl rfl fun a w' hM hI hoff hp K hK => ?_
       obtain ⟨v85, e85, h85⟩ := hp 20 rfl 85 _ rfl rfl
       clear hoff hp
       have k85 := h85.lower (Nat.zero_le _)
       obtain ⟨X85, y85, rfl, _, _, _⟩ := h85
       refine ov (v := .slice (some ⟨w'.heap.size, 0, none⟩) 1 1) (w' := w'.alloc (.cells #[.slice X85 ((l.take (a5 + 2 + m)).drop (a5 + 2)).length y85] 26))  (hK _ _ (Rl.alloc _ _ _) trivial ?_)
       exact isRowsS.of (RowsB.lit (l := [(l.take (a5 + 2 + m)).drop (a5 + 2)]) (vs := #[.slice X85 ((l.take (a5 + 2 + m)).drop (a5 + 2)).length y85]) (RowL.cons k85 (RowL.nil _)) (by simp)) (fun h => h) (by rw [World.size_alloc]; omega)
      ·refine str rfl rfl rfl rfl rfl fun a w' hM hI hoff hp K hK => ?_
       obtain ⟨v86, e86, h86⟩ := hp 21 rfl 86 _ rfl rfl
       clear hoff hp
       have h_ := refJoin_calls _ (by simp) (by simp; omega) _ _ h86.rows
       rw [show [(l.take (a5 + 2 + m)).drop (a5 + 2)].flatten = p9 from by simp [qf9.out]] at h_
       refine op_call Try.func20 (by kernel_rfl) rfl #[v86] rfl (by simp [Act.eval, e86]) h_ ?_
       rintro e w1 ⟨u, rfl, hR, hb⟩
       exact ⟨u, rfl, hK _ _ (Rl.of_below hb) trivial (hR.lower hM.keep.size)⟩
      ·refine str rfl rfl rfl rfl rfl fun a w' hM hI hoff hp K hK => ?_
       have e0 : a.tmps[0]? = some (.slice A0 l.length c0) := (hoff 0 rfl).trans e0
       clear hoff hp
       exact ov  (hK _ _ (Rl.refl _ _) trivial rfl)
      ·refine str rfl rfl rfl rfl rfl fun a w' hM hI hoff hp K hK => ?_
       have e5 : a.tmps[5]? = some (.int .i64 (a5 : Int)) := (hoff 5 rfl).trans e5
       clear hoff hp
       exact ov  (hK _ _ (Rl.refl _ _) trivial rfl)
      ·refine str rfl rfl rfl rfl rfl fun a w' hM hI hoff hp K hK => ?_
       obtain ⟨_, e89, rfl⟩ := hp 24 rfl 89 _ rfl rfl
       clear hoff hp
       have hw1 := i64wrap (n := (a5 : Int) + 2) (by omega) (by omega)
       exact ov  (hK _ _ (Rl.refl _ _) trivial rfl)
      ·refine str rfl rfl rfl rfl rfl fun a w' hM hI hoff hp K hK => ?_
       have e6 : a.tmps[6]? = some (.int .i64 (m : Int)) := (hoff 6 rfl).trans e6
       clear hoff hp
       exact ov  (hK _ _ (Rl.refl _ _) trivial rfl)
      ·refine str rfl rfl rfl rfl rfl fun a w' hM hI hoff hp K hK => ?_
       obtain ⟨_, e90, rfl⟩ := hp 25 rfl 90 _ rfl rfl
       obtain ⟨_, e91, rfl⟩ := hp 26 rfl 91 _ rfl rfl
       clear hoff hp
       have hw1 := i64wrap (n := ((a5 : Int) + 2) + (m : Int)) (by omega) (by omega)
       exact ov  (hK _ _ (Rl.refl _ _) trivial rfl)
      ·refine str rfl rfl rfl rfl rfl fun a w' hM hI hoff hp K hK => ?_
       obtain ⟨_, e88, rfl⟩ := hp 23 rfl 88 _ rfl rfl
       obtain ⟨_, e92, rfl⟩ := hp 27 rfl 92 _ rfl rfl
       clear hoff hp
       obtain ⟨v', hrun, hR⟩ := row_drop (P := Try.prog) (hv.keep hM.keep) 26 5 Try.underlying26 size5 ((a5 : Int) + 2 + (m : Int)) (by omega) (by omega)
       have hsl := hrun w'
       exact ov (v := v')  (hK _ _ (Rl.refl _ _) trivial hR)
      ·refine str rfl rfl rfl rfl rfl fun a w' hM hI hoff hp K hK => ?_
       obtain ⟨v93, e93, h93⟩ := hp 28 rfl 93 _ rfl rfl
       clear hoff hp
       have k93 := h93.lower (Nat.zero_le _)
       obtain ⟨X93, y93, rfl, _, _, _⟩ := h93
       refine ov (v := .slice (some ⟨w'.heap.size, 0, none⟩) 1 1) (w' := w'.alloc (.cells #[.slice X93 (l.drop (a5 + 2 + m)).length y93] 26))  (hK _ _ (Rl.alloc _ _ _) trivial ?_)
       exact isRowsS.of (RowsB.lit (l := [l.drop (a5 + 2 + m)]) (vs := #[.slice X93 (l.drop (a5 + 2 + m)).length y93]) (RowL.cons k93 (RowL.nil _)) (by simp)) (fun h => h) (by rw [World.size_alloc]; omega)
      ·refine str rfl rfl rfl rfl rfl fun a w' hM hI hoff hp K hK => ?_
       obtain ⟨v94, e94, h94⟩ := hp 29 rfl 94 _ rfl rfl
       clear hoff hp
       have h_ := refJoin_calls _ (by simp) (by simp; omega) _ _ h94.rows
       rw [show [l.drop (a5 + 2 + m)].flatten = p10 from by simp [qf10.out]] at h_
       refine op_call Try.func20 (by kernel_rfl) rfl #[v94] rfl (by simp [Act.eval, e94]) h_ ?_
       rintro e w1 ⟨u, rfl, hR, hb⟩
       exact ⟨u, rfl, hK _ _ (Rl.of_below hb) trivial (hR.lower hM.keep.size)⟩
      ·refine str rfl rfl rfl rfl rfl fun a w' hM hI hoff hp K hK => ?_
       have e7 : a.tmps[7]? = some (.pointer (some ⟨bx7, 0, none⟩)) := (hoff 7 rfl).trans e7
       clear hoff hp
       have hu := Try.underlying28
       exact ov  (hK _ _ (Rl.refl _ _) trivial rfl)
     intro a16 w16 sz1 df1 hoff hvv hRl
     replace H2 := hRl.chg.blk H2 (fun h => h.elim)
     replace H7 := hRl.chg.blk H7 (fun h => h.elim)
     replace hv := hv.keep hRl.keep
     replace CH := CH.trans hRl.chg (fun _ _ h => h.elim)
     replace K8 := K8.trans hRl.keep
     obtain ⟨u70_16, e70, Kr70⟩ := hvv 5 _ _ rfl rfl
     replace Kr70 : Row w15.heap.size w16 u70_16 p7 := Kr70
     obtain ⟨u77_16, e77, Kr77⟩ := hvv 12 _ _ rfl rfl
     replace Kr77 : Row w15.heap.size w16 u77_16 p8 := Kr77
     obtain ⟨u87_16, e87, Kr87⟩ := hvv 22 _ _ rfl rfl
     replace Kr87 : Row w15.heap.size w16 u87_16 p9 := Kr87
     obtain ⟨u95_16, e95, Kr95⟩ := hvv 30 _ _ rfl rfl
     replace Kr95 : Row w15.heap.size w16 u95_16 p10 := Kr95
     obtain ⟨_, e96, rfl⟩ := hvv 31 _ _ rfl rfl
     replace e0 := (hoff 0 rfl).trans e0
     replace e2 := (hoff 2 rfl).trans e2
     replace e3 := (hoff 3 rfl).trans e3
     replace e10 := (hoff 10 rfl).trans e10
     replace e4 := (hoff 4 rfl).trans e4
     replace e5 := (hoff 5 rfl).trans e5
     replace e23 := (hoff 23 rfl).trans e23
     replace e6 := (hoff 6 rfl).trans e6
     replace e39 := (hoff 39 rfl).trans e39
     replace e64 := (hoff 64 rfl).trans e64
     replace e7 := (hoff 7 rfl).trans e7
     replace sz := sz1
     replace df := df1.trans df
     have Zw16 : w.heap.size ≤ w16.heap.size := CH.size
     clear sz1 df1 hoff hvv hRl
     refine wpo_step 32 _ rfl rfl (og_plain rfl ?_)
     refine op_store_cell 26 _ _ rfl bx7 6 (u70_16) (ev e96) (ev e70) 28 _ H7 (by kernel_rfl) (by simp) (row_one Kr70) (nbl ⟨rfl, rfl, rfl, rfl, rfl, rfl, rfl, rfl, rfl, rfl, trivial⟩) ?_
     intro w17 H_ hC hK
     change wpOps _ _ _ _ a16 w17
     replace H2 := hC.blk H2 nex2_x7
     replace hv := hv.keep hK
     replace Kr70 := Kr70.keep hK
     replace Kr77 := Kr77.keep hK
     replace Kr87 := Kr87.keep hK
     replace Kr95 := Kr95.keep hK
     replace CH := CH.trans hC (fun x hx h => (old_new hx G7 h).elim)
     replace K8 := K8.trans hK
     replace H7 : w17.heap[bx7]? = some (.cells #[.int .i64 b0, .int .i64 b1, .int .u32 n3, .int .u32 n4, .int .u64 n5, .int .u64 n6, u70_16, .slice none 0 0, .slice none 0 0, .slice none 0 0] 28 (0, 0)) := H_
     clear hC hK
     have Zw17 : w.heap.size ≤ w17.heap.size := CH.size
     refine wpo_step 33 _ rfl rfl (og_plain rfl ?_)
     have hu := Try.underlying28
     refine ov (v := .pointer (some ⟨bx7, 7, none⟩))  ?_
     refine abs_put (K := fun x => wpOps _ _ _ _ x _) (t := 97) sz (by decide) fun a18 sz1 df1 e_new hoff => ?_
     replace e0 := (hoff 0 rfl).trans e0
     replace e2 := (hoff 2 rfl).trans e2
     replace e3 := (hoff 3 rfl).trans e3
     replace e10 := (hoff 10 rfl).trans e10
     replace e4 := (hoff 4 rfl).trans e4
     replace e5 := (hoff 5 rfl).trans e5
     replace e23 := (hoff 23 rfl).trans e23
     replace e6 := (hoff 6 rfl).trans e6
     replace e39 := (hoff 39 rfl).trans e39
     replace e64 := (hoff 64 rfl).trans e64
     replace e7 := (hoff 7 rfl).trans e7
     replace e70 := (hoff 70 rfl).trans e70
     replace e77 := (hoff 77 rfl).trans e77
     replace e87 := (hoff 87 rfl).trans e87
     replace e95 := (hoff 95 rfl).trans e95
     replace e96 := (hoff 96 rfl).trans e96
     have e97 := e_new
     replace sz := sz1
     replace df := df1.trans df
     clear sz1 df1 hoff e_new
     refine wpo_step 34 _ rfl rfl (og_plain rfl ?_)
     refine op_store_cell 26 _ _ rfl bx7 7 (u77_16) (ev e97) (ev e77) 28 _ H7 (by kernel_rfl) (by simp) (row_one Kr77) (nbl ⟨rfl, rfl, rfl, rfl, rfl, rfl, row_nb Kr70, rfl, rfl, rfl, trivial⟩) ?_
     intro w19 H_ hC hK
     change wpOps _ _ _ _ a18 w19
     replace H2 := hC.blk H2 nex2_x7
     replace hv := hv.keep hK
     replace Kr70 := Kr70.keep hK
     replace Kr77 := Kr77.keep hK
     replace Kr87 := Kr87.keep hK
     replace Kr95 := Kr95.keep hK
     replace CH := CH.trans hC (fun x hx h => (old_new hx G7 h).elim)
     replace K8 := K8.trans hK
     replace H7 : w19.heap[bx7]? = some (.cells #[.int .i64 b0, .int .i64 b1, .int .u32 n3, .int .u32 n4, .int .u64 n5, .int .u64 n6, u70_16, u77_16, .slice none 0 0, .slice none 0 0] 28 (0, 0)) := H_
     clear hC hK
     have Zw19 : w.heap.size ≤ w19.heap.size := CH.size
     refine wpo_step 35 _ rfl rfl (og_plain rfl ?_)
     have hu := Try.underlying28
     refine ov (v := .pointer (some ⟨bx7, 8, none⟩))  ?_
     refine abs_put (K := fun x => wpOps _ _ _ _ x _) (t := 98) sz (by decide) fun a20 sz1 df1 e_new hoff => ?_
     replace e0 := (hoff 0 rfl).trans e0
     replace e2 := (hoff 2 rfl).trans e2
     replace e3 := (hoff 3 rfl).trans e3
     replace e10 := (hoff 10 rfl).trans e10
     replace e4 := (hoff 4 rfl).trans e4
     replace e5 := (hoff 5 rfl).trans e5
     replace e23 := (hoff 23 rfl).trans e23
     replace e6 := (hoff 6 rfl).trans e6
     replace e39 := (hoff 39 rfl).trans e39
     replace e64 := (hoff 64 rfl).trans e64
     replace e7 := (hoff 7 rfl).trans e7
     replace e70 := (hoff 70 rfl).trans e70
     replace e77 := (hoff 77 rfl).trans e77
     replace e87 := (hoff 87 rfl).trans e87
     replace e95 := (hoff 95 rfl).trans e95
     replace e96 := (hoff 96 rfl).trans e96
     replace e97 := (hoff 97 rfl).trans e97
     have e98 := e_new
     replace sz := sz1
     replace df := df1.trans df
     clear sz1 df1 hoff e_new
     refine wpo_step 36 _ rfl rfl (og_plain rfl ?_)
     refine op_store_cell 26 _ _ rfl bx7 8 (u87_16) (ev e98) (ev e87) 28 _ H7 (by kernel_rfl) (by simp) (row_one Kr87) (nbl ⟨rfl, rfl, rfl, rfl, rfl, rfl, row_nb Kr70, row_nb Kr77, rfl, rfl, trivial⟩) ?_
     intro w21 H_ hC hK
     change wpOps _ _ _ _ a20 w21
     replace H2 := hC.blk H2 nex2_x7
     replace hv := hv.keep hK
     replace Kr70 := Kr70.keep hK
     replace Kr77 := Kr77.keep hK
     replace Kr87 := Kr87.keep hK
     replace Kr95 := Kr95.keep hK
     replace CH := CH.trans hC (fun x hx h => (old_new hx G7 h).elim)
     replace K8 := K8.trans hK
     replace H7 : w21.heap[bx7]? = some (.cells #[.int .i64 b0, .int .i64 b1, .int .u32 n3, .int .u32 n4, .int .u64 n5, .int .u64 n6, u70_16, u77_16, u87_16, .slice none 0 0] 28 (0, 0)) := H_
     clear hC hK
     have Zw21 : w.heap.size ≤ w21.heap.size := CH.size
     refine wpo_step 37 _ rfl rfl (og_plain rfl ?_)
     have hu := Try.underlying28
     refine ov (v := .pointer (some ⟨bx7, 9, none⟩))  ?_
     refine abs_put (K := fun x => wpOps _ _ _ _ x _) (t := 99) sz (by decide) fun a22 sz1 df1 e_new hoff => ?_
     replace e0 := (hoff 0 rfl).trans e0
     replace e2 := (hoff 2 rfl).trans e2
     replace e3 := (hoff 3 rfl).trans e3
     replace e10 := (hoff 10 rfl).trans e10
     replace e4 := (hoff 4 rfl).trans e4
     replace e5 := (hoff 5 rfl).trans e5
     replace e23 := (hoff 23 rfl).trans e23
     replace e6 := (hoff 6 rfl).trans e6
     replace e39 := (hoff 39 rfl).trans e39
     replace e64 := (hoff 64 rfl).trans e64
     replace e7 := (hoff 7 rfl).trans e7
     replace e70 := (hoff 70 rfl).trans e70
     replace e77 := (hoff 77 rfl).trans e77
     replace e87 := (hoff 87 rfl).trans e87
     replace e95 := (hoff 95 rfl).trans e95
     replace e96 := (hoff 96 rfl).trans e96
     replace e97 := (hoff 97 rfl).trans e97
     replace e98 := (hoff 98 rfl).trans e98
     have e99 := e_new
     replace sz := sz1
     replace df := df1.trans df
     clear sz1 df1 hoff e_new
     refine wpo_step 38 _ rfl rfl (og_plain rfl ?_)
     refine op_store_cell 26 _ _ rfl bx7 9 (u95_16) (ev e99) (ev e95) 28 _ H7 (by kernel_rfl) (by simp) (row_one Kr95) (nbl ⟨rfl, rfl, rfl, rfl, rfl, rfl, row_nb Kr70, row_nb Kr77, row_nb Kr87, rfl, trivial⟩) ?_
     intro w23 H_ hC hK
     change wpOps _ _ _ _ a22 w23
     replace H2 := hC.blk H2 nex2_x7
     replace hv := hv.keep hK
     replace Kr70 := Kr70.keep hK
     replace Kr77 := Kr77.keep hK
     replace Kr87 := Kr87.keep hK
     replace Kr95 := Kr95.keep hK
     replace CH := CH.trans hC (fun x hx h => (old_new hx G7 h).elim)
     replace K8 := K8.trans hK
     replace H7 : w23.heap[bx7]? = some (.cells #[.int .i64 b0, .int .i64 b1, .int .u32 n3, .int .u32 n4, .int .u64 n5, .int .u64 n6, u70_16, u77_16, u87_16, u95_16] 28 (0, 0)) := H_
     clear hC hK
     have Zw23 : w.heap.size ≤ w23.heap.size := CH.size
     refine wpo_all rfl ?_
     refine hKK14 _ _ ?_
     refine wp_seq_k fun KK15 hKK15 => ?_
     refine wp_seq_k fun KK16 hKK16 => ?_
     by_cases hm : Cp.May ⟨b0, b1, n3, n4, n5, n6, p7, p8, p9, p10⟩
     ·skip
      refine raI (S := fun _ => False) 105 3 sz [100, 101, 102] [isV (.agg #[.int .i64 b0, .int .i64 b1, .int .u32 n3, .int .u32 n4, .int .u64 n5, .int .u64 n6, u70_16, u77_16, u87_16, u95_16]), isV (.bool true), isV (.bool false)] [Tr, Tr, Tr, Tr] rfl (by decide) (by decide) (by decide) ?_ ?_ ?_ ?_
      · intro J hJ; cases hJ; exact trivial
      · exact (sr_cons (sr_V _ _) (sr_cons (sr_V _ _) (sr_cons (sr_V _ _) (sr_nil _))))
      ·refine sti_cons ?_ (sti_cons ?_ (sti_cons ?_ sti_nil))
       ·refine sti rfl rfl rfl rfl rfl rfl rfl fun a w' hM hI hoff hp K hK => ?_
        have e7 : a.tmps[7]? = some (.pointer (some ⟨bx7, 0, none⟩)) := (hoff 7 rfl).trans e7
        clear hoff hp
        have d0 : w'.cell? ⟨bx7, 0, none⟩ = some (.int .i64 b0) := (blk_cell (hM.chg.blk H7 (fun h => h)) 0).trans rfl
        have d1 : w'.cell? ⟨bx7, 1, none⟩ = some (.int .i64 b1) := (blk_cell (hM.chg.blk H7 (fun h => h)) 1).trans rfl
        have d2 : w'.cell? ⟨bx7, 2, none⟩ = some (.int .u32 n3) := (blk_cell (hM.chg.blk H7 (fun h => h)) 2).trans rfl
        have d3 : w'.cell? ⟨bx7, 3, none⟩ = some (.int .u32 n4) := (blk_cell (hM.chg.blk H7 (fun h => h)) 3).trans rfl
        have d4 : w'.cell? ⟨bx7, 4, none⟩ = some (.int .u64 n5) := (blk_cell (hM.chg.blk H7 (fun h => h)) 4).trans rfl
        have d5 : w'.cell? ⟨bx7, 5, none⟩ = some (.int .u64 n6) := (blk_cell (hM.chg.blk H7 (fun h => h)) 5).trans rfl
        have d6 : w'.cell? ⟨bx7, 6, none⟩ = some (u70_16) := (blk_cell (hM.chg.blk H7 (fun h => h)) 6).trans rfl
        have d7 : w'.cell? ⟨bx7, 7, none⟩ = some (u77_16) := (blk_cell (hM.chg.blk H7 (fun h => h)) 7).trans rfl
        have d8 : w'.cell? ⟨bx7, 8, none⟩ = some (u87_16) := (blk_cell (hM.chg.blk H7 (fun h => h)) 8).trans rfl
        have d9 : w'.cell? ⟨bx7, 9, none⟩ = some (u95_16) := (blk_cell (hM.chg.blk H7 (fun h => h)) 9).trans rfl
        have hu := Try.underlying28
        have hv_25 := Try.underlying25
        exact ov  (hK _ _ (Rl.refl _ _) trivial rfl)
       ·refine sti rfl rfl rfl rfl rfl rfl rfl fun a w' hM hI hoff hp K hK => ?_
        obtain ⟨_, e100, rfl⟩ := hp 0 rfl 100 _ rfl rfl
        clear hoff hp
        refine op_call Try.func9 (by kernel_rfl) rfl #[.agg #[.int .i64 b0, .int .i64 b1, .int .u32 n3, .int .u32 n4, .int .u64 n5, .int .u64 n6, u70_16, u77_16, u87_16, u95_16]] rfl (by simp [Act.eval, e100]) (refMay_calls ⟨b0, b1, n3, n4, n5, n6, p7, p8, p9, p10⟩ _ (decide_eq_true hm) _ _ ⟨_, _, _, _, rfl, (Kr70.keep hM.keep).lower (Nat.zero_le _), (Kr77.keep hM.keep).lower (Nat.zero_le _), (Kr87.keep hM.keep).lower (Nat.zero_le _), (Kr95.keep hM.keep).lower (Nat.zero_le _)⟩) ?_
        rintro e w1 ⟨u, rfl, hR, hb⟩
        exact ⟨u, rfl, hK _ _ (Rl.of_below hb) trivial hR⟩
       ·refine sti rfl rfl rfl rfl rfl rfl rfl fun a w' hM hI hoff hp K hK => ?_
        obtain ⟨_, e101, rfl⟩ := hp 1 rfl 101 _ rfl rfl
        clear hoff hp
        exact ov  (hK _ _ (Rl.refl _ _) trivial rfl)
      intro a24 w24 sz1 df1 hoff hvv hRl hJ
      replace H2 := hRl.chg.blk H2 (fun h => h.elim)
      replace H7 := hRl.chg.blk H7 (fun h => h.elim)
      replace hv := hv.keep hRl.keep
      replace Kr70 := Kr70.keep hRl.keep
      replace Kr77 := Kr77.keep hRl.keep
      replace Kr87 := Kr87.keep hRl.keep
      replace Kr95 := Kr95.keep hRl.keep
      replace CH := CH.trans hRl.chg (fun _ _ h => h.elim)
      replace K8 := K8.trans hRl.keep
      obtain ⟨_, e102, rfl⟩ := hvv 2 _ _ rfl rfl
      replace e0 := (hoff 0 rfl).trans e0
      replace e2 := (hoff 2 rfl).trans e2
      replace e3 := (hoff 3 rfl).trans e3
      replace e10 := (hoff 10 rfl).trans e10
      replace e4 := (hoff 4 rfl).trans e4
      replace e5 := (hoff 5 rfl).trans e5
      replace e23 := (hoff 23 rfl).trans e23
      replace e6 := (hoff 6 rfl).trans e6
      replace e39 := (hoff 39 rfl).trans e39
      replace e64 := (hoff 64 rfl).trans e64
      replace e7 := (hoff 7 rfl).trans e7
      replace e70 := (hoff 70 rfl).trans e70
      replace e77 := (hoff 77 rfl).trans e77
      replace e87 := (hoff 87 rfl).trans e87
      replace e95 := (hoff 95 rfl).trans e95
      replace e96 := (hoff 96 rfl).trans e96
      replace e97 := (hoff 97 rfl).trans e97
      replace e98 := (hoff 98 rfl).trans e98
      replace e99 := (hoff 99 rfl).trans e99
      replace sz := sz1
      replace df := df1.trans df
      have Zw24 : w.heap.size ≤ w24.heap.size := CH.size
      clear sz1 df1 hoff hvv hRl hJ
      refine wpo_all rfl ?_
      refine hKK16 _ _ ?_
      refine wp_cond_false (ev e102) ?_
      refine wp_skip ?_
      refine hKK15 _ _ ?_
      refine wp_seq_k fun KK17 hKK17 => ?_
      refine raI (S := fun _ => False) 105 1 sz [104] [isV (.agg #[.int .i64 b0, .int .i64 b1, .int .u32 n3, .int .u32 n4, .int .u64 n5, .int .u64 n6, u70_16, u77_16, u87_16, u95_16])] [Tr, Tr] rfl (by decide) (by decide) (by decide) ?_ ?_ ?_ ?_
      · intro J hJ; cases hJ; exact trivial
      · exact (sr_cons (sr_V _ _) (sr_nil _))
      ·refine sti_cons ?_ sti_nil
       ·refine sti rfl rfl rfl rfl rfl rfl rfl fun a w' hM hI hoff hp K hK => ?_
        have e7 : a.tmps[7]? = some (.pointer (some ⟨bx7, 0, none⟩)) := (hoff 7 rfl).trans e7
        clear hoff hp
        have d0 : w'.cell? ⟨bx7, 0, none⟩ = some (.int .i64 b0) := (blk_cell (hM.chg.blk H7 (fun h => h)) 0).trans rfl
        have d1 : w'.cell? ⟨bx7, 1, none⟩ = some (.int .i64 b1) := (blk_cell (hM.chg.blk H7 (fun h => h)) 1).trans rfl
        have d2 : w'.cell? ⟨bx7, 2, none⟩ = some (.int .u32 n3) := (blk_cell (hM.chg.blk H7 (fun h => h)) 2).trans rfl
        have d3 : w'.cell? ⟨bx7, 3, none⟩ = some (.int .u32 n4) := (blk_cell (hM.chg.blk H7 (fun h => h)) 3).trans rfl
        have d4 : w'.cell? ⟨bx7, 4, none⟩ = some (.int .u64 n5) := (blk_cell (hM.chg.blk H7 (fun h => h)) 4).trans rfl
        have d5 : w'.cell? ⟨bx7, 5, none⟩ = some (.int .u64 n6) := (blk_cell (hM.chg.blk H7 (fun h => h)) 5).trans rfl
        have d6 : w'.cell? ⟨bx7, 6, none⟩ = some (u70_16) := (blk_cell (hM.chg.blk H7 (fun h => h)) 6).trans rfl
        have d7 : w'.cell? ⟨bx7, 7, none⟩ = some (u77_16) := (blk_cell (hM.chg.blk H7 (fun h => h)) 7).trans rfl
        have d8 : w'.cell? ⟨bx7, 8, none⟩ = some (u87_16) := (blk_cell (hM.chg.blk H7 (fun h => h)) 8).trans rfl
        have d9 : w'.cell? ⟨bx7, 9, none⟩ = some (u95_16) := (blk_cell (hM.chg.blk H7 (fun h => h)) 9).trans rfl
        have hu := Try.underlying28
        have hv_25 := Try.underlying25
        exact ov  (hK _ _ (Rl.refl _ _) trivial rfl)
      intro a25 w25 sz1 df1 hoff hvv hRl hJ
      replace H2 := hRl.chg.blk H2 (fun h => h.elim)
      replace H7 := hRl.chg.blk H7 (fun h => h.elim)
      replace hv := hv.keep hRl.keep
      replace Kr70 := Kr70.keep hRl.keep
      replace Kr77 := Kr77.keep hRl.keep
      replace Kr87 := Kr87.keep hRl.keep
      replace Kr95 := Kr95.keep hRl.keep
      replace CH := CH.trans hRl.chg (fun _ _ h => h.elim)
      replace K8 := K8.trans hRl.keep
      obtain ⟨_, e104, rfl⟩ := hvv 0 _ _ rfl rfl
      replace e0 := (hoff 0 rfl).trans e0
      replace e2 := (hoff 2 rfl).trans e2
      replace e3 := (hoff 3 rfl).trans e3
      replace e10 := (hoff 10 rfl).trans e10
      replace e4 := (hoff 4 rfl).trans e4
      replace e5 := (hoff 5 rfl).trans e5
      replace e23 := (hoff 23 rfl).trans e23
      replace e6 := (hoff 6 rfl).trans e6
      replace e39 := (hoff 39 rfl).trans e39
      replace e64 := (hoff 64 rfl).trans e64
      replace e7 := (hoff 7 rfl).trans e7
      replace e70 := (hoff 70 rfl).trans e70
      replace e77 := (hoff 77 rfl).trans e77
      replace e87 := (hoff 87 rfl).trans e87
      replace e95 := (hoff 95 rfl).trans e95
      replace e96 := (hoff 96 rfl).trans e96
      replace e97 := (hoff 97 rfl).trans e97
      replace e98 := (hoff 98 rfl).trans e98
      replace e99 := (hoff 99 rfl).trans e99
      replace e102 := (hoff 102 rfl).trans e102
      replace sz := sz1
      replace df := df1.trans df
      have Zw25 : w.heap.size ≤ w25.heap.size := CH.size
      clear sz1 df1 hoff hvv hRl hJ
      refine wpo_step 1 _ rfl rfl (og_plain rfl ?_)
      refine op_store_row 28 _ _ rfl bx2 #[.int .i64 b0, .int .i64 b1, .int .u32 n3, .int .u32 n4, .int .u64 n5, .int .u64 n6, u70_16, u77_16, u87_16, u95_16] (ev e2) (ev e104) 28 _ H2 (by kernel_rfl) rfl (onel ⟨rfl, rfl, rfl, rfl, rfl, rfl, row_one Kr70, row_one Kr77, row_one Kr87, row_one Kr95, trivial⟩) (nbl ⟨rfl, rfl, rfl, rfl, rfl, rfl, rfl, rfl, rfl, rfl, trivial⟩) ?_
      intro w26 H_ hC hK
      change wpOps _ _ _ _ a25 w26
      replace H7 := hC.blk H7 nex7_x2
      replace hv := hv.keep hK
      replace Kr70 := Kr70.keep hK
      replace Kr77 := Kr77.keep hK
      replace Kr87 := Kr87.keep hK
      replace Kr95 := Kr95.keep hK
      replace CH := CH.trans hC (fun x hx h => (old_new hx G2 h).elim)
      replace K8 := K8.trans hK
      replace H2 : w26.heap[bx2]? = some (.cells #[.int .i64 b0, .int .i64 b1, .int .u32 n3, .int .u32 n4, .int .u64 n5, .int .u64 n6, u70_16, u77_16, u87_16, u95_16] 28 (0, 0)) := H_
      clear hC hK
      have Zw26 : w.heap.size ≤ w26.heap.size := CH.size
      refine wpo_step 2 _ rfl rfl (og_plain rfl ?_)
      refine op_assign rfl (v := .int .i64 0) rfl ?_
      refine abs_put (K := fun x => wpOps _ _ _ _ x _) (t := 3) sz (by decide) fun a27 sz1 df1 e_new hoff => ?_
      replace e0 := (hoff 0 rfl).trans e0
      replace e2 := (hoff 2 rfl).trans e2
      replace e10 := (hoff 10 rfl).trans e10
      replace e4 := (hoff 4 rfl).trans e4
      replace e5 := (hoff 5 rfl).trans e5
      replace e23 := (hoff 23 rfl).trans e23
      replace e6 := (hoff 6 rfl).trans e6
      replace e39 := (hoff 39 rfl).trans e39
      replace e64 := (hoff 64 rfl).trans e64
      replace e7 := (hoff 7 rfl).trans e7
      replace e70 := (hoff 70 rfl).trans e70
      replace e77 := (hoff 77 rfl).trans e77
      replace e87 := (hoff 87 rfl).trans e87
      replace e95 := (hoff 95 rfl).trans e95
      replace e96 := (hoff 96 rfl).trans e96
      replace e97 := (hoff 97 rfl).trans e97
      replace e98 := (hoff 98 rfl).trans e98
      replace e99 := (hoff 99 rfl).trans e99
      replace e102 := (hoff 102 rfl).trans e102
      replace e104 := (hoff 104 rfl).trans e104
      have e3 := e_new
      replace sz := sz1
      replace df := df1.trans df
      clear sz1 df1 hoff e_new
      refine wpo_all rfl ?_
      refine hKK17 _ _ ?_
      refine wp_ret ?_
      exact retc rfl df bx2 28 _ _ _ e2 e3 H2 Try.underlying28 rfl (by kernel_rfl) ⟨_, rfl, ⟨_, .inr ⟨fun h => by rcases h with h | h | h | h <;> first | omega | exact h hm, rfl, ⟨_, _, _, _, rfl, (Kr70.lower Zw15), (Kr77.lower Zw15), (Kr87.lower Zw15), (Kr95.lower Zw15)⟩⟩⟩, CH.below (fun _ _ h => h)⟩
     ·skip
      refine raI (S := fun _ => False) 105 3 sz [100, 101, 102] [isV (.agg #[.int .i64 b0, .int .i64 b1, .int .u32 n3, .int .u32 n4, .int .u64 n5, .int .u64 n6, u70_16, u77_16, u87_16, u95_16]), isV (.bool false), isV (.bool true)] [Tr, Tr, Tr, Tr] rfl (by decide) (by decide) (by decide) ?_ ?_ ?_ ?_
      · intro J hJ; cases hJ; exact trivial
      · exact (sr_cons (sr_V _ _) (sr_cons (sr_V _ _) (sr_cons (sr_V _ _) (sr_nil _))))
      ·refine sti_cons ?_ (sti_cons ?_ (sti_cons ?_ sti_nil))
       ·refine sti rfl rfl rfl rfl rfl rfl rfl fun a w' hM hI hoff hp K hK => ?_
        have e7 : a.tmps[7]? = some (.pointer (some ⟨bx7, 0, none⟩)) := (hoff 7 rfl).trans e7
        clear hoff hp
        have d0 : w'.cell? ⟨bx7, 0, none⟩ = some (.int .i64 b0) := (blk_cell (hM.chg.blk H7 (fun h => h)) 0).trans rfl
        have d1 : w'.cell? ⟨bx7, 1, none⟩ = some (.int .i64 b1) := (blk_cell (hM.chg.blk H7 (fun h => h)) 1).trans rfl
        have d2 : w'.cell? ⟨bx7, 2, none⟩ = some (.int .u32 n3) := (blk_cell (hM.chg.blk H7 (fun h => h)) 2).trans rfl
        have d3 : w'.cell? ⟨bx7, 3, none⟩ = some (.int .u32 n4) := (blk_cell (hM.chg.blk H7 (fun h => h)) 3).trans rfl
        have d4 : w'.cell? ⟨bx7, 4, none⟩ = some (.int .u64 n5) := (blk_cell (hM.chg.blk H7 (fun h => h)) 4).trans rfl
        have d5 : w'.cell? ⟨bx7, 5, none⟩ = some (.int .u64 n6) := (blk_cell (hM.chg.blk H7 (fun h => h)) 5).trans rfl
        have d6 : w'.cell? ⟨bx7, 6, none⟩ = some (u70_16) := (blk_cell (hM.chg.blk H7 (fun h => h)) 6).trans rfl
        have d7 : w'.cell? ⟨bx7, 7, none⟩ = some (u77_16) := (blk_cell (hM.chg.blk H7 (fun h => h)) 7).trans rfl
        have d8 : w'.cell? ⟨bx7, 8, none⟩ = some (u87_16) := (blk_cell (hM.chg.blk H7 (fun h => h)) 8).trans rfl
        have d9 : w'.cell? ⟨bx7, 9, none⟩ = some (u95_16) := (blk_cell (hM.chg.blk H7 (fun h => h)) 9).trans rfl
        have hu := Try.underlying28
        have hv_25 := Try.underlying25
        exact ov  (hK _ _ (Rl.refl _ _) trivial rfl)
       ·refine sti rfl rfl rfl rfl rfl rfl rfl fun a w' hM hI hoff hp K hK => ?_
        obtain ⟨_, e100, rfl⟩ := hp 0 rfl 100 _ rfl rfl
        clear hoff hp
        refine op_call Try.func9 (by kernel_rfl) rfl #[.agg #[.int .i64 b0, .int .i64 b1, .int .u32 n3, .int .u32 n4, .int .u64 n5, .int .u64 n6, u70_16, u77_16, u87_16, u95_16]] rfl (by simp [Act.eval, e100]) (refMay_calls ⟨b0, b1, n3, n4, n5, n6, p7, p8, p9, p10⟩ _ (decide_eq_false hm) _ _ ⟨_, _, _, _, rfl, (Kr70.keep hM.keep).lower (Nat.zero_le _), (Kr77.keep hM.keep).lower (Nat.zero_le _), (Kr87.keep hM.keep).lower (Nat.zero_le _), (Kr95.keep hM.keep).lower (Nat.zero_le _)⟩) ?_
        rintro e w1 ⟨u, rfl, hR, hb⟩
        exact ⟨u, rfl, hK _ _ (Rl.of_below hb) trivial hR⟩
       ·refine sti rfl rfl rfl rfl rfl rfl rfl fun a w' hM hI hoff hp K hK => ?_
        obtain ⟨_, e101, rfl⟩ := hp 1 rfl 101 _ rfl rfl
        clear hoff hp
        exact ov  (hK _ _ (Rl.refl _ _) trivial rfl)
      intro a28 w28 sz1 df1 hoff hvv hRl hJ
      replace H2 := hRl.chg.blk H2 (fun h => h.elim)
      replace H7 := hRl.chg.blk H7 (fun h => h.elim)
      replace hv := hv.keep hRl.keep
      replace Kr70 := Kr70.keep hRl.keep
      replace Kr77 := Kr77.keep hRl.keep
      replace Kr87 := Kr87.keep hRl.keep
      replace Kr95 := Kr95.keep hRl.keep
      replace CH := CH.trans hRl.chg (fun _ _ h => h.elim)
      replace K8 := K8.trans hRl.keep
      obtain ⟨_, e102, rfl⟩ := hvv 2 _ _ rfl rfl
      replace e0 := (hoff 0 rfl).trans e0
      replace e2 := (hoff 2 rfl).trans e2
      replace e3 := (hoff 3 rfl).trans e3
      replace e10 := (hoff 10 rfl).trans e10
      replace e4 := (hoff 4 rfl).trans e4
      replace e5 := (hoff 5 rfl).trans e5
      replace e23 := (hoff 23 rfl).trans e23
      replace e6 := (hoff 6 rfl).trans e6
      replace e39 := (hoff 39 rfl).trans e39
      replace e64 := (hoff 64 rfl).trans e64
      replace e7 := (hoff 7 rfl).trans e7
      replace e70 := (hoff 70 rfl).trans e70
      replace e77 := (hoff 77 rfl).trans e77
      replace e87 := (hoff 87 rfl).trans e87
      replace e95 := (hoff 95 rfl).trans e95
      replace e96 := (hoff 96 rfl).trans e96
      replace e97 := (hoff 97 rfl).trans e97
      replace e98 := (hoff 98 rfl).trans e98
      replace e99 := (hoff 99 rfl).trans e99
      replace sz := sz1
      replace df := df1.trans df
      have Zw28 : w.heap.size ≤ w28.heap.size := CH.size
      clear sz1 df1 hoff hvv hRl hJ
      refine wpo_all rfl ?_
      refine hKK16 _ _ ?_
      refine wp_cond_true (ev e102) ?_
      refine wp_seq_k fun KK18 hKK18 => ?_
      refine raI (S := fun _ => False) 105 1 sz [103] [isV (.agg #[.int .i64 0, .int .i64 0, .int .u32 0, .int .u32 0, .int .u64 0, .int .u64 0, .slice none 0 0, .slice none 0 0, .slice none 0 0, .slice none 0 0])] [Tr, Tr] rfl (by decide) (by decide) (by decide) ?_ ?_ ?_ ?_
      · intro J hJ; cases hJ; exact trivial
      · exact (sr_cons (sr_V _ _) (sr_nil _))
      ·refine sti_cons ?_ sti_nil
       ·refine sti rfl rfl rfl rfl rfl rfl rfl fun a w' hM hI hoff hp K hK => ?_
        clear hoff hp
        have hu := Try.underlying28
        have hv_25 := Try.underlying25
        exact ov  (hK _ _ (Rl.refl _ _) trivial rfl)
      intro a29 w29 sz1 df1 hoff hvv hRl hJ
      replace H2 := hRl.chg.blk H2 (fun h => h.elim)
      replace H7 := hRl.chg.blk H7 (fun h => h.elim)
      replace hv := hv.keep hRl.keep
      replace Kr70 := Kr70.keep hRl.keep
      replace Kr77 := Kr77.keep hRl.keep
      replace Kr87 := Kr87.keep hRl.keep
      replace Kr95 := Kr95.keep hRl.keep
      replace CH := CH.trans hRl.chg (fun _ _ h => h.elim)
      replace K8 := K8.trans hRl.keep
      obtain ⟨_, e103, rfl⟩ := hvv 0 _ _ rfl rfl
      replace e0 := (hoff 0 rfl).trans e0
      replace e2 := (hoff 2 rfl).trans e2
      replace e3 := (hoff 3 rfl).trans e3
      replace e10 := (hoff 10 rfl).trans e10
      replace e4 := (hoff 4 rfl).trans e4
      replace e5 := (hoff 5 rfl).trans e5
      replace e23 := (hoff 23 rfl).trans e23
      replace e6 := (hoff 6 rfl).trans e6
      replace e39 := (hoff 39 rfl).trans e39
      replace e64 := (hoff 64 rfl).trans e64
      replace e7 := (hoff 7 rfl).trans e7
      replace e70 := (hoff 70 rfl).trans e70
      replace e77 := (hoff 77 rfl).trans e77
      replace e87 := (hoff 87 rfl).trans e87
      replace e95 := (hoff 95 rfl).trans e95
      replace e96 := (hoff 96 rfl).trans e96
      replace e97 := (hoff 97 rfl).trans e97
      replace e98 := (hoff 98 rfl).trans e98
      replace e99 := (hoff 99 rfl).trans e99
      replace e102 := (hoff 102 rfl).trans e102
      replace sz := sz1
      replace df := df1.trans df
      have Zw29 : w.heap.size ≤ w29.heap.size := CH.size
      clear sz1 df1 hoff hvv hRl hJ
      refine wpo_step 1 _ rfl rfl (og_plain rfl ?_)
      refine op_store_row 28 _ _ rfl bx2 #[.int .i64 0, .int .i64 0, .int .u32 0, .int .u32 0, .int .u64 0, .int .u64 0, .slice none 0 0, .slice none 0 0, .slice none 0 0, .slice none 0 0] (ev e2) (ev e103) 28 _ H2 (by kernel_rfl) rfl (onel ⟨rfl, rfl, rfl, rfl, rfl, rfl, rfl, rfl, rfl, rfl, trivial⟩) (nbl ⟨rfl, rfl, rfl, rfl, rfl, rfl, rfl, rfl, rfl, rfl, trivial⟩) ?_
      intro w30 H_ hC hK
      change wpOps _ _ _ _ a29 w30
      replace H7 := hC.blk H7 nex7_x2
      replace hv := hv.keep hK
      replace Kr70 := Kr70.keep hK
      replace Kr77 := Kr77.keep hK
      replace Kr87 := Kr87.keep hK
      replace Kr95 := Kr95.keep hK
      replace CH := CH.trans hC (fun x hx h => (old_new hx G2 h).elim)
      replace K8 := K8.trans hK
      replace H2 : w30.heap[bx2]? = some (.cells #[.int .i64 0, .int .i64 0, .int .u32 0, .int .u32 0, .int .u64 0, .int .u64 0, .slice none 0 0, .slice none 0 0, .slice none 0 0, .slice none 0 0] 28 (0, 0)) := H_
      clear hC hK
      have Zw30 : w.heap.size ≤ w30.heap.size := CH.size
      refine wpo_step 2 _ rfl rfl (og_plain rfl ?_)
      refine op_assign rfl (v := .int .i64 230) rfl ?_
      refine abs_put (K := fun x => wpOps _ _ _ _ x _) (t := 3) sz (by decide) fun a31 sz1 df1 e_new hoff => ?_
      replace e0 := (hoff 0 rfl).trans e0
      replace e2 := (hoff 2 rfl).trans e2
      replace e10 := (hoff 10 rfl).trans e10
      replace e4 := (hoff 4 rfl).trans e4
      replace e5 := (hoff 5 rfl).trans e5
      replace e23 := (hoff 23 rfl).trans e23
      replace e6 := (hoff 6 rfl).trans e6
      replace e39 := (hoff 39 rfl).trans e39
      replace e64 := (hoff 64 rfl).trans e64
      replace e7 := (hoff 7 rfl).trans e7
      replace e70 := (hoff 70 rfl).trans e70
      replace e77 := (hoff 77 rfl).trans e77
      replace e87 := (hoff 87 rfl).trans e87
      replace e95 := (hoff 95 rfl).trans e95
      replace e96 := (hoff 96 rfl).trans e96
      replace e97 := (hoff 97 rfl).trans e97
      replace e98 := (hoff 98 rfl).trans e98
      replace e99 := (hoff 99 rfl).trans e99
      replace e102 := (hoff 102 rfl).trans e102
      replace e103 := (hoff 103 rfl).trans e103
      have e3 := e_new
      replace sz := sz1
      replace df := df1.trans df
      clear sz1 df1 hoff e_new
      refine wpo_all rfl ?_
      refine hKK18 _ _ ?_
      refine wp_ret ?_
      refine then_r ?_
      exact retc rfl df bx2 28 _ _ _ e2 e3 H2 Try.underlying28 rfl (by kernel_rfl) ⟨_, rfl, ⟨_, .inl ⟨.inr (.inr (.inr hm)), rfl, ⟨_, _, _, _, rfl, Row.nil _ _, Row.nil _ _, Row.nil _ _, Row.nil _ _⟩⟩⟩, CH.below (fun _ _ h => h)⟩
    ·skip
     refine raI (S := fun _ => False) 105 8 sz [32, 33, 34, 35, 36, 37, 38, 39] [isV (.slice A0 l.length c0), isV (.int .i64 (l).length), isV (.int .i64 (a5 : Int)), isV (.int .i64 ((a5 : Int) + 2)), isV (.int .i64 (m : Int)), isV (.int .i64 ((a5 : Int) + 2 + (m : Int))), isV (.int .i64 ((a5 : Int) + 2 + (m : Int) + 3309)), isV (.bool true)] [Tr, Tr, Tr, Tr, Tr, Tr, Tr, Tr, Tr] rfl (by decide) (by decide) (by decide) ?_ ?_ ?_ ?_
     · intro J hJ; cases hJ; exact trivial
     · exact (sr_cons (sr_V _ _) (sr_cons (sr_V _ _) (sr_cons (sr_V _ _) (sr_cons (sr_V _ _) (sr_cons (sr_V _ _) (sr_cons (sr_V _ _) (sr_cons (sr_V _ _) (sr_cons (sr_V _ _) (sr_nil _)))))))))
     ·refine sti_cons ?_ (sti_cons ?_ (sti_cons ?_ (sti_cons ?_ (sti_cons ?_ (sti_cons ?_ (sti_cons ?_ (sti_cons ?_ sti_nil)))))))
      ·refine sti rfl rfl rfl rfl rfl rfl rfl fun a w' hM hI hoff hp K hK => ?_
       have e0 : a.tmps[0]? = some (.slice A0 l.length c0) := (hoff 0 rfl).trans e0
       clear hoff hp
       exact ov  (hK _ _ (Rl.refl _ _) trivial rfl)
      ·refine sti rfl rfl rfl rfl rfl rfl rfl fun a w' hM hI hoff hp K hK => ?_
       obtain ⟨_, e32, rfl⟩ := hp 0 rfl 32 _ rfl rfl
       clear hoff hp
       have hlen := row_len (P := Try.prog) (hv.keep hM.keep) ⟨_, Try.underlying26⟩
       exact ov  (hK _ _ (Rl.refl _ _) trivial rfl)
      ·refine sti rfl rfl rfl rfl rfl rfl rfl fun a w' hM hI hoff hp K hK => ?_
       have e5 : a.tmps[5]? = some (.int .i64 (a5 : Int)) := (hoff 5 rfl).trans e5
       clear hoff hp
       exact ov  (hK _ _ (Rl.refl _ _) trivial rfl)
      ·refine sti rfl rfl rfl rfl rfl rfl rfl fun a w' hM hI hoff hp K hK => ?_
       obtain ⟨_, e34, rfl⟩ := hp 2 rfl 34 _ rfl rfl
       clear hoff hp
       have hw1 := i64wrap (n := (a5 : Int) + 2) (by omega) (by omega)
       exact ov  (hK _ _ (Rl.refl _ _) trivial rfl)
      ·refine sti rfl rfl rfl rfl rfl rfl rfl fun a w' hM hI hoff hp K hK => ?_
       have e6 : a.tmps[6]? = some (.int .i64 (m : Int)) := (hoff 6 rfl).trans e6
       clear hoff hp
       exact ov  (hK _ _ (Rl.refl _ _) trivial rfl)
      ·refine sti rfl rfl rfl rfl rfl rfl rfl fun a w' hM hI hoff hp K hK => ?_
       obtain ⟨_, e35, rfl⟩ := hp 3 rfl 35 _ rfl rfl
       obtain ⟨_, e36, rfl⟩ := hp 4 rfl 36 _ rfl rfl
       clear hoff hp
       have hw1 := i64wrap (n := ((a5 : Int) + 2) + (m : Int)) (by omega) (by omega)
       exact ov  (hK _ _ (Rl.refl _ _) trivial rfl)
      ·refine sti rfl rfl rfl rfl rfl rfl rfl fun a w' hM hI hoff hp K hK => ?_
       obtain ⟨_, e37, rfl⟩ := hp 5 rfl 37 _ rfl rfl
       clear hoff hp
       have hw1 := i64wrap (n := ((a5 : Int) + 2 + (m : Int)) + 3309) (by omega) (by omega)
       exact ov  (hK _ _ (Rl.refl _ _) trivial rfl)
      ·refine sti rfl rfl rfl rfl rfl rfl rfl fun a w' hM hI hoff hp K hK => ?_
       obtain ⟨_, e33, rfl⟩ := hp 1 rfl 33 _ rfl rfl
       obtain ⟨_, e38, rfl⟩ := hp 6 rfl 38 _ rfl rfl
       clear hoff hp
       have q1 : ((l.length : Int) != (a5 : Int) + 2 + (m : Int) + 3309) = true := by rw [bne_iff_ne]; omega
       exact ov  (hK _ _ (Rl.refl _ _) trivial rfl)
     intro a32 w32 sz1 df1 hoff hvv hRl hJ
     replace H2 := hRl.chg.blk H2 (fun h => h.elim)
     replace hv := hv.keep hRl.keep
     replace CH := CH.trans hRl.chg (fun _ _ h => h.elim)
     replace K8 := K8.trans hRl.keep
     obtain ⟨_, e39, rfl⟩ := hvv 7 _ _ rfl rfl
     replace e0 := (hoff 0 rfl).trans e0
     replace e2 := (hoff 2 rfl).trans e2
     replace e3 := (hoff 3 rfl).trans e3
     replace e10 := (hoff 10 rfl).trans e10
     replace e4 := (hoff 4 rfl).trans e4
     replace e5 := (hoff 5 rfl).trans e5
     replace e23 := (hoff 23 rfl).trans e23
     replace e6 := (hoff 6 rfl).trans e6
     replace sz := sz1
     replace df := df1.trans df
     have Zw32 : w.heap.size ≤ w32.heap.size := CH.size
     clear sz1 df1 hoff hvv hRl hJ
     refine wpo_all rfl ?_
     refine hKK12 _ _ ?_
     refine wp_cond_true (ev e39) ?_
     refine wp_seq_k fun KK19 hKK19 => ?_
     refine raI (S := fun _ => False) 105 1 sz [40] [isV (.agg #[.int .i64 0, .int .i64 0, .int .u32 0, .int .u32 0, .int .u64 0, .int .u64 0, .slice none 0 0, .slice none 0 0, .slice none 0 0, .slice none 0 0])] [Tr, Tr] rfl (by decide) (by decide) (by decide) ?_ ?_ ?_ ?_
     · intro J hJ; cases hJ; exact trivial
     · exact (sr_cons (sr_V _ _) (sr_nil _))
     ·refine sti_cons ?_ sti_nil
      ·refine sti rfl rfl rfl rfl rfl rfl rfl fun a w' hM hI hoff hp K hK => ?_
       clear hoff hp
       have hu := Try.underlying28
       have hv_25 := Try.underlying25
       exact ov  (hK _ _ (Rl.refl _ _) trivial rfl)
     intro a33 w33 sz1 df1 hoff hvv hRl hJ
     replace H2 := hRl.chg.blk H2 (fun h => h.elim)
     replace hv := hv.keep hRl.keep
     replace CH := CH.trans hRl.chg (fun _ _ h => h.elim)
     replace K8 := K8.trans hRl.keep
     obtain ⟨_, e40, rfl⟩ := hvv 0 _ _ rfl rfl
     replace e0 := (hoff 0 rfl).trans e0
     replace e2 := (hoff 2 rfl).trans e2
     replace e3 := (hoff 3 rfl).trans e3
     replace e10 := (hoff 10 rfl).trans e10
     replace e4 := (hoff 4 rfl).trans e4
     replace e5 := (hoff 5 rfl).trans e5
     replace e23 := (hoff 23 rfl).trans e23
     replace e6 := (hoff 6 rfl).trans e6
     replace e39 := (hoff 39 rfl).trans e39
     replace sz := sz1
     replace df := df1.trans df
     have Zw33 : w.heap.size ≤ w33.heap.size := CH.size
     clear sz1 df1 hoff hvv hRl hJ
     refine wpo_step 1 _ rfl rfl (og_plain rfl ?_)
     refine op_store_row 28 _ _ rfl bx2 #[.int .i64 0, .int .i64 0, .int .u32 0, .int .u32 0, .int .u64 0, .int .u64 0, .slice none 0 0, .slice none 0 0, .slice none 0 0, .slice none 0 0] (ev e2) (ev e40) 28 _ H2 (by kernel_rfl) rfl (onel ⟨rfl, rfl, rfl, rfl, rfl, rfl, rfl, rfl, rfl, rfl, trivial⟩) (nbl ⟨rfl, rfl, rfl, rfl, rfl, rfl, rfl, rfl, rfl, rfl, trivial⟩) ?_
     intro w34 H_ hC hK
     change wpOps _ _ _ _ a33 w34
     replace hv := hv.keep hK
     replace CH := CH.trans hC (fun x hx h => (old_new hx G2 h).elim)
     replace K8 := K8.trans hK
     replace H2 : w34.heap[bx2]? = some (.cells #[.int .i64 0, .int .i64 0, .int .u32 0, .int .u32 0, .int .u64 0, .int .u64 0, .slice none 0 0, .slice none 0 0, .slice none 0 0, .slice none 0 0] 28 (0, 0)) := H_
     clear hC hK
     have Zw34 : w.heap.size ≤ w34.heap.size := CH.size
     refine wpo_step 2 _ rfl rfl (og_plain rfl ?_)
     refine op_assign rfl (v := .int .i64 230) rfl ?_
     refine abs_put (K := fun x => wpOps _ _ _ _ x _) (t := 3) sz (by decide) fun a35 sz1 df1 e_new hoff => ?_
     replace e0 := (hoff 0 rfl).trans e0
     replace e2 := (hoff 2 rfl).trans e2
     replace e10 := (hoff 10 rfl).trans e10
     replace e4 := (hoff 4 rfl).trans e4
     replace e5 := (hoff 5 rfl).trans e5
     replace e23 := (hoff 23 rfl).trans e23
     replace e6 := (hoff 6 rfl).trans e6
     replace e39 := (hoff 39 rfl).trans e39
     replace e40 := (hoff 40 rfl).trans e40
     have e3 := e_new
     replace sz := sz1
     replace df := df1.trans df
     clear sz1 df1 hoff e_new
     refine wpo_all rfl ?_
     refine hKK19 _ _ ?_
     refine wp_ret ?_
     refine then_r ?_
     exact retc rfl df bx2 28 _ _ _ e2 e3 H2 Try.underlying28 rfl (by kernel_rfl) ⟨_, rfl, ⟨_, .inl ⟨.inr (.inr (.inl (by omega))), rfl, ⟨_, _, _, _, rfl, Row.nil _ _, Row.nil _ _, Row.nil _ _, Row.nil _ _⟩⟩⟩, CH.below (fun _ _ h => h)⟩
end Go.Proofs.Ytgacaemgmgoiaaa.QLeaf
