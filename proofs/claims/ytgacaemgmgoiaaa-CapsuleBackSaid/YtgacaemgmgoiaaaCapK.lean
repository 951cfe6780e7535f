import Derived.Test.YtgacaemgmgoiaaaCapC
import Derived.Test.YtgacaemgmgoiaaaCap4b

/- The law CapsuleBack. -/
namespace Go.Proofs.Ytgacaemgmgoiaaa.QLeaf
open Go.RowKit Go.Proofs.YtgacaemgmgoiaaaW.PrintWords Go.Proofs.YtgacaemgmgoiaaaW.PrintLast Go.Proofs.YtgacaemgmgoiaaaW.PrintMore Go.Proofs.YtgacaemgmgoiaaaW.Cm Go.Proofs.YtgacaemgmgoiaaaW.Rg
set_option linter.unusedVariables false
set_option linter.unusedSimpArgs false

theorem back_cases (p : Prop) (l : List Int) : p ∨ (¬ p ∧ 90000 < l.length) ∨ (¬ p ∧ l.length ≤ 90000) := by
  by_cases h : p
  · exact .inl h
  · by_cases hl : 90000 < l.length
    · exact .inr (.inl ⟨h, hl⟩)
    · exact .inr (.inr ⟨h, by omega⟩)
set_option maxHeartbeats 4000000 in
set_option maxRecDepth 100000 in
theorem back_law (c : Cp) (ho : c.Ok) (l : List Int) (yl : Byt l) (hc : c.May → ¬ (9000 < c.pub.length ∨ 9000 < c.ct.length ∨ 9000 < c.sl.length ∨ 9000 < c.sig.length) → (∀ (v : Value) (w : World), Row 0 w v (c.inner ++ c.sig) → Ret 21 #[v] w (fun u w' => ∃ x, u = .tuple #[x, .int .i64 0] ∧ CapV w.heap.size w' x c))) (hlr : l.length ≤ 90000 → (∃ d : Cp, d.Ok ∧ d.May ∧ d.pub.length < 65536 ∧ d.sl.length < 65536 ∧ d.ct.length < 65536 ∧ d.sig.length < 65536 ∧ d.inner ++ d.sig = l ∧ (∀ (v : Value) (w : World), Row 0 w v l → Ret 21 #[v] w (fun u w' => ∃ x, u = .tuple #[x, .int .i64 0] ∧ CapV w.heap.size w' x d))) ∨ (∀ (v : Value) (w : World), Row 0 w v l → Ret 21 #[v] w (fun u w' => ∃ x, u = .tuple #[x, .int .i64 230] ∧ CapV w.heap.size w' x zeroCp))) (v v2 : Value) (w : World) (hv : CapV 0 w v c) (hw : Row 0 w v2 l) : Ret 6 #[v, v2] w (isV (.bool true)) := by
  obtain ⟨x6, x7, x8, x9, rfl, g6, g7, g8, g9⟩ := hv
  refine enterA (n := 67) Try.func6 rfl rfl fun a0 sz df he => ?_
  have e0 : a0.tmps[0]? = some (.agg #[.int .i64 c.fr, .int .i64 c.tt, .int .u32 c.tid, .int .u32 c.key, .int .u64 c.lo, .int .u64 c.hi, x6, x7, x8, x9]) := he 0 _ rfl
  have e1 : a0.tmps[1]? = some (v2) := he 1 _ rfl
  clear he
  have CH : Chg (fun _ => False) w w := Chg.refl _ _
  have K8 : Keep8 w w := Keep8.refl _
  refine wp_seq_k fun KK1 hKK1 => ?_
  refine raI (S := fun _ => False) 67 2 sz [2, 4] [isBoxC w.heap.size #[.int .i64 c.fr, .int .i64 c.tt, .int .u32 c.tid, .int .u32 c.key, .int .u64 c.lo, .int .u64 c.hi, x6, x7, x8, x9] 28, isV (.bool false)] [Tr, Tr, Tr] rfl (by decide) (by decide) (by decide) ?_ ?_ ?_ ?_
  · intro J hJ; cases hJ; exact trivial
  · exact (sr_cons (sr_BoxS _ _ _ (fun _ _ h => h)) (sr_cons (sr_V _ _) (sr_nil _)))
  ·refine sti_cons ?_ (sti_cons ?_ sti_nil)
   ·refine sti rfl rfl rfl rfl rfl rfl rfl fun a w' hM hI hoff hp K hK => ?_
    have e0 : a.tmps[0]? = some (.agg #[.int .i64 c.fr, .int .i64 c.tt, .int .u32 c.tid, .int .u32 c.key, .int .u64 c.lo, .int .u64 c.hi, x6, x7, x8, x9]) := (hoff 0 rfl).trans e0
    clear hoff hp
    have hu := Try.underlying28
    have hv_25 := Try.underlying25
    refine ov (v := .pointer (some ⟨w'.heap.size, 0, none⟩)) (w' := w'.alloc (.cells #[.int .i64 c.fr, .int .i64 c.tt, .int .u32 c.tid, .int .u32 c.key, .int .u64 c.lo, .int .u64 c.hi, x6, x7, x8, x9] 28))  (hK _ _ (Rl.alloc _ _ _) trivial ⟨_, rfl, hM.keep.size, heap_new _ _⟩)
   ·refine sti rfl rfl rfl rfl rfl rfl rfl fun a w' hM hI hoff hp K hK => ?_
    clear hoff hp
    exact ov  (hK _ _ (Rl.refl _ _) trivial rfl)
  intro a1 w1 sz1 df1 hoff hvv hRl hJ
  obtain ⟨v_, e2, bx2, z_, G1_2, H2⟩ := hvv 0 _ _ rfl rfl
  rw [z_] at e2
  clear z_
  have G2 : w.heap.size ≤ bx2 := Nat.le_trans CH.size G1_2
  replace hw := hw.keep hRl.keep
  replace g6 := g6.keep hRl.keep
  replace g7 := g7.keep hRl.keep
  replace g8 := g8.keep hRl.keep
  replace g9 := g9.keep hRl.keep
  replace CH := CH.trans hRl.chg (fun _ _ h => h.elim)
  replace K8 := K8.trans hRl.keep
  obtain ⟨_, e4, rfl⟩ := hvv 1 _ _ rfl rfl
  replace e0 := (hoff 0 rfl).trans e0
  replace e1 := (hoff 1 rfl).trans e1
  replace sz := sz1
  replace df := df1.trans df
  have Zw1 : w.heap.size ≤ w1.heap.size := CH.size
  clear sz1 df1 hoff hvv hRl hJ
  refine wpo_all rfl ?_
  refine hKK1 _ _ ?_
  refine wp_seq_k fun KK2 hKK2 => ?_
  refine wp_seq_k fun KK3 hKK3 => ?_
  rcases back_cases (9000 < c.pub.length ∨ 9000 < c.ct.length ∨ 9000 < c.sl.length ∨ 9000 < c.sig.length) l with hbig | ⟨hbig, hl⟩ | ⟨hbig, hl⟩
  ·skip
   refine raI (S := fun _ => False) 67 11 sz [13, 14, 15, 16, 17, 18, 19, 20, 21, 22, 23] [isV (.bool true), isV (.bool false), isV (.bool false), isV (.agg #[.int .i64 c.fr, .int .i64 c.tt, .int .u32 c.tid, .int .u32 c.key, .int .u64 c.lo, .int .u64 c.hi, x6, x7, x8, x9]), isV (.bool true), isV (.bool true), isV (.bool true), isV (undef), isV (undef), isV (undef), isV (.bool true)] [Tr, Tr, Tr, Tr, Tr, Tr, Tr, Tr, Tr, Tr, Tr, Tr] rfl (by decide) (by decide) (by decide) ?_ ?_ ?_ ?_
   · intro J hJ; cases hJ; exact trivial
   · exact (sr_cons (sr_V _ _) (sr_cons (sr_V _ _) (sr_cons (sr_V _ _) (sr_cons (sr_V _ _) (sr_cons (sr_V _ _) (sr_cons (sr_V _ _) (sr_cons (sr_V _ _) (sr_cons (sr_V _ _) (sr_cons (sr_V _ _) (sr_cons (sr_V _ _) (sr_cons (sr_V _ _) (sr_nil _))))))))))))
   ·refine sti_cons ?_ (sti_cons ?_ (sti_cons ?_ (sti_cons ?_ (sti_cons ?_ (sti_cons ?_ (sti_cons ?_ (sti_cons ?_ (sti_cons ?_ (sti_cons ?_ (sti_cons ?_ sti_nil))))))))))
    ·refine sti rfl rfl rfl rfl rfl rfl rfl fun a w' hM hI hoff hp K hK => ?_
     clear hoff hp
     refine op_call Try.func7 (by kernel_rfl) rfl #[] rfl (by simp [Act.eval]) (live_calls _) ?_
     rintro e w1 ⟨u, rfl, hR, hb⟩
     exact ⟨u, rfl, hK _ _ (Rl.of_below hb) trivial hR⟩
    ·refine sti rfl rfl rfl rfl rfl rfl rfl fun a w' hM hI hoff hp K hK => ?_
     obtain ⟨_, e13, rfl⟩ := hp 0 rfl 13 _ rfl rfl
     clear hoff hp
     exact ov  (hK _ _ (Rl.refl _ _) trivial rfl)
    ·refine sti rfl rfl rfl rfl rfl rfl rfl fun a w' hM hI hoff hp K hK => ?_
     obtain ⟨_, e14, rfl⟩ := hp 1 rfl 14 _ rfl rfl
     clear hoff hp
     exact ov  (hK _ _ (Rl.refl _ _) trivial rfl)
    ·refine stiy 2 rfl rfl rfl rfl rfl rfl rfl rfl rfl rfl rfl fun a w' hM hI hoff hp K hK => ?_
     have e2 : a.tmps[2]? = some (.pointer (some ⟨bx2, 0, none⟩)) := (hoff 2 rfl).trans e2
     clear hoff hp
     have d0 : w'.cell? ⟨bx2, 0, none⟩ = some (.int .i64 c.fr) := (blk_cell (hM.chg.blk H2 (fun h => h)) 0).trans rfl
     have d1 : w'.cell? ⟨bx2, 1, none⟩ = some (.int .i64 c.tt) := (blk_cell (hM.chg.blk H2 (fun h => h)) 1).trans rfl
     have d2 : w'.cell? ⟨bx2, 2, none⟩ = some (.int .u32 c.tid) := (blk_cell (hM.chg.blk H2 (fun h => h)) 2).trans rfl
     have d3 : w'.cell? ⟨bx2, 3, none⟩ = some (.int .u32 c.key) := (blk_cell (hM.chg.blk H2 (fun h => h)) 3).trans rfl
     have d4 : w'.cell? ⟨bx2, 4, none⟩ = some (.int .u64 c.lo) := (blk_cell (hM.chg.blk H2 (fun h => h)) 4).trans rfl
     have d5 : w'.cell? ⟨bx2, 5, none⟩ = some (.int .u64 c.hi) := (blk_cell (hM.chg.blk H2 (fun h => h)) 5).trans rfl
     have d6 : w'.cell? ⟨bx2, 6, none⟩ = some (x6) := (blk_cell (hM.chg.blk H2 (fun h => h)) 6).trans rfl
     have d7 : w'.cell? ⟨bx2, 7, none⟩ = some (x7) := (blk_cell (hM.chg.blk H2 (fun h => h)) 7).trans rfl
     have d8 : w'.cell? ⟨bx2, 8, none⟩ = some (x8) := (blk_cell (hM.chg.blk H2 (fun h => h)) 8).trans rfl
     have d9 : w'.cell? ⟨bx2, 9, none⟩ = some (x9) := (blk_cell (hM.chg.blk H2 (fun h => h)) 9).trans rfl
     have hu := Try.underlying28
     have hv_25 := Try.underlying25
     exact ov  (hK _ _ (Rl.refl _ _) trivial rfl)
    ·refine stiy 2 rfl rfl rfl rfl rfl rfl rfl rfl rfl rfl rfl fun a w' hM hI hoff hp K hK => ?_
     obtain ⟨_, e16, rfl⟩ := hp 3 rfl 16 _ rfl rfl
     clear hoff hp
     refine op_call Try.func8 (by kernel_rfl) rfl #[.agg #[.int .i64 c.fr, .int .i64 c.tt, .int .u32 c.tid, .int .u32 c.key, .int .u64 c.lo, .int .u64 c.hi, x6, x7, x8, x9]] rfl (by simp [Act.eval, e16]) (big_calls c _ (decide_eq_true hbig) _ _ ⟨_, _, _, _, rfl, (g6.keep hM.keep).lower (Nat.zero_le _), (g7.keep hM.keep).lower (Nat.zero_le _), (g8.keep hM.keep).lower (Nat.zero_le _), (g9.keep hM.keep).lower (Nat.zero_le _)⟩) ?_
     rintro e w1 ⟨u, rfl, hR, hb⟩
     exact ⟨u, rfl, hK _ _ (Rl.of_below hb) trivial hR⟩
    ·refine sti rfl rfl rfl rfl rfl rfl rfl fun a w' hM hI hoff hp K hK => ?_
     obtain ⟨_, e15, rfl⟩ := hp 2 rfl 15 _ rfl rfl
     obtain ⟨_, e17, rfl⟩ := hp 4 rfl 17 _ rfl rfl
     clear hoff hp
     exact ov  (hK _ _ (Rl.refl _ _) trivial rfl)
    ·refine sti rfl rfl rfl rfl rfl rfl rfl fun a w' hM hI hoff hp K hK => ?_
     obtain ⟨_, e18, rfl⟩ := hp 5 rfl 18 _ rfl rfl
     clear hoff hp
     exact ov  (hK _ _ (Rl.refl _ _) trivial rfl)
    ·exact stin 6 rfl rfl rfl rfl rfl rfl rfl rfl rfl rfl rfl (by simp)
    ·exact stin 6 rfl rfl rfl rfl rfl rfl rfl rfl rfl rfl rfl (by simp)
    ·exact stin 6 rfl rfl rfl rfl rfl rfl rfl rfl rfl rfl rfl (by simp)
    ·refine sti rfl rfl rfl rfl rfl rfl rfl fun a w' hM hI hoff hp K hK => ?_
     obtain ⟨_, e19, rfl⟩ := hp 6 rfl 19 _ rfl rfl
     clear hoff hp
     exact ov  (hK _ _ (Rl.refl _ _) trivial rfl)
   intro a2 w2 sz1 df1 hoff hvv hRl hJ
   replace H2 := hRl.chg.blk H2 (fun h => h.elim)
   replace hw := hw.keep hRl.keep
   replace g6 := g6.keep hRl.keep
   replace g7 := g7.keep hRl.keep
   replace g8 := g8.keep hRl.keep
   replace g9 := g9.keep hRl.keep
   replace CH := CH.trans hRl.chg (fun _ _ h => h.elim)
   replace K8 := K8.trans hRl.keep
   obtain ⟨_, e23, rfl⟩ := hvv 10 _ _ rfl rfl
   replace e0 := (hoff 0 rfl).trans e0
   replace e1 := (hoff 1 rfl).trans e1
   replace e2 := (hoff 2 rfl).trans e2
   replace e4 := (hoff 4 rfl).trans e4
   replace sz := sz1
   replace df := df1.trans df
   have Zw2 : w.heap.size ≤ w2.heap.size := CH.size
   clear sz1 df1 hoff hvv hRl hJ
   refine wpo_all rfl ?_
   refine hKK3 _ _ ?_
   refine wp_cond_true (ev e23) ?_
   refine wp_seq_k fun KK4 hKK4 => ?_
   refine raI (S := fun _ => False) 67 2 sz [24, 4] [isV (.bool true), isV (.bool true)] [Tr, Tr, Tr] rfl (by decide) (by decide) (by decide) ?_ ?_ ?_ ?_
   · intro J hJ; cases hJ; exact trivial
   · exact (sr_cons (sr_V _ _) (sr_cons (sr_V _ _) (sr_nil _)))
   ·refine sti_cons ?_ (sti_cons ?_ sti_nil)
    ·refine sti rfl rfl rfl rfl rfl rfl rfl fun a w' hM hI hoff hp K hK => ?_
     clear hoff hp
     refine op_call Try.func7 (by kernel_rfl) rfl #[] rfl (by simp [Act.eval]) (live_calls _) ?_
     rintro e w1 ⟨u, rfl, hR, hb⟩
     exact ⟨u, rfl, hK _ _ (Rl.of_below hb) trivial hR⟩
    ·refine sti rfl rfl rfl rfl rfl rfl rfl fun a w' hM hI hoff hp K hK => ?_
     obtain ⟨_, e24, rfl⟩ := hp 0 rfl 24 _ rfl rfl
     clear hoff hp
     exact ov  (hK _ _ (Rl.refl _ _) trivial rfl)
   intro a3 w3 sz1 df1 hoff hvv hRl hJ
   replace H2 := hRl.chg.blk H2 (fun h => h.elim)
   replace hw := hw.keep hRl.keep
   replace g6 := g6.keep hRl.keep
   replace g7 := g7.keep hRl.keep
   replace g8 := g8.keep hRl.keep
   replace g9 := g9.keep hRl.keep
   replace CH := CH.trans hRl.chg (fun _ _ h => h.elim)
   replace K8 := K8.trans hRl.keep
   obtain ⟨_, e4, rfl⟩ := hvv 1 _ _ rfl rfl
   replace e0 := (hoff 0 rfl).trans e0
   replace e1 := (hoff 1 rfl).trans e1
   replace e2 := (hoff 2 rfl).trans e2
   replace e23 := (hoff 23 rfl).trans e23
   replace sz := sz1
   replace df := df1.trans df
   have Zw3 : w.heap.size ≤ w3.heap.size := CH.size
   clear sz1 df1 hoff hvv hRl hJ
   refine wpo_all rfl ?_
   refine hKK4 _ _ ?_
   refine wp_ret ?_
   refine then_r ?_
   exact ret1 rfl df e4 ⟨_, rfl, rfl, CH.below (fun _ _ h => h)⟩
  ·skip
   refine raI (S := fun _ => False) 67 11 sz [13, 14, 15, 16, 17, 18, 19, 20, 21, 22, 23] [isV (.bool true), isV (.bool false), isV (.bool false), isV (.agg #[.int .i64 c.fr, .int .i64 c.tt, .int .u32 c.tid, .int .u32 c.key, .int .u64 c.lo, .int .u64 c.hi, x6, x7, x8, x9]), isV (.bool false), isV (.bool false), isV (.bool false), isV (v2), isV (.int .i64 (l).length), isV (.bool true), isV (.bool true)] [Tr, Tr, Tr, Tr, Tr, Tr, Tr, Tr, Tr, Tr, Tr, Tr] rfl (by decide) (by decide) (by decide) ?_ ?_ ?_ ?_
   · intro J hJ; cases hJ; exact trivial
   · exact (sr_cons (sr_V _ _) (sr_cons (sr_V _ _) (sr_cons (sr_V _ _) (sr_cons (sr_V _ _) (sr_cons (sr_V _ _) (sr_cons (sr_V _ _) (sr_cons (sr_V _ _) (sr_cons (sr_V _ _) (sr_cons (sr_V _ _) (sr_cons (sr_V _ _) (sr_cons (sr_V _ _) (sr_nil _))))))))))))
   ·refine sti_cons ?_ (sti_cons ?_ (sti_cons ?_ (sti_cons ?_ (sti_cons ?_ (sti_cons ?_ (sti_cons ?_ (sti_cons ?_ (sti_cons ?_ (sti_cons ?_ (sti_cons ?_ sti_nil))))))))))
    ·refine sti rfl rfl rfl rfl rfl rfl rfl fun a w' hM hI hoff hp K hK => ?_
     clear hoff hp
     refine op_call Try.func7 (by kernel_rfl) rfl #[] rfl (by simp [Act.eval]) (live_calls _) ?_
     rintro e w1 ⟨u, rfl, hR, hb⟩
     exact ⟨u, rfl, hK _ _ (Rl.of_below hb) trivial hR⟩
    ·refine sti rfl rfl rfl rfl rfl rfl rfl fun a w' hM hI hoff hp K hK => ?_
     obtain ⟨_, e13, rfl⟩ := hp 0 rfl 13 _ rfl rfl
     clear hoff hp
     exact ov  (hK _ _ (Rl.refl _ _) trivial rfl)
    ·refine sti rfl rfl rfl rfl rfl rfl rfl fun a w' hM hI hoff hp K hK => ?_
     obtain ⟨_, e14, rfl⟩ := hp 1 rfl 14 _ rfl rfl
     clear hoff hp
     exact ov  (hK _ _ (Rl.refl _ _) trivial rfl)
    ·refine stiy 2 rfl rfl rfl rfl rfl rfl rfl rfl rfl rfl rfl fun a w' hM hI hoff hp K hK => ?_
     have e2 : a.tmps[2]? = some (.pointer (some ⟨bx2, 0, none⟩)) := (hoff 2 rfl).trans e2
     clear hoff hp
     have d0 : w'.cell? ⟨bx2, 0, none⟩ = some (.int .i64 c.fr) := (blk_cell (hM.chg.blk H2 (fun h => h)) 0).trans rfl
     have d1 : w'.cell? ⟨bx2, 1, none⟩ = some (.int .i64 c.tt) := (blk_cell (hM.chg.blk H2 (fun h => h)) 1).trans rfl
     have d2 : w'.cell? ⟨bx2, 2, none⟩ = some (.int .u32 c.tid) := (blk_cell (hM.chg.blk H2 (fun h => h)) 2).trans rfl
     have d3 : w'.cell? ⟨bx2, 3, none⟩ = some (.int .u32 c.key) := (blk_cell (hM.chg.blk H2 (fun h => h)) 3).trans rfl
     have d4 : w'.cell? ⟨bx2, 4, none⟩ = some (.int .u64 c.lo) := (blk_cell (hM.chg.blk H2 (fun h => h)) 4).trans rfl
     have d5 : w'.cell? ⟨bx2, 5, none⟩ = some (.int .u64 c.hi) := (blk_cell (hM.chg.blk H2 (fun h => h)) 5).trans rfl
     have d6 : w'.cell? ⟨bx2, 6, none⟩ = some (x6) := (blk_cell (hM.chg.blk H2 (fun h => h)) 6).trans rfl
     have d7 : w'.cell? ⟨bx2, 7, none⟩ = some (x7) := (blk_cell (hM.chg.blk H2 (fun h => h)) 7).trans rfl
     have d8 : w'.cell? ⟨bx2, 8, none⟩ = some (x8) := (blk_cell (hM.chg.blk H2 (fun h => h)) 8).trans rfl
     have d9 : w'.cell? ⟨bx2, 9, none⟩ = some (x9) := (blk_cell (hM.chg.blk H2 (fun h => h)) 9).trans rfl
     have hu := Try.underlying28
     have hv_25 := Try.underlying25
     exact ov  (hK _ _ (Rl.refl _ _) trivial rfl)
    ·refine stiy 2 rfl rfl rfl rfl rfl rfl rfl rfl rfl rfl rfl fun a w' hM hI hoff hp K hK => ?_
     obtain ⟨_, e16, rfl⟩ := hp 3 rfl 16 _ rfl rfl
     clear hoff hp
     refine op_call Try.func8 (by kernel_rfl) rfl #[.agg #[.int .i64 c.fr, .int .i64 c.tt, .int .u32 c.tid, .int .u32 c.key, .int .u64 c.lo, .int .u64 c.hi, x6, x7, x8, x9]] rfl (by simp [Act.eval, e16]) (big_calls c _ (decide_eq_false hbig) _ _ ⟨_, _, _, _, rfl, (g6.keep hM.keep).lower (Nat.zero_le _), (g7.keep hM.keep).lower (Nat.zero_le _), (g8.keep hM.keep).lower (Nat.zero_le _), (g9.keep hM.keep).lower (Nat.zero_le _)⟩) ?_
     rintro e w1 ⟨u, rfl, hR, hb⟩
     exact ⟨u, rfl, hK _ _ (Rl.of_below hb) trivial hR⟩
    ·refine sti rfl rfl rfl rfl rfl rfl rfl fun a w' hM hI hoff hp K hK => ?_
     obtain ⟨_, e15, rfl⟩ := hp 2 rfl 15 _ rfl rfl
     obtain ⟨_, e17, rfl⟩ := hp 4 rfl 17 _ rfl rfl
     clear hoff hp
     exact ov  (hK _ _ (Rl.refl _ _) trivial rfl)
    ·refine sti rfl rfl rfl rfl rfl rfl rfl fun a w' hM hI hoff hp K hK => ?_
     obtain ⟨_, e18, rfl⟩ := hp 5 rfl 18 _ rfl rfl
     clear hoff hp
     exact ov  (hK _ _ (Rl.refl _ _) trivial rfl)
    ·refine stiy 6 rfl rfl rfl rfl rfl rfl rfl rfl rfl rfl rfl fun a w' hM hI hoff hp K hK => ?_
     have e1 : a.tmps[1]? = some (v2) := (hoff 1 rfl).trans e1
     clear hoff hp
     exact ov  (hK _ _ (Rl.refl _ _) trivial rfl)
    ·refine stiy 6 rfl rfl rfl rfl rfl rfl rfl rfl rfl rfl rfl fun a w' hM hI hoff hp K hK => ?_
     obtain ⟨v20, e20, ev20⟩ := hp 7 rfl 20 _ rfl rfl
     replace e20 : a.tmps[20]? = some (v2) := e20.trans (congrArg some (show v20 = v2 from ev20))
     clear ev20 v20
     clear hoff hp
     have hlen := row_len (P := Try.prog) (hw.keep hM.keep) ⟨_, Try.underlying26⟩
     exact ov  (hK _ _ (Rl.refl _ _) trivial rfl)
    ·refine stiy 6 rfl rfl rfl rfl rfl rfl rfl rfl rfl rfl rfl fun a w' hM hI hoff hp K hK => ?_
     obtain ⟨_, e21, rfl⟩ := hp 8 rfl 21 _ rfl rfl
     clear hoff hp
     have q1 : decide ((90000 : Int) < (l.length : Int)) = true := by rw [decide_eq_true_eq]; omega
     exact ov  (hK _ _ (Rl.refl _ _) trivial rfl)
    ·refine sti rfl rfl rfl rfl rfl rfl rfl fun a w' hM hI hoff hp K hK => ?_
     obtain ⟨_, e19, rfl⟩ := hp 6 rfl 19 _ rfl rfl
     obtain ⟨_, e22, rfl⟩ := hp 9 rfl 22 _ rfl rfl
     clear hoff hp
     exact ov  (hK _ _ (Rl.refl _ _) trivial rfl)
   intro a4 w4 sz1 df1 hoff hvv hRl hJ
   replace H2 := hRl.chg.blk H2 (fun h => h.elim)
   replace hw := hw.keep hRl.keep
   replace g6 := g6.keep hRl.keep
   replace g7 := g7.keep hRl.keep
   replace g8 := g8.keep hRl.keep
   replace g9 := g9.keep hRl.keep
   replace CH := CH.trans hRl.chg (fun _ _ h => h.elim)
   replace K8 := K8.trans hRl.keep
   obtain ⟨_, e23, rfl⟩ := hvv 10 _ _ rfl rfl
   replace e0 := (hoff 0 rfl).trans e0
   replace e1 := (hoff 1 rfl).trans e1
   replace e2 := (hoff 2 rfl).trans e2
   replace e4 := (hoff 4 rfl).trans e4
   replace sz := sz1
   replace df := df1.trans df
   have Zw4 : w.heap.size ≤ w4.heap.size := CH.size
   clear sz1 df1 hoff hvv hRl hJ
   refine wpo_all rfl ?_
   refine hKK3 _ _ ?_
   refine wp_cond_true (ev e23) ?_
   refine wp_seq_k fun KK5 hKK5 => ?_
   refine raI (S := fun _ => False) 67 2 sz [24, 4] [isV (.bool true), isV (.bool true)] [Tr, Tr, Tr] rfl (by decide) (by decide) (by decide) ?_ ?_ ?_ ?_
   · intro J hJ; cases hJ; exact trivial
   · exact (sr_cons (sr_V _ _) (sr_cons (sr_V _ _) (sr_nil _)))
   ·refine sti_cons ?_ (sti_cons ?_ sti_nil)
    ·refine sti rfl rfl rfl rfl rfl rfl rfl fun a w' hM hI hoff hp K hK => ?_
     clear hoff hp
     refine op_call Try.func7 (by kernel_rfl) rfl #[] rfl (by simp [Act.eval]) (live_calls _) ?_
     rintro e w1 ⟨u, rfl, hR, hb⟩
     exact ⟨u, rfl, hK _ _ (Rl.of_below hb) trivial hR⟩
    ·refine sti rfl rfl rfl rfl rfl rfl rfl fun a w' hM hI hoff hp K hK => ?_
     obtain ⟨_, e24, rfl⟩ := hp 0 rfl 24 _ rfl rfl
     clear hoff hp
     exact ov  (hK _ _ (Rl.refl _ _) trivial rfl)
   intro a5 w5 sz1 df1 hoff hvv hRl hJ
   replace H2 := hRl.chg.blk H2 (fun h => h.elim)
   replace hw := hw.keep hRl.keep
   replace g6 := g6.keep hRl.keep
   replace g7 := g7.keep hRl.keep
   replace g8 := g8.keep hRl.keep
   replace g9 := g9.keep hRl.keep
   replace CH := CH.trans hRl.chg (fun _ _ h => h.elim)
   replace K8 := K8.trans hRl.keep
   obtain ⟨_, e4, rfl⟩ := hvv 1 _ _ rfl rfl
   replace e0 := (hoff 0 rfl).trans e0
   replace e1 := (hoff 1 rfl).trans e1
   replace e2 := (hoff 2 rfl).trans e2
   replace e23 := (hoff 23 rfl).trans e23
   replace sz := sz1
   replace df := df1.trans df
   have Zw5 : w.heap.size ≤ w5.heap.size := CH.size
   clear sz1 df1 hoff hvv hRl hJ
   refine wpo_all rfl ?_
   refine hKK5 _ _ ?_
   refine wp_ret ?_
   refine then_r ?_
   exact ret1 rfl df e4 ⟨_, rfl, rfl, CH.below (fun _ _ h => h)⟩
  ·skip
   refine raI (S := fun _ => False) 67 11 sz [13, 14, 15, 16, 17, 18, 19, 20, 21, 22, 23] [isV (.bool true), isV (.bool false), isV (.bool false), isV (.agg #[.int .i64 c.fr, .int .i64 c.tt, .int .u32 c.tid, .int .u32 c.key, .int .u64 c.lo, .int .u64 c.hi, x6, x7, x8, x9]), isV (.bool false), isV (.bool false), isV (.bool false), isV (v2), isV (.int .i64 (l).length), isV (.bool false), isV (.bool false)] [Tr, Tr, Tr, Tr, Tr, Tr, Tr, Tr, Tr, Tr, Tr, Tr] rfl (by decide) (by decide) (by decide) ?_ ?_ ?_ ?_
   · intro J hJ; cases hJ; exact trivial
   · exact (sr_cons (sr_V _ _) (sr_cons (sr_V _ _) (sr_cons (sr_V _ _) (sr_cons (sr_V _ _) (sr_cons (sr_V _ _) (sr_cons (sr_V _ _) (sr_cons (sr_V _ _) (sr_cons (sr_V _ _) (sr_cons (sr_V _ _) (sr_cons (sr_V _ _) (sr_cons (sr_V _ _) (sr_nil _))))))))))))
   ·refine sti_cons ?_ (sti_cons ?_ (sti_cons ?_ (sti_cons ?_ (sti_cons ?_ (sti_cons ?_ (sti_cons ?_ (sti_cons ?_ (sti_cons ?_ (sti_cons ?_ (sti_cons ?_ sti_nil))))))))))
    ·refine sti rfl rfl rfl rfl rfl rfl rfl fun a w' hM hI hoff hp K hK => ?_
     clear hoff hp
     refine op_call Try.func7 (by kernel_rfl) rfl #[] rfl (by simp [Act.eval]) (live_calls _) ?_
     rintro e w1 ⟨u, rfl, hR, hb⟩
     exact ⟨u, rfl, hK _ _ (Rl.of_below hb) trivial hR⟩
    ·refine sti rfl rfl rfl rfl rfl rfl rfl fun a w' hM hI hoff hp K hK => ?_
     obtain ⟨_, e13, rfl⟩ := hp 0 rfl 13 _ rfl rfl
     clear hoff hp
     exact ov  (hK _ _ (Rl.refl _ _) trivial rfl)
    ·refine sti rfl rfl rfl rfl rfl rfl rfl fun a w' hM hI hoff hp K hK => ?_
     obtain ⟨_, e14, rfl⟩ := hp 1 rfl 14 _ rfl rfl
     clear hoff hp
     exact ov  (hK _ _ (Rl.refl _ _) trivial rfl)
    ·refine stiy 2 rfl rfl rfl rfl rfl rfl rfl rfl rfl rfl rfl fun a w' hM hI hoff hp K hK => ?_
     have e2 : a.tmps[2]? = some (.pointer (some ⟨bx2, 0, none⟩)) := (hoff 2 rfl).trans e2
     clear hoff hp
     have d0 : w'.cell? ⟨bx2, 0, none⟩ = some (.int .i64 c.fr) := (blk_cell (hM.chg.blk H2 (fun h => h)) 0).trans rfl
     have d1 : w'.cell? ⟨bx2, 1, none⟩ = some (.int .i64 c.tt) := (blk_cell (hM.chg.blk H2 (fun h => h)) 1).trans rfl
     have d2 : w'.cell? ⟨bx2, 2, none⟩ = some (.int .u32 c.tid) := (blk_cell (hM.chg.blk H2 (fun h => h)) 2).trans rfl
     have d3 : w'.cell? ⟨bx2, 3, none⟩ = some (.int .u32 c.key) := (blk_cell (hM.chg.blk H2 (fun h => h)) 3).trans rfl
     have d4 : w'.cell? ⟨bx2, 4, none⟩ = some (.int .u64 c.lo) := (blk_cell (hM.chg.blk H2 (fun h => h)) 4).trans rfl
     have d5 : w'.cell? ⟨bx2, 5, none⟩ = some (.int .u64 c.hi) := (blk_cell (hM.chg.blk H2 (fun h => h)) 5).trans rfl
     have d6 : w'.cell? ⟨bx2, 6, none⟩ = some (x6) := (blk_cell (hM.chg.blk H2 (fun h => h)) 6).trans rfl
     have d7 : w'.cell? ⟨bx2, 7, none⟩ = some (x7) := (blk_cell (hM.chg.blk H2 (fun h => h)) 7).trans rfl
     have d8 : w'.cell? ⟨bx2, 8, none⟩ = some (x8) := (blk_cell (hM.chg.blk H2 (fun h => h)) 8).trans rfl
     have d9 : w'.cell? ⟨bx2, 9, none⟩ = some (x9) := (blk_cell (hM.chg.blk H2 (fun h => h)) 9).trans rfl
     have hu := Try.underlying28
     have hv_25 := Try.underlying25
     exact ov  (hK _ _ (Rl.refl _ _) trivial rfl)
    ·refine stiy 2 rfl rfl rfl rfl rfl rfl rfl rfl rfl rfl rfl fun a w' hM hI hoff hp K hK => ?_
     obtain ⟨_, e16, rfl⟩ := hp 3 rfl 16 _ rfl rfl
     clear hoff hp
     refine op_call Try.func8 (by kernel_rfl) rfl #[.agg #[.int .i64 c.fr, .int .i64 c.tt, .int .u32 c.tid, .int .u32 c.key, .int .u64 c.lo, .int .u64 c.hi, x6, x7, x8, x9]] rfl (by simp [Act.eval, e16]) (big_calls c _ (decide_eq_false hbig) _ _ ⟨_, _, _, _, rfl, (g6.keep hM.keep).lower (Nat.zero_le _), (g7.keep hM.keep).lower (Nat.zero_le _), (g8.keep hM.keep).lower (Nat.zero_le _), (g9.keep hM.keep).lower (Nat.zero_le _)⟩) ?_
     rintro e w1 ⟨u, rfl, hR, hb⟩
     exact ⟨u, rfl, hK _ _ (Rl.of_below hb) trivial hR⟩
    ·refine sti rfl rfl rfl rfl rfl rfl rfl fun a w' hM hI hoff hp K hK => ?_
     obtain ⟨_, e15, rfl⟩ := hp 2 rfl 15 _ rfl rfl
     obtain ⟨_, e17, rfl⟩ := hp 4 rfl 17 _ rfl rfl
     clear hoff hp
     exact ov  (hK _ _ (Rl.refl _ _) trivial rfl)
    ·refine sti rfl rfl rfl rfl rfl rfl rfl fun a w' hM hI hoff hp K hK => ?_
     obtain ⟨_, e18, rfl⟩ := hp 5 rfl 18 _ rfl rfl
     clear hoff hp
     exact ov  (hK _ _ (Rl.refl _ _) trivial rfl)
    ·refine stiy 6 rfl rfl rfl rfl rfl rfl rfl rfl rfl rfl rfl fun a w' hM hI hoff hp K hK => ?_
     have e1 : a.tmps[1]? = some (v2) := (hoff 1 rfl).trans e1
     clear hoff hp
     exact ov  (hK _ _ (Rl.refl _ _) trivial rfl)
    ·refine stiy 6 rfl rfl rfl rfl rfl rfl rfl rfl rfl rfl rfl fun a w' hM hI hoff hp K hK => ?_
     obtain ⟨v20, e20, ev20⟩ := hp 7 rfl 20 _ rfl rfl
     replace e20 : a.tmps[20]? = some (v2) := e20.trans (congrArg some (show v20 = v2 from ev20))
     clear ev20 v20
     clear hoff hp
     have hlen := row_len (P := Try.prog) (hw.keep hM.keep) ⟨_, Try.underlying26⟩
     exact ov  (hK _ _ (Rl.refl _ _) trivial rfl)
    ·refine stiy 6 rfl rfl rfl rfl rfl rfl rfl rfl rfl rfl rfl fun a w' hM hI hoff hp K hK => ?_
     obtain ⟨_, e21, rfl⟩ := hp 8 rfl 21 _ rfl rfl
     clear hoff hp
     have q1 : decide ((90000 : Int) < (l.length : Int)) = false := by rw [decide_eq_false_iff_not]; omega
     exact ov  (hK _ _ (Rl.refl _ _) trivial rfl)
    ·refine sti rfl rfl rfl rfl rfl rfl rfl fun a w' hM hI hoff hp K hK => ?_
     obtain ⟨_, e19, rfl⟩ := hp 6 rfl 19 _ rfl rfl
     obtain ⟨_, e22, rfl⟩ := hp 9 rfl 22 _ rfl rfl
     clear hoff hp
     exact ov  (hK _ _ (Rl.refl _ _) trivial rfl)
   intro a6 w6 sz1 df1 hoff hvv hRl hJ
   replace H2 := hRl.chg.blk H2 (fun h => h.elim)
   replace hw := hw.keep hRl.keep
   replace g6 := g6.keep hRl.keep
   replace g7 := g7.keep hRl.keep
   replace g8 := g8.keep hRl.keep
   replace g9 := g9.keep hRl.keep
   replace CH := CH.trans hRl.chg (fun _ _ h => h.elim)
   replace K8 := K8.trans hRl.keep
   obtain ⟨_, e23, rfl⟩ := hvv 10 _ _ rfl rfl
   replace e0 := (hoff 0 rfl).trans e0
   replace e1 := (hoff 1 rfl).trans e1
   replace e2 := (hoff 2 rfl).trans e2
   replace e4 := (hoff 4 rfl).trans e4
   replace sz := sz1
   replace df := df1.trans df
   have Zw6 : w.heap.size ≤ w6.heap.size := CH.size
   clear sz1 df1 hoff hvv hRl hJ
   refine wpo_all rfl ?_
   refine hKK3 _ _ ?_
   refine wp_cond_false (ev e23) ?_
   refine wp_skip ?_
   refine hKK2 _ _ ?_
   refine wp_seq_k fun KK6 hKK6 => ?_
   have hJ6 : ∀ (a_ : Act) (w_ : World), (Sz a_ 67) → (a_.defers = []) → (a_.tmps[1]? = some (v2)) → (w_.heap[bx2]? = some (.cells #[.int .i64 c.fr, .int .i64 c.tt, .int .u32 c.tid, .int .u32 c.key, .int .u64 c.lo, .int .u64 c.hi, x6, x7, x8, x9] 28 (0, 0))) → (Row 0 w_ v2 l) → (Row 0 w_ x6 c.pub) → (Row 0 w_ x7 c.ct) → (Row 0 w_ x8 c.sl) → (Row 0 w_ x9 c.sig) → (Chg (fun _ => False) w w_) → (Keep8 w w_) → KK6 a_ w_ := by
    clear sz df e1 H2 hw g6 g7 g8 g9 CH K8
    intro a7 w7 sz df e1 H2 hw g6 g7 g8 g9 CH K8
    refine hKK6 _ _ ?_
    have Zw7 : w.heap.size ≤ w7.heap.size := CH.size
    refine wp_seq_k fun KK7 hKK7 => ?_
    rcases hlr (by omega) with ⟨d, hod, hmd, ds, ds2, ds3, ds4, hld, hget⟩ | hget
    ·skip
     have L8_x2 := blk_lt H2
     refine raI (S := fun _ => False) 67 6 sz [46, 47, 45, 48, 49, 9] [isV (v2), isPair (isCapB w7.heap.size d) (.int .i64 0), isPair (isCapB w7.heap.size d) (.int .i64 0), isCapB w7.heap.size d, isV (.int .i64 0), isBoxC w7.heap.size #[.int .i64 0, .int .i64 0, .int .u32 0, .int .u32 0, .int .u64 0, .int .u64 0, .slice none 0 0, .slice none 0 0, .slice none 0 0, .slice none 0 0] 28] [Tr, Tr, Tr, Tr, Tr, Tr, Tr] rfl (by decide) (by decide) (by decide) ?_ ?_ ?_ ?_
     · intro J hJ; cases hJ; exact trivial
     · exact (sr_cons (sr_V _ _) (sr_cons (sr_Pair (sr_CapB _ _ _) _) (sr_cons (sr_Pair (sr_CapB _ _ _) _) (sr_cons (sr_CapB _ _ _) (sr_cons (sr_V _ _) (sr_cons (sr_BoxS _ _ _ (fun _ _ h => h)) (sr_nil _)))))))
     ·refine sti_cons ?_ (sti_cons ?_ (sti_cons ?_ (sti_cons ?_ (sti_cons ?_ (sti_cons ?_ sti_nil)))))
      ·refine sti rfl rfl rfl rfl rfl rfl rfl fun a w' hM hI hoff hp K hK => ?_
       have e1 : a.tmps[1]? = some (v2) := (hoff 1 rfl).trans e1
       clear hoff hp
       exact ov  (hK _ _ (Rl.refl _ _) trivial rfl)
      ·refine sti rfl rfl rfl rfl rfl rfl rfl fun a w' hM hI hoff hp K hK => ?_
       obtain ⟨v46, e46, ev46⟩ := hp 0 rfl 46 _ rfl rfl
       replace e46 : a.tmps[46]? = some (v2) := e46.trans (congrArg some (show v46 = v2 from ev46))
       clear ev46 v46
       clear hoff hp
       refine op_call Try.func21 (by kernel_rfl) rfl #[v2] rfl (by simp [Act.eval, e46]) (hget _ _ ((hw.keep hM.keep).lower (Nat.zero_le _))) ?_
       rintro e w1 ⟨u, rfl, hR, hb⟩
       exact ⟨u, rfl, hK _ _ (Rl.of_below hb) trivial (let ⟨u_, h1_, h2_⟩ := hR; ⟨u_, h1_, CapV.lower h2_ hM.keep.size⟩)⟩
      ·refine sti rfl rfl rfl rfl rfl rfl rfl fun a w' hM hI hoff hp K hK => ?_
       obtain ⟨v47, e47, h47⟩ := hp 1 rfl 47 _ rfl rfl
       clear hoff hp
       exact ov  (hK _ _ (Rl.refl _ _) trivial h47)
      ·refine sti rfl rfl rfl rfl rfl rfl rfl fun a w' hM hI hoff hp K hK => ?_
       obtain ⟨v45, e45, h45⟩ := hp 2 rfl 45 _ rfl rfl
       clear hoff hp
       obtain ⟨u_, ev_, hR_⟩ := h45
       subst ev_
       exact ov  (hK _ _ (Rl.refl _ _) trivial hR_)
      ·refine sti rfl rfl rfl rfl rfl rfl rfl fun a w' hM hI hoff hp K hK => ?_
       obtain ⟨v45, e45, h45⟩ := hp 2 rfl 45 _ rfl rfl
       clear hoff hp
       obtain ⟨u_, ev_, hR_⟩ := h45
       subst ev_
       exact ov  (hK _ _ (Rl.refl _ _) trivial rfl)
      ·refine sti rfl rfl rfl rfl rfl rfl rfl fun a w' hM hI hoff hp K hK => ?_
       clear hoff hp
       refine op_alloc 28 #[.int .i64 0, .int .i64 0, .int .u32 0, .int .u32 0, .int .u64 0, .int .u64 0, .slice none 0 0, .slice none 0 0, .slice none 0 0, .slice none 0 0] rfl (by kernel_rfl) (hK _ _ (Rl.alloc _ _ _) trivial ⟨_, rfl, hM.keep.size, heap_new _ _⟩)
     intro a8 w8 sz1 df1 hoff hvv hRl hJ
     obtain ⟨v_, e9, bx9, z_, G8_9, H9⟩ := hvv 5 _ _ rfl rfl
     rw [z_] at e9
     clear z_
     have G9 : w.heap.size ≤ bx9 := Nat.le_trans CH.size G8_9
     have nex2_x9 := ne_new L8_x2 G8_9
     have nex9_x2 := new_ne L8_x2 G8_9
     replace H2 := hRl.chg.blk H2 (fun h => h.elim)
     replace hw := hw.keep hRl.keep
     replace g6 := g6.keep hRl.keep
     replace g7 := g7.keep hRl.keep
     replace g8 := g8.keep hRl.keep
     replace g9 := g9.keep hRl.keep
     replace CH := CH.trans hRl.chg (fun _ _ h => h.elim)
     replace K8 := K8.trans hRl.keep
     obtain ⟨_, e48, x48_6, x48_7, x48_8, x48_9, rfl, g48_6, g48_7, g48_8, g48_9⟩ := hvv 3 _ _ rfl rfl
     obtain ⟨_, e49, rfl⟩ := hvv 4 _ _ rfl rfl
     replace e1 := (hoff 1 rfl).trans e1
     replace sz := sz1
     replace df := df1.trans df
     have Zw8 : w.heap.size ≤ w8.heap.size := CH.size
     clear sz1 df1 hoff hvv hRl hJ L8_x2
     refine wpo_step 6 _ rfl rfl (og_plain rfl ?_)
     refine op_store_row 28 _ _ rfl bx9 #[.int .i64 d.fr, .int .i64 d.tt, .int .u32 d.tid, .int .u32 d.key, .int .u64 d.lo, .int .u64 d.hi, x48_6, x48_7, x48_8, x48_9] (ev e9) (ev e48) 28 _ H9 (by kernel_rfl) rfl (onel ⟨rfl, rfl, rfl, rfl, rfl, rfl, row_one g48_6, row_one g48_7, row_one g48_8, row_one g48_9, trivial⟩) (nbl ⟨rfl, rfl, rfl, rfl, rfl, rfl, rfl, rfl, rfl, rfl, trivial⟩) ?_
     intro w9 H_ hC hK
     change wpOps _ _ _ _ a8 w9
     replace H2 := hC.blk H2 nex2_x9
     replace hw := hw.keep hK
     replace g6 := g6.keep hK
     replace g7 := g7.keep hK
     replace g8 := g8.keep hK
     replace g9 := g9.keep hK
     replace g48_6 := g48_6.keep hK
     replace g48_7 := g48_7.keep hK
     replace g48_8 := g48_8.keep hK
     replace g48_9 := g48_9.keep hK
     replace CH := CH.trans hC (fun x hx h => (old_new hx G9 h).elim)
     replace K8 := K8.trans hK
     replace H9 : w9.heap[bx9]? = some (.cells #[.int .i64 d.fr, .int .i64 d.tt, .int .u32 d.tid, .int .u32 d.key, .int .u64 d.lo, .int .u64 d.hi, x48_6, x48_7, x48_8, x48_9] 28 (0, 0)) := H_
     clear hC hK
     have Zw9 : w.heap.size ≤ w9.heap.size := CH.size
     refine wpo_step 7 _ rfl rfl (og_plain rfl ?_)
     refine op_assign rfl (v := .int .i64 0) (ev e49) ?_
     refine abs_put (K := fun x => wpOps _ _ _ _ x _) (t := 10) sz (by decide) fun a10 sz1 df1 e_new hoff => ?_
     replace e1 := (hoff 1 rfl).trans e1
     replace e48 := (hoff 48 rfl).trans e48
     replace e49 := (hoff 49 rfl).trans e49
     replace e9 := (hoff 9 rfl).trans e9
     have e10 := e_new
     replace sz := sz1
     replace df := df1.trans df
     clear sz1 df1 hoff e_new
     refine wpo_all rfl ?_
     refine hKK7 _ _ ?_
     refine wp_seq_k fun KK8 hKK8 => ?_
     refine wp_seq_k fun KK9 hKK9 => ?_
     refine raI (S := fun _ => False) 67 2 sz [50, 51] [isV (.int .i64 0), isV (.bool false)] [Tr, Tr, Tr] rfl (by decide) (by decide) (by decide) ?_ ?_ ?_ ?_
     · intro J hJ; cases hJ; exact trivial
     · exact (sr_cons (sr_V _ _) (sr_cons (sr_V _ _) (sr_nil _)))
     ·refine sti_cons ?_ (sti_cons ?_ sti_nil)
      ·refine sti rfl rfl rfl rfl rfl rfl rfl fun a w' hM hI hoff hp K hK => ?_
       have e10 : a.tmps[10]? = some (.int .i64 0) := (hoff 10 rfl).trans e10
       clear hoff hp
       exact ov  (hK _ _ (Rl.refl _ _) trivial rfl)
      ·refine sti rfl rfl rfl rfl rfl rfl rfl fun a w' hM hI hoff hp K hK => ?_
       obtain ⟨_, e50, rfl⟩ := hp 0 rfl 50 _ rfl rfl
       clear hoff hp
       exact ov  (hK _ _ (Rl.refl _ _) trivial rfl)
     intro a11 w11 sz1 df1 hoff hvv hRl hJ
     replace H2 := hRl.chg.blk H2 (fun h => h.elim)
     replace H9 := hRl.chg.blk H9 (fun h => h.elim)
     replace hw := hw.keep hRl.keep
     replace g6 := g6.keep hRl.keep
     replace g7 := g7.keep hRl.keep
     replace g8 := g8.keep hRl.keep
     replace g9 := g9.keep hRl.keep
     replace g48_6 := g48_6.keep hRl.keep
     replace g48_7 := g48_7.keep hRl.keep
     replace g48_8 := g48_8.keep hRl.keep
     replace g48_9 := g48_9.keep hRl.keep
     replace CH := CH.trans hRl.chg (fun _ _ h => h.elim)
     replace K8 := K8.trans hRl.keep
     obtain ⟨_, e51, rfl⟩ := hvv 1 _ _ rfl rfl
     replace e1 := (hoff 1 rfl).trans e1
     replace e48 := (hoff 48 rfl).trans e48
     replace e49 := (hoff 49 rfl).trans e49
     replace e9 := (hoff 9 rfl).trans e9
     replace e10 := (hoff 10 rfl).trans e10
     replace sz := sz1
     replace df := df1.trans df
     have Zw11 : w.heap.size ≤ w11.heap.size := CH.size
     clear sz1 df1 hoff hvv hRl hJ
     refine wpo_all rfl ?_
     refine hKK9 _ _ ?_
     refine wp_cond_false (ev e51) ?_
     refine wp_skip ?_
     refine hKK8 _ _ ?_
     refine wp_seq_k fun KK10 hKK10 => ?_
     refine raI (S := fun _ => False) 67 7 sz [56, 57, 55, 58, 59, 11, 12] [isV (.agg #[.int .i64 d.fr, .int .i64 d.tt, .int .u32 d.tid, .int .u32 d.key, .int .u64 d.lo, .int .u64 d.hi, x48_6, x48_7, x48_8, x48_9]), isPair (isRow w11.heap.size (d.inner ++ d.sig)) (.int .i64 0), isPair (isRow w11.heap.size (d.inner ++ d.sig)) (.int .i64 0), isRow w11.heap.size (d.inner ++ d.sig), isV (.int .i64 0), isRow w11.heap.size (d.inner ++ d.sig), isV (.int .i64 0)] [Tr, Tr, Tr, Tr, Tr, Tr, Tr, Tr] rfl (by decide) (by decide) (by decide) ?_ ?_ ?_ ?_
     · intro J hJ; cases hJ; exact trivial
     · exact (sr_cons (sr_V _ _) (sr_cons (sr_Pair (sr_Row _ _ _) _) (sr_cons (sr_Pair (sr_Row _ _ _) _) (sr_cons (sr_Row _ _ _) (sr_cons (sr_V _ _) (sr_cons (sr_Row _ _ _) (sr_cons (sr_V _ _) (sr_nil _))))))))
     ·refine sti_cons ?_ (sti_cons ?_ (sti_cons ?_ (sti_cons ?_ (sti_cons ?_ (sti_cons ?_ (sti_cons ?_ sti_nil))))))
      ·refine sti rfl rfl rfl rfl rfl rfl rfl fun a w' hM hI hoff hp K hK => ?_
       have e9 : a.tmps[9]? = some (.pointer (some ⟨bx9, 0, none⟩)) := (hoff 9 rfl).trans e9
       clear hoff hp
       have d0 : w'.cell? ⟨bx9, 0, none⟩ = some (.int .i64 d.fr) := (blk_cell (hM.chg.blk H9 (fun h => h)) 0).trans rfl
       have d1 : w'.cell? ⟨bx9, 1, none⟩ = some (.int .i64 d.tt) := (blk_cell (hM.chg.blk H9 (fun h => h)) 1).trans rfl
       have d2 : w'.cell? ⟨bx9, 2, none⟩ = some (.int .u32 d.tid) := (blk_cell (hM.chg.blk H9 (fun h => h)) 2).trans rfl
       have d3 : w'.cell? ⟨bx9, 3, none⟩ = some (.int .u32 d.key) := (blk_cell (hM.chg.blk H9 (fun h => h)) 3).trans rfl
       have d4 : w'.cell? ⟨bx9, 4, none⟩ = some (.int .u64 d.lo) := (blk_cell (hM.chg.blk H9 (fun h => h)) 4).trans rfl
       have d5 : w'.cell? ⟨bx9, 5, none⟩ = some (.int .u64 d.hi) := (blk_cell (hM.chg.blk H9 (fun h => h)) 5).trans rfl
       have d6 : w'.cell? ⟨bx9, 6, none⟩ = some (x48_6) := (blk_cell (hM.chg.blk H9 (fun h => h)) 6).trans rfl
       have d7 : w'.cell? ⟨bx9, 7, none⟩ = some (x48_7) := (blk_cell (hM.chg.blk H9 (fun h => h)) 7).trans rfl
       have d8 : w'.cell? ⟨bx9, 8, none⟩ = some (x48_8) := (blk_cell (hM.chg.blk H9 (fun h => h)) 8).trans rfl
       have d9 : w'.cell? ⟨bx9, 9, none⟩ = some (x48_9) := (blk_cell (hM.chg.blk H9 (fun h => h)) 9).trans rfl
       have hu := Try.underlying28
       have hv_25 := Try.underlying25
       exact ov  (hK _ _ (Rl.refl _ _) trivial rfl)
      ·refine sti rfl rfl rfl rfl rfl rfl rfl fun a w' hM hI hoff hp K hK => ?_
       obtain ⟨_, e56, rfl⟩ := hp 0 rfl 56 _ rfl rfl
       clear hoff hp
       have h_ := put_calls d hod ds ds2 ds3 ds4 _ _ ⟨_, _, _, _, rfl, (g48_6.keep hM.keep).lower (Nat.zero_le _), (g48_7.keep hM.keep).lower (Nat.zero_le _), (g48_8.keep hM.keep).lower (Nat.zero_le _), (g48_9.keep hM.keep).lower (Nat.zero_le _)⟩
       rw [may_err hmd, show d.putl = d.inner ++ d.sig from if_pos hmd] at h_
       refine op_call Try.func13 (by kernel_rfl) rfl #[.agg #[.int .i64 d.fr, .int .i64 d.tt, .int .u32 d.tid, .int .u32 d.key, .int .u64 d.lo, .int .u64 d.hi, x48_6, x48_7, x48_8, x48_9]] rfl (by simp [Act.eval, e56]) h_ ?_
       rintro e w1 ⟨u, rfl, hR, hb⟩
       exact ⟨u, rfl, hK _ _ (Rl.of_below hb) trivial (let ⟨u_, h1_, h2_⟩ := hR; ⟨u_, h1_, h2_.lower hM.keep.size⟩)⟩
      ·refine sti rfl rfl rfl rfl rfl rfl rfl fun a w' hM hI hoff hp K hK => ?_
       obtain ⟨v57, e57, h57⟩ := hp 1 rfl 57 _ rfl rfl
       clear hoff hp
       exact ov  (hK _ _ (Rl.refl _ _) trivial h57)
      ·refine sti rfl rfl rfl rfl rfl rfl rfl fun a w' hM hI hoff hp K hK => ?_
       obtain ⟨v55, e55, h55⟩ := hp 2 rfl 55 _ rfl rfl
       clear hoff hp
       obtain ⟨u_, ev_, hR_⟩ := h55
       subst ev_
       exact ov  (hK _ _ (Rl.refl _ _) trivial hR_)
      ·refine sti rfl rfl rfl rfl rfl rfl rfl fun a w' hM hI hoff hp K hK => ?_
       obtain ⟨v55, e55, h55⟩ := hp 2 rfl 55 _ rfl rfl
       clear hoff hp
       obtain ⟨u_, ev_, hR_⟩ := h55
       subst ev_
       exact ov  (hK _ _ (Rl.refl _ _) trivial rfl)
      ·refine sti rfl rfl rfl rfl rfl rfl rfl fun a w' hM hI hoff hp K hK => ?_
       obtain ⟨v58, e58, h58⟩ := hp 3 rfl 58 _ rfl rfl
       clear hoff hp
       exact ov  (hK _ _ (Rl.refl _ _) trivial h58)
      ·refine sti rfl rfl rfl rfl rfl rfl rfl fun a w' hM hI hoff hp K hK => ?_
       obtain ⟨_, e59, rfl⟩ := hp 4 rfl 59 _ rfl rfl
       clear hoff hp
       exact ov  (hK _ _ (Rl.refl _ _) trivial rfl)
     intro a12 w12 sz1 df1 hoff hvv hRl hJ
     replace H2 := hRl.chg.blk H2 (fun h => h.elim)
     replace H9 := hRl.chg.blk H9 (fun h => h.elim)
     replace hw := hw.keep hRl.keep
     replace g6 := g6.keep hRl.keep
     replace g7 := g7.keep hRl.keep
     replace g8 := g8.keep hRl.keep
     replace g9 := g9.keep hRl.keep
     replace g48_6 := g48_6.keep hRl.keep
     replace g48_7 := g48_7.keep hRl.keep
     replace g48_8 := g48_8.keep hRl.keep
     replace g48_9 := g48_9.keep hRl.keep
     replace CH := CH.trans hRl.chg (fun _ _ h => h.elim)
     replace K8 := K8.trans hRl.keep
     obtain ⟨u11_12, e11, Kr11⟩ := hvv 5 _ _ rfl rfl
     replace Kr11 : Row w11.heap.size w12 u11_12 (d.inner ++ d.sig) := Kr11
     obtain ⟨_, e12, rfl⟩ := hvv 6 _ _ rfl rfl
     replace e1 := (hoff 1 rfl).trans e1
     replace e48 := (hoff 48 rfl).trans e48
     replace e49 := (hoff 49 rfl).trans e49
     replace e9 := (hoff 9 rfl).trans e9
     replace e10 := (hoff 10 rfl).trans e10
     replace e51 := (hoff 51 rfl).trans e51
     replace sz := sz1
     replace df := df1.trans df
     have Zw12 : w.heap.size ≤ w12.heap.size := CH.size
     clear sz1 df1 hoff hvv hRl hJ
     refine wpo_all rfl ?_
     refine hKK10 _ _ ?_
     refine wp_seq_k fun KK11 hKK11 => ?_
     refine raI (S := fun _ => False) 67 8 sz [60, 61, 62, 63, 64, 65, 66, 4] [isV (.int .i64 0), isV (.bool true), isV (.bool true), isV (u11_12), isV (v2), isV (.bool true), isV (.bool true), isV (.bool true)] [Tr, Tr, Tr, Tr, Tr, Tr, Tr, Tr, Tr] rfl (by decide) (by decide) (by decide) ?_ ?_ ?_ ?_
     · intro J hJ; cases hJ; exact trivial
     · exact (sr_cons (sr_V _ _) (sr_cons (sr_V _ _) (sr_cons (sr_V _ _) (sr_cons (sr_V _ _) (sr_cons (sr_V _ _) (sr_cons (sr_V _ _) (sr_cons (sr_V _ _) (sr_cons (sr_V _ _) (sr_nil _)))))))))
     ·refine sti_cons ?_ (sti_cons ?_ (sti_cons ?_ (sti_cons ?_ (sti_cons ?_ (sti_cons ?_ (sti_cons ?_ (sti_cons ?_ sti_nil)))))))
      ·refine sti rfl rfl rfl rfl rfl rfl rfl fun a w' hM hI hoff hp K hK => ?_
       have e12 : a.tmps[12]? = some (.int .i64 0) := (hoff 12 rfl).trans e12
       clear hoff hp
       exact ov  (hK _ _ (Rl.refl _ _) trivial rfl)
      ·refine sti rfl rfl rfl rfl rfl rfl rfl fun a w' hM hI hoff hp K hK => ?_
       obtain ⟨_, e60, rfl⟩ := hp 0 rfl 60 _ rfl rfl
       clear hoff hp
       exact ov  (hK _ _ (Rl.refl _ _) trivial rfl)
      ·refine sti rfl rfl rfl rfl rfl rfl rfl fun a w' hM hI hoff hp K hK => ?_
       obtain ⟨_, e61, rfl⟩ := hp 1 rfl 61 _ rfl rfl
       clear hoff hp
       exact ov  (hK _ _ (Rl.refl _ _) trivial rfl)
      ·refine stiy 2 rfl rfl rfl rfl rfl rfl rfl rfl rfl rfl rfl fun a w' hM hI hoff hp K hK => ?_
       have e11 : a.tmps[11]? = some (u11_12) := (hoff 11 rfl).trans e11
       clear hoff hp
       exact ov  (hK _ _ (Rl.refl _ _) trivial rfl)
      ·refine stiy 2 rfl rfl rfl rfl rfl rfl rfl rfl rfl rfl rfl fun a w' hM hI hoff hp K hK => ?_
       have e1 : a.tmps[1]? = some (v2) := (hoff 1 rfl).trans e1
       clear hoff hp
       exact ov  (hK _ _ (Rl.refl _ _) trivial rfl)
      ·refine stiy 2 rfl rfl rfl rfl rfl rfl rfl rfl rfl rfl rfl fun a w' hM hI hoff hp K hK => ?_
       obtain ⟨v63, e63, ev63⟩ := hp 3 rfl 63 _ rfl rfl
       replace e63 : a.tmps[63]? = some (u11_12) := e63.trans (congrArg some (show v63 = u11_12 from ev63))
       clear ev63 v63
       obtain ⟨v64, e64, ev64⟩ := hp 4 rfl 64 _ rfl rfl
       replace e64 : a.tmps[64]? = some (v2) := e64.trans (congrArg some (show v64 = v2 from ev64))
       clear ev64 v64
       clear hoff hp
       refine op_call Try.func11 (by kernel_rfl) rfl #[u11_12, v2] rfl (by simp [Act.eval, e63, e64]) (equal_calls _ _ (byt_app (inner_byt d hod) hod.sig) yl true (decide_eq_true hld) _ _ _ (Kr11.keep hM.keep) (hw.keep hM.keep)) ?_
       rintro e w1 ⟨u, rfl, hR, hb⟩
       exact ⟨u, rfl, hK _ _ (Rl.of_below hb) trivial hR⟩
      ·refine sti rfl rfl rfl rfl rfl rfl rfl fun a w' hM hI hoff hp K hK => ?_
       obtain ⟨_, e62, rfl⟩ := hp 2 rfl 62 _ rfl rfl
       obtain ⟨_, e65, rfl⟩ := hp 5 rfl 65 _ rfl rfl
       clear hoff hp
       exact ov  (hK _ _ (Rl.refl _ _) trivial rfl)
      ·refine sti rfl rfl rfl rfl rfl rfl rfl fun a w' hM hI hoff hp K hK => ?_
       obtain ⟨_, e66, rfl⟩ := hp 6 rfl 66 _ rfl rfl
       clear hoff hp
       exact ov  (hK _ _ (Rl.refl _ _) trivial rfl)
     intro a13 w13 sz1 df1 hoff hvv hRl hJ
     replace H2 := hRl.chg.blk H2 (fun h => h.elim)
     replace H9 := hRl.chg.blk H9 (fun h => h.elim)
     replace hw := hw.keep hRl.keep
     replace g6 := g6.keep hRl.keep
     replace g7 := g7.keep hRl.keep
     replace g8 := g8.keep hRl.keep
     replace g9 := g9.keep hRl.keep
     replace g48_6 := g48_6.keep hRl.keep
     replace g48_7 := g48_7.keep hRl.keep
     replace g48_8 := g48_8.keep hRl.keep
     replace g48_9 := g48_9.keep hRl.keep
     replace Kr11 := Kr11.keep hRl.keep
     replace CH := CH.trans hRl.chg (fun _ _ h => h.elim)
     replace K8 := K8.trans hRl.keep
     obtain ⟨_, e4, rfl⟩ := hvv 7 _ _ rfl rfl
     replace e1 := (hoff 1 rfl).trans e1
     replace e48 := (hoff 48 rfl).trans e48
     replace e49 := (hoff 49 rfl).trans e49
     replace e9 := (hoff 9 rfl).trans e9
     replace e10 := (hoff 10 rfl).trans e10
     replace e51 := (hoff 51 rfl).trans e51
     replace e11 := (hoff 11 rfl).trans e11
     replace e12 := (hoff 12 rfl).trans e12
     replace sz := sz1
     replace df := df1.trans df
     have Zw13 : w.heap.size ≤ w13.heap.size := CH.size
     clear sz1 df1 hoff hvv hRl hJ
     refine wpo_all rfl ?_
     refine hKK11 _ _ ?_
     refine wp_ret ?_
     exact ret1 rfl df e4 ⟨_, rfl, rfl, CH.below (fun _ _ h => h)⟩
    ·skip
     have L14_x2 := blk_lt H2
     refine raI (S := fun _ => False) 67 6 sz [46, 47, 45, 48, 49, 9] [isV (v2), isPair (isCapB w7.heap.size zeroCp) (.int .i64 230), isPair (isCapB w7.heap.size zeroCp) (.int .i64 230), isCapB w7.heap.size zeroCp, isV (.int .i64 230), isBoxC w7.heap.size #[.int .i64 0, .int .i64 0, .int .u32 0, .int .u32 0, .int .u64 0, .int .u64 0, .slice none 0 0, .slice none 0 0, .slice none 0 0, .slice none 0 0] 28] [Tr, Tr, Tr, Tr, Tr, Tr, Tr] rfl (by decide) (by decide) (by decide) ?_ ?_ ?_ ?_
     · intro J hJ; cases hJ; exact trivial
     · exact (sr_cons (sr_V _ _) (sr_cons (sr_Pair (sr_CapB _ _ _) _) (sr_cons (sr_Pair (sr_CapB _ _ _) _) (sr_cons (sr_CapB _ _ _) (sr_cons (sr_V _ _) (sr_cons (sr_BoxS _ _ _ (fun _ _ h => h)) (sr_nil _)))))))
     ·refine sti_cons ?_ (sti_cons ?_ (sti_cons ?_ (sti_cons ?_ (sti_cons ?_ (sti_cons ?_ sti_nil)))))
      ·refine sti rfl rfl rfl rfl rfl rfl rfl fun a w' hM hI hoff hp K hK => ?_
       have e1 : a.tmps[1]? = some (v2) := (hoff 1 rfl).trans e1
       clear hoff hp
       exact ov  (hK _ _ (Rl.refl _ _) trivial rfl)
      ·refine sti rfl rfl rfl rfl rfl rfl rfl fun a w' hM hI hoff hp K hK => ?_
       obtain ⟨v46, e46, ev46⟩ := hp 0 rfl 46 _ rfl rfl
       replace e46 : a.tmps[46]? = some (v2) := e46.trans (congrArg some (show v46 = v2 from ev46))
       clear ev46 v46
       clear hoff hp
       refine op_call Try.func21 (by kernel_rfl) rfl #[v2] rfl (by simp [Act.eval, e46]) (hget _ _ ((hw.keep hM.keep).lower (Nat.zero_le _))) ?_
       rintro e w1 ⟨u, rfl, hR, hb⟩
       exact ⟨u, rfl, hK _ _ (Rl.of_below hb) trivial (let ⟨u_, h1_, h2_⟩ := hR; ⟨u_, h1_, CapV.lower h2_ hM.keep.size⟩)⟩
      ·refine sti rfl rfl rfl rfl rfl rfl rfl fun a w' hM hI hoff hp K hK => ?_
       obtain ⟨v47, e47, h47⟩ := hp 1 rfl 47 _ rfl rfl
       clear hoff hp
       exact ov  (hK _ _ (Rl.refl _ _) trivial h47)
      ·refine sti rfl rfl rfl rfl rfl rfl rfl fun a w' hM hI hoff hp K hK => ?_
       obtain ⟨v45, e45, h45⟩ := hp 2 rfl 45 _ rfl rfl
       clear hoff hp
       obtain ⟨u_, ev_, hR_⟩ := h45
       subst ev_
       exact ov  (hK _ _ (Rl.refl _ _) trivial hR_)
      ·refine sti rfl rfl rfl rfl rfl rfl rfl fun a w' hM hI hoff hp K hK => ?_
       obtain ⟨v45, e45, h45⟩ := hp 2 rfl 45 _ rfl rfl
       clear hoff hp
       obtain ⟨u_, ev_, hR_⟩ := h45
       subst ev_
       exact ov  (hK _ _ (Rl.refl _ _) trivial rfl)
      ·refine sti rfl rfl rfl rfl rfl rfl rfl fun a w' hM hI hoff hp K hK => ?_
       clear hoff hp
       refine op_alloc 28 #[.int .i64 0, .int .i64 0, .int .u32 0, .int .u32 0, .int .u64 0, .int .u64 0, .slice none 0 0, .slice none 0 0, .slice none 0 0, .slice none 0 0] rfl (by kernel_rfl) (hK _ _ (Rl.alloc _ _ _) trivial ⟨_, rfl, hM.keep.size, heap_new _ _⟩)
     intro a14 w14 sz1 df1 hoff hvv hRl hJ
     obtain ⟨v_, e9, bx9, z_, G14_9, H9⟩ := hvv 5 _ _ rfl rfl
     rw [z_] at e9
     clear z_
     have G9 : w.heap.size ≤ bx9 := Nat.le_trans CH.size G14_9
     have nex2_x9 := ne_new L14_x2 G14_9
     have nex9_x2 := new_ne L14_x2 G14_9
     replace H2 := hRl.chg.blk H2 (fun h => h.elim)
     replace hw := hw.keep hRl.keep
     replace g6 := g6.keep hRl.keep
     replace g7 := g7.keep hRl.keep
     replace g8 := g8.keep hRl.keep
     replace g9 := g9.keep hRl.keep
     replace CH := CH.trans hRl.chg (fun _ _ h => h.elim)
     replace K8 := K8.trans hRl.keep
     obtain ⟨_, e48, x48_6, x48_7, x48_8, x48_9, rfl, g48_6, g48_7, g48_8, g48_9⟩ := hvv 3 _ _ rfl rfl
     obtain ⟨_, e49, rfl⟩ := hvv 4 _ _ rfl rfl
     replace e1 := (hoff 1 rfl).trans e1
     replace sz := sz1
     replace df := df1.trans df
     have Zw14 : w.heap.size ≤ w14.heap.size := CH.size
     clear sz1 df1 hoff hvv hRl hJ L14_x2
     refine wpo_step 6 _ rfl rfl (og_plain rfl ?_)
     refine op_store_row 28 _ _ rfl bx9 #[.int .i64 zeroCp.fr, .int .i64 zeroCp.tt, .int .u32 zeroCp.tid, .int .u32 zeroCp.key, .int .u64 zeroCp.lo, .int .u64 zeroCp.hi, x48_6, x48_7, x48_8, x48_9] (ev e9) (ev e48) 28 _ H9 (by kernel_rfl) rfl (onel ⟨rfl, rfl, rfl, rfl, rfl, rfl, row_one g48_6, row_one g48_7, row_one g48_8, row_one g48_9, trivial⟩) (nbl ⟨rfl, rfl, rfl, rfl, rfl, rfl, rfl, rfl, rfl, rfl, trivial⟩) ?_
     intro w15 H_ hC hK
     change wpOps _ _ _ _ a14 w15
     replace H2 := hC.blk H2 nex2_x9
     replace hw := hw.keep hK
     replace g6 := g6.keep hK
     replace g7 := g7.keep hK
     replace g8 := g8.keep hK
     replace g9 := g9.keep hK
     replace g48_6 := g48_6.keep hK
     replace g48_7 := g48_7.keep hK
     replace g48_8 := g48_8.keep hK
     replace g48_9 := g48_9.keep hK
     replace CH := CH.trans hC (fun x hx h => (old_new hx G9 h).elim)
     replace K8 := K8.trans hK
     replace H9 : w15.heap[bx9]? = some (.cells #[.int .i64 zeroCp.fr, .int .i64 zeroCp.tt, .int .u32 zeroCp.tid, .int .u32 zeroCp.key, .int .u64 zeroCp.lo, .int .u64 zeroCp.hi, x48_6, x48_7, x48_8, x48_9] 28 (0, 0)) := H_
     clear hC hK
     have Zw15 : w.heap.size ≤ w15.heap.size := CH.size
     refine wpo_step 7 _ rfl rfl (og_plain rfl ?_)
     refine op_assign rfl (v := .int .i64 230) (ev e49) ?_
     refine abs_put (K := fun x => wpOps _ _ _ _ x _) (t := 10) sz (by decide) fun a16 sz1 df1 e_new hoff => ?_
     replace e1 := (hoff 1 rfl).trans e1
     replace e48 := (hoff 48 rfl).trans e48
     replace e49 := (hoff 49 rfl).trans e49
     replace e9 := (hoff 9 rfl).trans e9
     have e10 := e_new
     replace sz := sz1
     replace df := df1.trans df
     clear sz1 df1 hoff e_new
     refine wpo_all rfl ?_
     refine hKK7 _ _ ?_
     refine wp_seq_k fun KK12 hKK12 => ?_
     refine wp_seq_k fun KK13 hKK13 => ?_
     refine raI (S := fun _ => False) 67 2 sz [50, 51] [isV (.int .i64 230), isV (.bool true)] [Tr, Tr, Tr] rfl (by decide) (by decide) (by decide) ?_ ?_ ?_ ?_
     · intro J hJ; cases hJ; exact trivial
     · exact (sr_cons (sr_V _ _) (sr_cons (sr_V _ _) (sr_nil _)))
     ·refine sti_cons ?_ (sti_cons ?_ sti_nil)
      ·refine sti rfl rfl rfl rfl rfl rfl rfl fun a w' hM hI hoff hp K hK => ?_
       have e10 : a.tmps[10]? = some (.int .i64 230) := (hoff 10 rfl).trans e10
       clear hoff hp
       exact ov  (hK _ _ (Rl.refl _ _) trivial rfl)
      ·refine sti rfl rfl rfl rfl rfl rfl rfl fun a w' hM hI hoff hp K hK => ?_
       obtain ⟨_, e50, rfl⟩ := hp 0 rfl 50 _ rfl rfl
       clear hoff hp
       exact ov  (hK _ _ (Rl.refl _ _) trivial rfl)
     intro a17 w17 sz1 df1 hoff hvv hRl hJ
     replace H2 := hRl.chg.blk H2 (fun h => h.elim)
     replace H9 := hRl.chg.blk H9 (fun h => h.elim)
     replace hw := hw.keep hRl.keep
     replace g6 := g6.keep hRl.keep
     replace g7 := g7.keep hRl.keep
     replace g8 := g8.keep hRl.keep
     replace g9 := g9.keep hRl.keep
     replace g48_6 := g48_6.keep hRl.keep
     replace g48_7 := g48_7.keep hRl.keep
     replace g48_8 := g48_8.keep hRl.keep
     replace g48_9 := g48_9.keep hRl.keep
     replace CH := CH.trans hRl.chg (fun _ _ h => h.elim)
     replace K8 := K8.trans hRl.keep
     obtain ⟨_, e51, rfl⟩ := hvv 1 _ _ rfl rfl
     replace e1 := (hoff 1 rfl).trans e1
     replace e48 := (hoff 48 rfl).trans e48
     replace e49 := (hoff 49 rfl).trans e49
     replace e9 := (hoff 9 rfl).trans e9
     replace e10 := (hoff 10 rfl).trans e10
     replace sz := sz1
     replace df := df1.trans df
     have Zw17 : w.heap.size ≤ w17.heap.size := CH.size
     clear sz1 df1 hoff hvv hRl hJ
     refine wpo_all rfl ?_
     refine hKK13 _ _ ?_
     refine wp_cond_true (ev e51) ?_
     refine wp_seq_k fun KK14 hKK14 => ?_
     refine raI (S := fun _ => False) 67 4 sz [52, 53, 54, 4] [isV (.agg #[.int .i64 zeroCp.fr, .int .i64 zeroCp.tt, .int .u32 zeroCp.tid, .int .u32 zeroCp.key, .int .u64 zeroCp.lo, .int .u64 zeroCp.hi, x48_6, x48_7, x48_8, x48_9]), isV (.agg #[.int .i64 0, .int .i64 0, .int .u32 0, .int .u32 0, .int .u64 0, .int .u64 0, .slice none 0 0, .slice none 0 0, .slice none 0 0, .slice none 0 0]), isV (.bool true), isV (.bool true)] [Tr, Tr, Tr, Tr, Tr] rfl (by decide) (by decide) (by decide) ?_ ?_ ?_ ?_
     · intro J hJ; cases hJ; exact trivial
     · exact (sr_cons (sr_V _ _) (sr_cons (sr_V _ _) (sr_cons (sr_V _ _) (sr_cons (sr_V _ _) (sr_nil _)))))
     ·refine sti_cons ?_ (sti_cons ?_ (sti_cons ?_ (sti_cons ?_ sti_nil)))
      ·refine sti rfl rfl rfl rfl rfl rfl rfl fun a w' hM hI hoff hp K hK => ?_
       have e9 : a.tmps[9]? = some (.pointer (some ⟨bx9, 0, none⟩)) := (hoff 9 rfl).trans e9
       clear hoff hp
       have d0 : w'.cell? ⟨bx9, 0, none⟩ = some (.int .i64 zeroCp.fr) := (blk_cell (hM.chg.blk H9 (fun h => h)) 0).trans rfl
       have d1 : w'.cell? ⟨bx9, 1, none⟩ = some (.int .i64 zeroCp.tt) := (blk_cell (hM.chg.blk H9 (fun h => h)) 1).trans rfl
       have d2 : w'.cell? ⟨bx9, 2, none⟩ = some (.int .u32 zeroCp.tid) := (blk_cell (hM.chg.blk H9 (fun h => h)) 2).trans rfl
       have d3 : w'.cell? ⟨bx9, 3, none⟩ = some (.int .u32 zeroCp.key) := (blk_cell (hM.chg.blk H9 (fun h => h)) 3).trans rfl
       have d4 : w'.cell? ⟨bx9, 4, none⟩ = some (.int .u64 zeroCp.lo) := (blk_cell (hM.chg.blk H9 (fun h => h)) 4).trans rfl
       have d5 : w'.cell? ⟨bx9, 5, none⟩ = some (.int .u64 zeroCp.hi) := (blk_cell (hM.chg.blk H9 (fun h => h)) 5).trans rfl
       have d6 : w'.cell? ⟨bx9, 6, none⟩ = some (x48_6) := (blk_cell (hM.chg.blk H9 (fun h => h)) 6).trans rfl
       have d7 : w'.cell? ⟨bx9, 7, none⟩ = some (x48_7) := (blk_cell (hM.chg.blk H9 (fun h => h)) 7).trans rfl
       have d8 : w'.cell? ⟨bx9, 8, none⟩ = some (x48_8) := (blk_cell (hM.chg.blk H9 (fun h => h)) 8).trans rfl
       have d9 : w'.cell? ⟨bx9, 9, none⟩ = some (x48_9) := (blk_cell (hM.chg.blk H9 (fun h => h)) 9).trans rfl
       have hu := Try.underlying28
       have hv_25 := Try.underlying25
       exact ov  (hK _ _ (Rl.refl _ _) trivial rfl)
      ·refine sti rfl rfl rfl rfl rfl rfl rfl fun a w' hM hI hoff hp K hK => ?_
       clear hoff hp
       have hu := Try.underlying28
       have hv_25 := Try.underlying25
       exact ov  (hK _ _ (Rl.refl _ _) trivial rfl)
      ·refine sti rfl rfl rfl rfl rfl rfl rfl fun a w' hM hI hoff hp K hK => ?_
       obtain ⟨_, e52, rfl⟩ := hp 0 rfl 52 _ rfl rfl
       obtain ⟨_, e53, rfl⟩ := hp 1 rfl 53 _ rfl rfl
       clear hoff hp
       refine op_call Try.func19 (by kernel_rfl) rfl #[.agg #[.int .i64 zeroCp.fr, .int .i64 zeroCp.tt, .int .u32 zeroCp.tid, .int .u32 zeroCp.key, .int .u64 zeroCp.lo, .int .u64 zeroCp.hi, x48_6, x48_7, x48_8, x48_9], .agg #[.int .i64 0, .int .i64 0, .int .u32 0, .int .u32 0, .int .u64 0, .int .u64 0, .slice none 0 0, .slice none 0 0, .slice none 0 0, .slice none 0 0]] rfl (by simp [Act.eval, e52, e53]) (refSame_self zeroCp zeroCp_ok _ _ _ ⟨_, _, _, _, rfl, (g48_6.keep hM.keep).lower (Nat.zero_le _), (g48_7.keep hM.keep).lower (Nat.zero_le _), (g48_8.keep hM.keep).lower (Nat.zero_le _), (g48_9.keep hM.keep).lower (Nat.zero_le _)⟩ ⟨_, _, _, _, rfl, Row.nil _ _, Row.nil _ _, Row.nil _ _, Row.nil _ _⟩) ?_
       rintro e w1 ⟨u, rfl, hR, hb⟩
       exact ⟨u, rfl, hK _ _ (Rl.of_below hb) trivial hR⟩
      ·refine sti rfl rfl rfl rfl rfl rfl rfl fun a w' hM hI hoff hp K hK => ?_
       obtain ⟨_, e54, rfl⟩ := hp 2 rfl 54 _ rfl rfl
       clear hoff hp
       exact ov  (hK _ _ (Rl.refl _ _) trivial rfl)
     intro a18 w18 sz1 df1 hoff hvv hRl hJ
     replace H2 := hRl.chg.blk H2 (fun h => h.elim)
     replace H9 := hRl.chg.blk H9 (fun h => h.elim)
     replace hw := hw.keep hRl.keep
     replace g6 := g6.keep hRl.keep
     replace g7 := g7.keep hRl.keep
     replace g8 := g8.keep hRl.keep
     replace g9 := g9.keep hRl.keep
     replace g48_6 := g48_6.keep hRl.keep
     replace g48_7 := g48_7.keep hRl.keep
     replace g48_8 := g48_8.keep hRl.keep
     replace g48_9 := g48_9.keep hRl.keep
     replace CH := CH.trans hRl.chg (fun _ _ h => h.elim)
     replace K8 := K8.trans hRl.keep
     obtain ⟨_, e4, rfl⟩ := hvv 3 _ _ rfl rfl
     replace e1 := (hoff 1 rfl).trans e1
     replace e48 := (hoff 48 rfl).trans e48
     replace e49 := (hoff 49 rfl).trans e49
     replace e9 := (hoff 9 rfl).trans e9
     replace e10 := (hoff 10 rfl).trans e10
     replace e51 := (hoff 51 rfl).trans e51
     replace sz := sz1
     replace df := df1.trans df
     have Zw18 : w.heap.size ≤ w18.heap.size := CH.size
     clear sz1 df1 hoff hvv hRl hJ
     refine wpo_all rfl ?_
     refine hKK14 _ _ ?_
     refine wp_ret ?_
     refine then_r ?_
     exact ret1 rfl df e4 ⟨_, rfl, rfl, CH.below (fun _ _ h => h)⟩
   refine wp_seq_k fun KK15 hKK15 => ?_
   by_cases hmc : c.May
   ·skip
    obtain hgetc := hc hmc (by omega)
    have hs : c.pub.length < 65536 := by omega
    have hs2 : c.sl.length < 65536 := by omega
    have hs3 : c.ct.length < 65536 := by omega
    have hs4 : c.sig.length < 65536 := by omega
    refine raI (S := fun _ => False) 67 7 sz [26, 27, 25, 28, 29, 5, 6] [isV (.agg #[.int .i64 c.fr, .int .i64 c.tt, .int .u32 c.tid, .int .u32 c.key, .int .u64 c.lo, .int .u64 c.hi, x6, x7, x8, x9]), isPair (isRow w6.heap.size (c.inner ++ c.sig)) (.int .i64 0), isPair (isRow w6.heap.size (c.inner ++ c.sig)) (.int .i64 0), isRow w6.heap.size (c.inner ++ c.sig), isV (.int .i64 0), isRow w6.heap.size (c.inner ++ c.sig), isV (.int .i64 0)] [Tr, Tr, Tr, Tr, Tr, Tr, Tr, Tr] rfl (by decide) (by decide) (by decide) ?_ ?_ ?_ ?_
    · intro J hJ; cases hJ; exact trivial
    · exact (sr_cons (sr_V _ _) (sr_cons (sr_Pair (sr_Row _ _ _) _) (sr_cons (sr_Pair (sr_Row _ _ _) _) (sr_cons (sr_Row _ _ _) (sr_cons (sr_V _ _) (sr_cons (sr_Row _ _ _) (sr_cons (sr_V _ _) (sr_nil _))))))))
    ·refine sti_cons ?_ (sti_cons ?_ (sti_cons ?_ (sti_cons ?_ (sti_cons ?_ (sti_cons ?_ (sti_cons ?_ sti_nil))))))
     ·refine sti rfl rfl rfl rfl rfl rfl rfl fun a w' hM hI hoff hp K hK => ?_
      have e2 : a.tmps[2]? = some (.pointer (some ⟨bx2, 0, none⟩)) := (hoff 2 rfl).trans e2
      clear hoff hp
      have d0 : w'.cell? ⟨bx2, 0, none⟩ = some (.int .i64 c.fr) := (blk_cell (hM.chg.blk H2 (fun h => h)) 0).trans rfl
      have d1 : w'.cell? ⟨bx2, 1, none⟩ = some (.int .i64 c.tt) := (blk_cell (hM.chg.blk H2 (fun h => h)) 1).trans rfl
      have d2 : w'.cell? ⟨bx2, 2, none⟩ = some (.int .u32 c.tid) := (blk_cell (hM.chg.blk H2 (fun h => h)) 2).trans rfl
      have d3 : w'.cell? ⟨bx2, 3, none⟩ = some (.int .u32 c.key) := (blk_cell (hM.chg.blk H2 (fun h => h)) 3).trans rfl
      have d4 : w'.cell? ⟨bx2, 4, none⟩ = some (.int .u64 c.lo) := (blk_cell (hM.chg.blk H2 (fun h => h)) 4).trans rfl
      have d5 : w'.cell? ⟨bx2, 5, none⟩ = some (.int .u64 c.hi) := (blk_cell (hM.chg.blk H2 (fun h => h)) 5).trans rfl
      have d6 : w'.cell? ⟨bx2, 6, none⟩ = some (x6) := (blk_cell (hM.chg.blk H2 (fun h => h)) 6).trans rfl
      have d7 : w'.cell? ⟨bx2, 7, none⟩ = some (x7) := (blk_cell (hM.chg.blk H2 (fun h => h)) 7).trans rfl
      have d8 : w'.cell? ⟨bx2, 8, none⟩ = some (x8) := (blk_cell (hM.chg.blk H2 (fun h => h)) 8).trans rfl
      have d9 : w'.cell? ⟨bx2, 9, none⟩ = some (x9) := (blk_cell (hM.chg.blk H2 (fun h => h)) 9).trans rfl
      have hu := Try.underlying28
      have hv_25 := Try.underlying25
      exact ov  (hK _ _ (Rl.refl _ _) trivial rfl)
     ·refine sti rfl rfl rfl rfl rfl rfl rfl fun a w' hM hI hoff hp K hK => ?_
      obtain ⟨_, e26, rfl⟩ := hp 0 rfl 26 _ rfl rfl
      clear hoff hp
      have h_ := put_calls c ho hs hs2 hs3 hs4 _ _ ⟨_, _, _, _, rfl, (g6.keep hM.keep).lower (Nat.zero_le _), (g7.keep hM.keep).lower (Nat.zero_le _), (g8.keep hM.keep).lower (Nat.zero_le _), (g9.keep hM.keep).lower (Nat.zero_le _)⟩
      rw [may_err hmc, show c.putl = c.inner ++ c.sig from if_pos hmc] at h_
      refine op_call Try.func13 (by kernel_rfl) rfl #[.agg #[.int .i64 c.fr, .int .i64 c.tt, .int .u32 c.tid, .int .u32 c.key, .int .u64 c.lo, .int .u64 c.hi, x6, x7, x8, x9]] rfl (by simp [Act.eval, e26]) h_ ?_
      rintro e w1 ⟨u, rfl, hR, hb⟩
      exact ⟨u, rfl, hK _ _ (Rl.of_below hb) trivial (let ⟨u_, h1_, h2_⟩ := hR; ⟨u_, h1_, h2_.lower hM.keep.size⟩)⟩
     ·refine sti rfl rfl rfl rfl rfl rfl rfl fun a w' hM hI hoff hp K hK => ?_
      obtain ⟨v27, e27, h27⟩ := hp 1 rfl 27 _ rfl rfl
      clear hoff hp
      exact ov  (hK _ _ (Rl.refl _ _) trivial h27)
     ·refine sti rfl rfl rfl rfl rfl rfl rfl fun a w' hM hI hoff hp K hK => ?_
      obtain ⟨v25, e25, h25⟩ := hp 2 rfl 25 _ rfl rfl
      clear hoff hp
      obtain ⟨u_, ev_, hR_⟩ := h25
      subst ev_
      exact ov  (hK _ _ (Rl.refl _ _) trivial hR_)
     ·refine sti rfl rfl rfl rfl rfl rfl rfl fun a w' hM hI hoff hp K hK => ?_
      obtain ⟨v25, e25, h25⟩ := hp 2 rfl 25 _ rfl rfl
      clear hoff hp
      obtain ⟨u_, ev_, hR_⟩ := h25
      subst ev_
      exact ov  (hK _ _ (Rl.refl _ _) trivial rfl)
     ·refine sti rfl rfl rfl rfl rfl rfl rfl fun a w' hM hI hoff hp K hK => ?_
      obtain ⟨v28, e28, h28⟩ := hp 3 rfl 28 _ rfl rfl
      clear hoff hp
      exact ov  (hK _ _ (Rl.refl _ _) trivial h28)
     ·refine sti rfl rfl rfl rfl rfl rfl rfl fun a w' hM hI hoff hp K hK => ?_
      obtain ⟨_, e29, rfl⟩ := hp 4 rfl 29 _ rfl rfl
      clear hoff hp
      exact ov  (hK _ _ (Rl.refl _ _) trivial rfl)
    intro a19 w19 sz1 df1 hoff hvv hRl hJ
    replace H2 := hRl.chg.blk H2 (fun h => h.elim)
    replace hw := hw.keep hRl.keep
    replace g6 := g6.keep hRl.keep
    replace g7 := g7.keep hRl.keep
    replace g8 := g8.keep hRl.keep
    replace g9 := g9.keep hRl.keep
    replace CH := CH.trans hRl.chg (fun _ _ h => h.elim)
    replace K8 := K8.trans hRl.keep
    obtain ⟨u5_19, e5, Kr5⟩ := hvv 5 _ _ rfl rfl
    replace Kr5 : Row w6.heap.size w19 u5_19 (c.inner ++ c.sig) := Kr5
    obtain ⟨_, e6, rfl⟩ := hvv 6 _ _ rfl rfl
    replace e0 := (hoff 0 rfl).trans e0
    replace e1 := (hoff 1 rfl).trans e1
    replace e2 := (hoff 2 rfl).trans e2
    replace e4 := (hoff 4 rfl).trans e4
    replace e23 := (hoff 23 rfl).trans e23
    replace sz := sz1
    replace df := df1.trans df
    have Zw19 : w.heap.size ≤ w19.heap.size := CH.size
    clear sz1 df1 hoff hvv hRl hJ
    refine wpo_all rfl ?_
    refine hKK15 _ _ ?_
    refine wp_seq_k fun KK16 hKK16 => ?_
    refine raI (S := fun _ => False) 67 2 sz [30, 31] [isV (.int .i64 0), isV (.bool true)] [Tr, Tr, Tr] rfl (by decide) (by decide) (by decide) ?_ ?_ ?_ ?_
    · intro J hJ; cases hJ; exact trivial
    · exact (sr_cons (sr_V _ _) (sr_cons (sr_V _ _) (sr_nil _)))
    ·refine sti_cons ?_ (sti_cons ?_ sti_nil)
     ·refine sti rfl rfl rfl rfl rfl rfl rfl fun a w' hM hI hoff hp K hK => ?_
      have e6 : a.tmps[6]? = some (.int .i64 0) := (hoff 6 rfl).trans e6
      clear hoff hp
      exact ov  (hK _ _ (Rl.refl _ _) trivial rfl)
     ·refine sti rfl rfl rfl rfl rfl rfl rfl fun a w' hM hI hoff hp K hK => ?_
      obtain ⟨_, e30, rfl⟩ := hp 0 rfl 30 _ rfl rfl
      clear hoff hp
      exact ov  (hK _ _ (Rl.refl _ _) trivial rfl)
    intro a20 w20 sz1 df1 hoff hvv hRl hJ
    replace H2 := hRl.chg.blk H2 (fun h => h.elim)
    replace hw := hw.keep hRl.keep
    replace g6 := g6.keep hRl.keep
    replace g7 := g7.keep hRl.keep
    replace g8 := g8.keep hRl.keep
    replace g9 := g9.keep hRl.keep
    replace Kr5 := Kr5.keep hRl.keep
    replace CH := CH.trans hRl.chg (fun _ _ h => h.elim)
    replace K8 := K8.trans hRl.keep
    obtain ⟨_, e31, rfl⟩ := hvv 1 _ _ rfl rfl
    replace e0 := (hoff 0 rfl).trans e0
    replace e1 := (hoff 1 rfl).trans e1
    replace e2 := (hoff 2 rfl).trans e2
    replace e4 := (hoff 4 rfl).trans e4
    replace e23 := (hoff 23 rfl).trans e23
    replace e5 := (hoff 5 rfl).trans e5
    replace e6 := (hoff 6 rfl).trans e6
    replace sz := sz1
    replace df := df1.trans df
    have Zw20 : w.heap.size ≤ w20.heap.size := CH.size
    clear sz1 df1 hoff hvv hRl hJ
    refine wpo_all rfl ?_
    refine hKK16 _ _ ?_
    refine wp_cond_true (ev e31) ?_
    refine wp_seq_k fun KK17 hKK17 => ?_
    have L21_x2 := blk_lt H2
    refine raI (S := fun _ => False) 67 6 sz [33, 34, 32, 35, 36, 7] [isV (u5_19), isPair (isCapB w20.heap.size c) (.int .i64 0), isPair (isCapB w20.heap.size c) (.int .i64 0), isCapB w20.heap.size c, isV (.int .i64 0), isBoxC w20.heap.size #[.int .i64 0, .int .i64 0, .int .u32 0, .int .u32 0, .int .u64 0, .int .u64 0, .slice none 0 0, .slice none 0 0, .slice none 0 0, .slice none 0 0] 28] [Tr, Tr, Tr, Tr, Tr, Tr, Tr] rfl (by decide) (by decide) (by decide) ?_ ?_ ?_ ?_
    · intro J hJ; cases hJ; exact trivial
    · exact (sr_cons (sr_V _ _) (sr_cons (sr_Pair (sr_CapB _ _ _) _) (sr_cons (sr_Pair (sr_CapB _ _ _) _) (sr_cons (sr_CapB _ _ _) (sr_cons (sr_V _ _) (sr_cons (sr_BoxS _ _ _ (fun _ _ h => h)) (sr_nil _)))))))
    ·refine sti_cons ?_ (sti_cons ?_ (sti_cons ?_ (sti_cons ?_ (sti_cons ?_ (sti_cons ?_ sti_nil)))))
     ·refine sti rfl rfl rfl rfl rfl rfl rfl fun a w' hM hI hoff hp K hK => ?_
      have e5 : a.tmps[5]? = some (u5_19) := (hoff 5 rfl).trans e5
      clear hoff hp
      exact ov  (hK _ _ (Rl.refl _ _) trivial rfl)
     ·refine sti rfl rfl rfl rfl rfl rfl rfl fun a w' hM hI hoff hp K hK => ?_
      obtain ⟨v33, e33, ev33⟩ := hp 0 rfl 33 _ rfl rfl
      replace e33 : a.tmps[33]? = some (u5_19) := e33.trans (congrArg some (show v33 = u5_19 from ev33))
      clear ev33 v33
      clear hoff hp
      refine op_call Try.func21 (by kernel_rfl) rfl #[u5_19] rfl (by simp [Act.eval, e33]) (hgetc _ _ ((Kr5.keep hM.keep).lower (Nat.zero_le _))) ?_
      rintro e w1 ⟨u, rfl, hR, hb⟩
      exact ⟨u, rfl, hK _ _ (Rl.of_below hb) trivial (let ⟨u_, h1_, h2_⟩ := hR; ⟨u_, h1_, CapV.lower h2_ hM.keep.size⟩)⟩
     ·refine sti rfl rfl rfl rfl rfl rfl rfl fun a w' hM hI hoff hp K hK => ?_
      obtain ⟨v34, e34, h34⟩ := hp 1 rfl 34 _ rfl rfl
      clear hoff hp
      exact ov  (hK _ _ (Rl.refl _ _) trivial h34)
     ·refine sti rfl rfl rfl rfl rfl rfl rfl fun a w' hM hI hoff hp K hK => ?_
      obtain ⟨v32, e32, h32⟩ := hp 2 rfl 32 _ rfl rfl
      clear hoff hp
      obtain ⟨u_, ev_, hR_⟩ := h32
      subst ev_
      exact ov  (hK _ _ (Rl.refl _ _) trivial hR_)
     ·refine sti rfl rfl rfl rfl rfl rfl rfl fun a w' hM hI hoff hp K hK => ?_
      obtain ⟨v32, e32, h32⟩ := hp 2 rfl 32 _ rfl rfl
      clear hoff hp
      obtain ⟨u_, ev_, hR_⟩ := h32
      subst ev_
      exact ov  (hK _ _ (Rl.refl _ _) trivial rfl)
     ·refine sti rfl rfl rfl rfl rfl rfl rfl fun a w' hM hI hoff hp K hK => ?_
      clear hoff hp
      refine op_alloc 28 #[.int .i64 0, .int .i64 0, .int .u32 0, .int .u32 0, .int .u64 0, .int .u64 0, .slice none 0 0, .slice none 0 0, .slice none 0 0, .slice none 0 0] rfl (by kernel_rfl) (hK _ _ (Rl.alloc _ _ _) trivial ⟨_, rfl, hM.keep.size, heap_new _ _⟩)
    intro a21 w21 sz1 df1 hoff hvv hRl hJ
    obtain ⟨v_, e7, bx7, z_, G21_7, H7⟩ := hvv 5 _ _ rfl rfl
    rw [z_] at e7
    clear z_
    have G7 : w.heap.size ≤ bx7 := Nat.le_trans CH.size G21_7
    have nex2_x7 := ne_new L21_x2 G21_7
    have nex7_x2 := new_ne L21_x2 G21_7
    replace H2 := hRl.chg.blk H2 (fun h => h.elim)
    replace hw := hw.keep hRl.keep
    replace g6 := g6.keep hRl.keep
    replace g7 := g7.keep hRl.keep
    replace g8 := g8.keep hRl.keep
    replace g9 := g9.keep hRl.keep
    replace Kr5 := Kr5.keep hRl.keep
    replace CH := CH.trans hRl.chg (fun _ _ h => h.elim)
    replace K8 := K8.trans hRl.keep
    obtain ⟨_, e35, x35_6, x35_7, x35_8, x35_9, rfl, g35_6, g35_7, g35_8, g35_9⟩ := hvv 3 _ _ rfl rfl
    obtain ⟨_, e36, rfl⟩ := hvv 4 _ _ rfl rfl
    replace e0 := (hoff 0 rfl).trans e0
    replace e1 := (hoff 1 rfl).trans e1
    replace e2 := (hoff 2 rfl).trans e2
    replace e4 := (hoff 4 rfl).trans e4
    replace e23 := (hoff 23 rfl).trans e23
    replace e5 := (hoff 5 rfl).trans e5
    replace e6 := (hoff 6 rfl).trans e6
    replace e31 := (hoff 31 rfl).trans e31
    replace sz := sz1
    replace df := df1.trans df
    have Zw21 : w.heap.size ≤ w21.heap.size := CH.size
    clear sz1 df1 hoff hvv hRl hJ L21_x2
    refine wpo_step 6 _ rfl rfl (og_plain rfl ?_)
    refine op_store_row 28 _ _ rfl bx7 #[.int .i64 c.fr, .int .i64 c.tt, .int .u32 c.tid, .int .u32 c.key, .int .u64 c.lo, .int .u64 c.hi, x35_6, x35_7, x35_8, x35_9] (ev e7) (ev e35) 28 _ H7 (by kernel_rfl) rfl (onel ⟨rfl, rfl, rfl, rfl, rfl, rfl, row_one g35_6, row_one g35_7, row_one g35_8, row_one g35_9, trivial⟩) (nbl ⟨rfl, rfl, rfl, rfl, rfl, rfl, rfl, rfl, rfl, rfl, trivial⟩) ?_
    intro w22 H_ hC hK
    change wpOps _ _ _ _ a21 w22
    replace H2 := hC.blk H2 nex2_x7
    replace hw := hw.keep hK
    replace g6 := g6.keep hK
    replace g7 := g7.keep hK
    replace g8 := g8.keep hK
    replace g9 := g9.keep hK
    replace Kr5 := Kr5.keep hK
    replace g35_6 := g35_6.keep hK
    replace g35_7 := g35_7.keep hK
    replace g35_8 := g35_8.keep hK
    replace g35_9 := g35_9.keep hK
    replace CH := CH.trans hC (fun x hx h => (old_new hx G7 h).elim)
    replace K8 := K8.trans hK
    replace H7 : w22.heap[bx7]? = some (.cells #[.int .i64 c.fr, .int .i64 c.tt, .int .u32 c.tid, .int .u32 c.key, .int .u64 c.lo, .int .u64 c.hi, x35_6, x35_7, x35_8, x35_9] 28 (0, 0)) := H_
    clear hC hK
    have Zw22 : w.heap.size ≤ w22.heap.size := CH.size
    refine wpo_step 7 _ rfl rfl (og_plain rfl ?_)
    refine op_assign rfl (v := .int .i64 0) (ev e36) ?_
    refine abs_put (K := fun x => wpOps _ _ _ _ x _) (t := 8) sz (by decide) fun a23 sz1 df1 e_new hoff => ?_
    replace e0 := (hoff 0 rfl).trans e0
    replace e1 := (hoff 1 rfl).trans e1
    replace e2 := (hoff 2 rfl).trans e2
    replace e4 := (hoff 4 rfl).trans e4
    replace e23 := (hoff 23 rfl).trans e23
    replace e5 := (hoff 5 rfl).trans e5
    replace e6 := (hoff 6 rfl).trans e6
    replace e31 := (hoff 31 rfl).trans e31
    replace e35 := (hoff 35 rfl).trans e35
    replace e36 := (hoff 36 rfl).trans e36
    replace e7 := (hoff 7 rfl).trans e7
    have e8 := e_new
    replace sz := sz1
    replace df := df1.trans df
    clear sz1 df1 hoff e_new
    refine wpo_all rfl ?_
    refine hKK17 _ _ ?_
    refine wp_seq_k fun KK18 hKK18 => ?_
    refine raI (S := fun _ => False) 67 8 sz [37, 38, 39, 40, 41, 42, 43, 44] [isV (.int .i64 0), isV (.bool false), isV (.bool false), isV (.agg #[.int .i64 c.fr, .int .i64 c.tt, .int .u32 c.tid, .int .u32 c.key, .int .u64 c.lo, .int .u64 c.hi, x35_6, x35_7, x35_8, x35_9]), isV (.agg #[.int .i64 c.fr, .int .i64 c.tt, .int .u32 c.tid, .int .u32 c.key, .int .u64 c.lo, .int .u64 c.hi, x6, x7, x8, x9]), isV (.bool true), isV (.bool false), isV (.bool false)] [Tr, Tr, Tr, Tr, Tr, Tr, Tr, Tr, Tr] rfl (by decide) (by decide) (by decide) ?_ ?_ ?_ ?_
    · intro J hJ; cases hJ; exact trivial
    · exact (sr_cons (sr_V _ _) (sr_cons (sr_V _ _) (sr_cons (sr_V _ _) (sr_cons (sr_V _ _) (sr_cons (sr_V _ _) (sr_cons (sr_V _ _) (sr_cons (sr_V _ _) (sr_cons (sr_V _ _) (sr_nil _)))))))))
    ·refine sti_cons ?_ (sti_cons ?_ (sti_cons ?_ (sti_cons ?_ (sti_cons ?_ (sti_cons ?_ (sti_cons ?_ (sti_cons ?_ sti_nil)))))))
     ·refine sti rfl rfl rfl rfl rfl rfl rfl fun a w' hM hI hoff hp K hK => ?_
      have e8 : a.tmps[8]? = some (.int .i64 0) := (hoff 8 rfl).trans e8
      clear hoff hp
      exact ov  (hK _ _ (Rl.refl _ _) trivial rfl)
     ·refine sti rfl rfl rfl rfl rfl rfl rfl fun a w' hM hI hoff hp K hK => ?_
      obtain ⟨_, e37, rfl⟩ := hp 0 rfl 37 _ rfl rfl
      clear hoff hp
      exact ov  (hK _ _ (Rl.refl _ _) trivial rfl)
     ·refine sti rfl rfl rfl rfl rfl rfl rfl fun a w' hM hI hoff hp K hK => ?_
      obtain ⟨_, e38, rfl⟩ := hp 1 rfl 38 _ rfl rfl
      clear hoff hp
      exact ov  (hK _ _ (Rl.refl _ _) trivial rfl)
     ·refine stiy 2 rfl rfl rfl rfl rfl rfl rfl rfl rfl rfl rfl fun a w' hM hI hoff hp K hK => ?_
      have e7 : a.tmps[7]? = some (.pointer (some ⟨bx7, 0, none⟩)) := (hoff 7 rfl).trans e7
      clear hoff hp
      have d0 : w'.cell? ⟨bx7, 0, none⟩ = some (.int .i64 c.fr) := (blk_cell (hM.chg.blk H7 (fun h => h)) 0).trans rfl
      have d1 : w'.cell? ⟨bx7, 1, none⟩ = some (.int .i64 c.tt) := (blk_cell (hM.chg.blk H7 (fun h => h)) 1).trans rfl
      have d2 : w'.cell? ⟨bx7, 2, none⟩ = some (.int .u32 c.tid) := (blk_cell (hM.chg.blk H7 (fun h => h)) 2).trans rfl
      have d3 : w'.cell? ⟨bx7, 3, none⟩ = some (.int .u32 c.key) := (blk_cell (hM.chg.blk H7 (fun h => h)) 3).trans rfl
      have d4 : w'.cell? ⟨bx7, 4, none⟩ = some (.int .u64 c.lo) := (blk_cell (hM.chg.blk H7 (fun h => h)) 4).trans rfl
      have d5 : w'.cell? ⟨bx7, 5, none⟩ = some (.int .u64 c.hi) := (blk_cell (hM.chg.blk H7 (fun h => h)) 5).trans rfl
      have d6 : w'.cell? ⟨bx7, 6, none⟩ = some (x35_6) := (blk_cell (hM.chg.blk H7 (fun h => h)) 6).trans rfl
      have d7 : w'.cell? ⟨bx7, 7, none⟩ = some (x35_7) := (blk_cell (hM.chg.blk H7 (fun h => h)) 7).trans rfl
      have d8 : w'.cell? ⟨bx7, 8, none⟩ = some (x35_8) := (blk_cell (hM.chg.blk H7 (fun h => h)) 8).trans rfl
      have d9 : w'.cell? ⟨bx7, 9, none⟩ = some (x35_9) := (blk_cell (hM.chg.blk H7 (fun h => h)) 9).trans rfl
      have hu := Try.underlying28
      have hv_25 := Try.underlying25
      exact ov  (hK _ _ (Rl.refl _ _) trivial rfl)
     ·refine stiy 2 rfl rfl rfl rfl rfl rfl rfl rfl rfl rfl rfl fun a w' hM hI hoff hp K hK => ?_
      have e2 : a.tmps[2]? = some (.pointer (some ⟨bx2, 0, none⟩)) := (hoff 2 rfl).trans e2
      clear hoff hp
      have d0 : w'.cell? ⟨bx2, 0, none⟩ = some (.int .i64 c.fr) := (blk_cell (hM.chg.blk H2 (fun h => h)) 0).trans rfl
      have d1 : w'.cell? ⟨bx2, 1, none⟩ = some (.int .i64 c.tt) := (blk_cell (hM.chg.blk H2 (fun h => h)) 1).trans rfl
      have d2 : w'.cell? ⟨bx2, 2, none⟩ = some (.int .u32 c.tid) := (blk_cell (hM.chg.blk H2 (fun h => h)) 2).trans rfl
      have d3 : w'.cell? ⟨bx2, 3, none⟩ = some (.int .u32 c.key) := (blk_cell (hM.chg.blk H2 (fun h => h)) 3).trans rfl
      have d4 : w'.cell? ⟨bx2, 4, none⟩ = some (.int .u64 c.lo) := (blk_cell (hM.chg.blk H2 (fun h => h)) 4).trans rfl
      have d5 : w'.cell? ⟨bx2, 5, none⟩ = some (.int .u64 c.hi) := (blk_cell (hM.chg.blk H2 (fun h => h)) 5).trans rfl
      have d6 : w'.cell? ⟨bx2, 6, none⟩ = some (x6) := (blk_cell (hM.chg.blk H2 (fun h => h)) 6).trans rfl
      have d7 : w'.cell? ⟨bx2, 7, none⟩ = some (x7) := (blk_cell (hM.chg.blk H2 (fun h => h)) 7).trans rfl
      have d8 : w'.cell? ⟨bx2, 8, none⟩ = some (x8) := (blk_cell (hM.chg.blk H2 (fun h => h)) 8).trans rfl
      have d9 : w'.cell? ⟨bx2, 9, none⟩ = some (x9) := (blk_cell (hM.chg.blk H2 (fun h => h)) 9).trans rfl
      have hu := Try.underlying28
      have hv_25 := Try.underlying25
      exact ov  (hK _ _ (Rl.refl _ _) trivial rfl)
     ·refine stiy 2 rfl rfl rfl rfl rfl rfl rfl rfl rfl rfl rfl fun a w' hM hI hoff hp K hK => ?_
      obtain ⟨_, e40, rfl⟩ := hp 3 rfl 40 _ rfl rfl
      obtain ⟨_, e41, rfl⟩ := hp 4 rfl 41 _ rfl rfl
      clear hoff hp
      refine op_call Try.func19 (by kernel_rfl) rfl #[.agg #[.int .i64 c.fr, .int .i64 c.tt, .int .u32 c.tid, .int .u32 c.key, .int .u64 c.lo, .int .u64 c.hi, x35_6, x35_7, x35_8, x35_9], .agg #[.int .i64 c.fr, .int .i64 c.tt, .int .u32 c.tid, .int .u32 c.key, .int .u64 c.lo, .int .u64 c.hi, x6, x7, x8, x9]] rfl (by simp [Act.eval, e40, e41]) (refSame_self c ho _ _ _ ⟨_, _, _, _, rfl, (g35_6.keep hM.keep).lower (Nat.zero_le _), (g35_7.keep hM.keep).lower (Nat.zero_le _), (g35_8.keep hM.keep).lower (Nat.zero_le _), (g35_9.keep hM.keep).lower (Nat.zero_le _)⟩ ⟨_, _, _, _, rfl, (g6.keep hM.keep).lower (Nat.zero_le _), (g7.keep hM.keep).lower (Nat.zero_le _), (g8.keep hM.keep).lower (Nat.zero_le _), (g9.keep hM.keep).lower (Nat.zero_le _)⟩) ?_
      rintro e w1 ⟨u, rfl, hR, hb⟩
      exact ⟨u, rfl, hK _ _ (Rl.of_below hb) trivial hR⟩
     ·refine stiy 2 rfl rfl rfl rfl rfl rfl rfl rfl rfl rfl rfl fun a w' hM hI hoff hp K hK => ?_
      obtain ⟨_, e42, rfl⟩ := hp 5 rfl 42 _ rfl rfl
      clear hoff hp
      exact ov  (hK _ _ (Rl.refl _ _) trivial rfl)
     ·refine sti rfl rfl rfl rfl rfl rfl rfl fun a w' hM hI hoff hp K hK => ?_
      obtain ⟨_, e39, rfl⟩ := hp 2 rfl 39 _ rfl rfl
      obtain ⟨_, e43, rfl⟩ := hp 6 rfl 43 _ rfl rfl
      clear hoff hp
      exact ov  (hK _ _ (Rl.refl _ _) trivial rfl)
    intro a24 w24 sz1 df1 hoff hvv hRl hJ
    replace H2 := hRl.chg.blk H2 (fun h => h.elim)
    replace H7 := hRl.chg.blk H7 (fun h => h.elim)
    replace hw := hw.keep hRl.keep
    replace g6 := g6.keep hRl.keep
    replace g7 := g7.keep hRl.keep
    replace g8 := g8.keep hRl.keep
    replace g9 := g9.keep hRl.keep
    replace Kr5 := Kr5.keep hRl.keep
    replace g35_6 := g35_6.keep hRl.keep
    replace g35_7 := g35_7.keep hRl.keep
    replace g35_8 := g35_8.keep hRl.keep
    replace g35_9 := g35_9.keep hRl.keep
    replace CH := CH.trans hRl.chg (fun _ _ h => h.elim)
    replace K8 := K8.trans hRl.keep
    obtain ⟨_, e44, rfl⟩ := hvv 7 _ _ rfl rfl
    replace e0 := (hoff 0 rfl).trans e0
    replace e1 := (hoff 1 rfl).trans e1
    replace e2 := (hoff 2 rfl).trans e2
    replace e4 := (hoff 4 rfl).trans e4
    replace e23 := (hoff 23 rfl).trans e23
    replace e5 := (hoff 5 rfl).trans e5
    replace e6 := (hoff 6 rfl).trans e6
    replace e31 := (hoff 31 rfl).trans e31
    replace e35 := (hoff 35 rfl).trans e35
    replace e36 := (hoff 36 rfl).trans e36
    replace e7 := (hoff 7 rfl).trans e7
    replace e8 := (hoff 8 rfl).trans e8
    replace sz := sz1
    replace df := df1.trans df
    have Zw24 : w.heap.size ≤ w24.heap.size := CH.size
    clear sz1 df1 hoff hvv hRl hJ
    refine wpo_all rfl ?_
    refine hKK18 _ _ ?_
    refine wp_cond_false (ev e44) ?_
    refine wp_skip ?_
    exact hJ6 _ _ sz df e1 H2 hw g6 g7 g8 g9 CH K8
   ·skip
    have hs : c.pub.length < 65536 := by omega
    have hs2 : c.sl.length < 65536 := by omega
    have hs3 : c.ct.length < 65536 := by omega
    have hs4 : c.sig.length < 65536 := by omega
    refine raI (S := fun _ => False) 67 7 sz [26, 27, 25, 28, 29, 5, 6] [isV (.agg #[.int .i64 c.fr, .int .i64 c.tt, .int .u32 c.tid, .int .u32 c.key, .int .u64 c.lo, .int .u64 c.hi, x6, x7, x8, x9]), isPair (isRow w6.heap.size []) (.int .i64 230), isPair (isRow w6.heap.size []) (.int .i64 230), isRow w6.heap.size [], isV (.int .i64 230), isRow w6.heap.size [], isV (.int .i64 230)] [Tr, Tr, Tr, Tr, Tr, Tr, Tr, Tr] rfl (by decide) (by decide) (by decide) ?_ ?_ ?_ ?_
    · intro J hJ; cases hJ; exact trivial
    · exact (sr_cons (sr_V _ _) (sr_cons (sr_Pair (sr_Row _ _ _) _) (sr_cons (sr_Pair (sr_Row _ _ _) _) (sr_cons (sr_Row _ _ _) (sr_cons (sr_V _ _) (sr_cons (sr_Row _ _ _) (sr_cons (sr_V _ _) (sr_nil _))))))))
    ·refine sti_cons ?_ (sti_cons ?_ (sti_cons ?_ (sti_cons ?_ (sti_cons ?_ (sti_cons ?_ (sti_cons ?_ sti_nil))))))
     ·refine sti rfl rfl rfl rfl rfl rfl rfl fun a w' hM hI hoff hp K hK => ?_
      have e2 : a.tmps[2]? = some (.pointer (some ⟨bx2, 0, none⟩)) := (hoff 2 rfl).trans e2
      clear hoff hp
      have d0 : w'.cell? ⟨bx2, 0, none⟩ = some (.int .i64 c.fr) := (blk_cell (hM.chg.blk H2 (fun h => h)) 0).trans rfl
      have d1 : w'.cell? ⟨bx2, 1, none⟩ = some (.int .i64 c.tt) := (blk_cell (hM.chg.blk H2 (fun h => h)) 1).trans rfl
      have d2 : w'.cell? ⟨bx2, 2, none⟩ = some (.int .u32 c.tid) := (blk_cell (hM.chg.blk H2 (fun h => h)) 2).trans rfl
      have d3 : w'.cell? ⟨bx2, 3, none⟩ = some (.int .u32 c.key) := (blk_cell (hM.chg.blk H2 (fun h => h)) 3).trans rfl
      have d4 : w'.cell? ⟨bx2, 4, none⟩ = some (.int .u64 c.lo) := (blk_cell (hM.chg.blk H2 (fun h => h)) 4).trans rfl
      have d5 : w'.cell? ⟨bx2, 5, none⟩ = some (.int .u64 c.hi) := (blk_cell (hM.chg.blk H2 (fun h => h)) 5).trans rfl
      have d6 : w'.cell? ⟨bx2, 6, none⟩ = some (x6) := (blk_cell (hM.chg.blk H2 (fun h => h)) 6).trans rfl
      have d7 : w'.cell? ⟨bx2, 7, none⟩ = some (x7) := (blk_cell (hM.chg.blk H2 (fun h => h)) 7).trans rfl
      have d8 : w'.cell? ⟨bx2, 8, none⟩ = some (x8) := (blk_cell (hM.chg.blk H2 (fun h => h)) 8).trans rfl
      have d9 : w'.cell? ⟨bx2, 9, none⟩ = some (x9) := (blk_cell (hM.chg.blk H2 (fun h => h)) 9).trans rfl
      have hu := Try.underlying28
      have hv_25 := Try.underlying25
      exact ov  (hK _ _ (Rl.refl _ _) trivial rfl)
     ·refine sti rfl rfl rfl rfl rfl rfl rfl fun a w' hM hI hoff hp K hK => ?_
      obtain ⟨_, e26, rfl⟩ := hp 0 rfl 26 _ rfl rfl
      clear hoff hp
      have h_ := put_calls c ho hs hs2 hs3 hs4 _ _ ⟨_, _, _, _, rfl, (g6.keep hM.keep).lower (Nat.zero_le _), (g7.keep hM.keep).lower (Nat.zero_le _), (g8.keep hM.keep).lower (Nat.zero_le _), (g9.keep hM.keep).lower (Nat.zero_le _)⟩
      rw [nmay_err hmc, show c.putl = [] from if_neg hmc] at h_
      refine op_call Try.func13 (by kernel_rfl) rfl #[.agg #[.int .i64 c.fr, .int .i64 c.tt, .int .u32 c.tid, .int .u32 c.key, .int .u64 c.lo, .int .u64 c.hi, x6, x7, x8, x9]] rfl (by simp [Act.eval, e26]) h_ ?_
      rintro e w1 ⟨u, rfl, hR, hb⟩
      exact ⟨u, rfl, hK _ _ (Rl.of_below hb) trivial (let ⟨u_, h1_, h2_⟩ := hR; ⟨u_, h1_, h2_.lower hM.keep.size⟩)⟩
     ·refine sti rfl rfl rfl rfl rfl rfl rfl fun a w' hM hI hoff hp K hK => ?_
      obtain ⟨v27, e27, h27⟩ := hp 1 rfl 27 _ rfl rfl
      clear hoff hp
      exact ov  (hK _ _ (Rl.refl _ _) trivial h27)
     ·refine sti rfl rfl rfl rfl rfl rfl rfl fun a w' hM hI hoff hp K hK => ?_
      obtain ⟨v25, e25, h25⟩ := hp 2 rfl 25 _ rfl rfl
      clear hoff hp
      obtain ⟨u_, ev_, hR_⟩ := h25
      subst ev_
      exact ov  (hK _ _ (Rl.refl _ _) trivial hR_)
     ·refine sti rfl rfl rfl rfl rfl rfl rfl fun a w' hM hI hoff hp K hK => ?_
      obtain ⟨v25, e25, h25⟩ := hp 2 rfl 25 _ rfl rfl
      clear hoff hp
      obtain ⟨u_, ev_, hR_⟩ := h25
      subst ev_
      exact ov  (hK _ _ (Rl.refl _ _) trivial rfl)
     ·refine sti rfl rfl rfl rfl rfl rfl rfl fun a w' hM hI hoff hp K hK => ?_
      obtain ⟨v28, e28, h28⟩ := hp 3 rfl 28 _ rfl rfl
      clear hoff hp
      exact ov  (hK _ _ (Rl.refl _ _) trivial h28)
     ·refine sti rfl rfl rfl rfl rfl rfl rfl fun a w' hM hI hoff hp K hK => ?_
      obtain ⟨_, e29, rfl⟩ := hp 4 rfl 29 _ rfl rfl
      clear hoff hp
      exact ov  (hK _ _ (Rl.refl _ _) trivial rfl)
    intro a25 w25 sz1 df1 hoff hvv hRl hJ
    replace H2 := hRl.chg.blk H2 (fun h => h.elim)
    replace hw := hw.keep hRl.keep
    replace g6 := g6.keep hRl.keep
    replace g7 := g7.keep hRl.keep
    replace g8 := g8.keep hRl.keep
    replace g9 := g9.keep hRl.keep
    replace CH := CH.trans hRl.chg (fun _ _ h => h.elim)
    replace K8 := K8.trans hRl.keep
    obtain ⟨u5_25, e5, Kr5⟩ := hvv 5 _ _ rfl rfl
    replace Kr5 : Row w6.heap.size w25 u5_25 [] := Kr5
    obtain ⟨_, e6, rfl⟩ := hvv 6 _ _ rfl rfl
    replace e0 := (hoff 0 rfl).trans e0
    replace e1 := (hoff 1 rfl).trans e1
    replace e2 := (hoff 2 rfl).trans e2
    replace e4 := (hoff 4 rfl).trans e4
    replace e23 := (hoff 23 rfl).trans e23
    replace sz := sz1
    replace df := df1.trans df
    have Zw25 : w.heap.size ≤ w25.heap.size := CH.size
    clear sz1 df1 hoff hvv hRl hJ
    refine wpo_all rfl ?_
    refine hKK15 _ _ ?_
    refine wp_seq_k fun KK19 hKK19 => ?_
    refine raI (S := fun _ => False) 67 2 sz [30, 31] [isV (.int .i64 230), isV (.bool false)] [Tr, Tr, Tr] rfl (by decide) (by decide) (by decide) ?_ ?_ ?_ ?_
    · intro J hJ; cases hJ; exact trivial
    · exact (sr_cons (sr_V _ _) (sr_cons (sr_V _ _) (sr_nil _)))
    ·refine sti_cons ?_ (sti_cons ?_ sti_nil)
     ·refine sti rfl rfl rfl rfl rfl rfl rfl fun a w' hM hI hoff hp K hK => ?_
      have e6 : a.tmps[6]? = some (.int .i64 230) := (hoff 6 rfl).trans e6
      clear hoff hp
      exact ov  (hK _ _ (Rl.refl _ _) trivial rfl)
     ·refine sti rfl rfl rfl rfl rfl rfl rfl fun a w' hM hI hoff hp K hK => ?_
      obtain ⟨_, e30, rfl⟩ := hp 0 rfl 30 _ rfl rfl
      clear hoff hp
      exact ov  (hK _ _ (Rl.refl _ _) trivial rfl)
    intro a26 w26 sz1 df1 hoff hvv hRl hJ
    replace H2 := hRl.chg.blk H2 (fun h => h.elim)
    replace hw := hw.keep hRl.keep
    replace g6 := g6.keep hRl.keep
    replace g7 := g7.keep hRl.keep
    replace g8 := g8.keep hRl.keep
    replace g9 := g9.keep hRl.keep
    replace Kr5 := Kr5.keep hRl.keep
    replace CH := CH.trans hRl.chg (fun _ _ h => h.elim)
    replace K8 := K8.trans hRl.keep
    obtain ⟨_, e31, rfl⟩ := hvv 1 _ _ rfl rfl
    replace e0 := (hoff 0 rfl).trans e0
    replace e1 := (hoff 1 rfl).trans e1
    replace e2 := (hoff 2 rfl).trans e2
    replace e4 := (hoff 4 rfl).trans e4
    replace e23 := (hoff 23 rfl).trans e23
    replace e5 := (hoff 5 rfl).trans e5
    replace e6 := (hoff 6 rfl).trans e6
    replace sz := sz1
    replace df := df1.trans df
    have Zw26 : w.heap.size ≤ w26.heap.size := CH.size
    clear sz1 df1 hoff hvv hRl hJ
    refine wpo_all rfl ?_
    refine hKK19 _ _ ?_
    refine wp_cond_false (ev e31) ?_
    refine wp_skip ?_
    exact hJ6 _ _ sz df e1 H2 hw g6 g7 g8 g9 CH K8
theorem back_calls (c : Cp) (ho : c.Ok) (l : List Int) (yl : Byt l) (v v2 : Value) (w : World) (hv : CapV 0 w v c) (hw : Row 0 w v2 l) : Ret 6 #[v, v2] w (isV (.bool true)) := by
  refine back_law c ho l yl (fun hmc hbig => ?_) (fun hl => ?_) v v2 w hv hw
  · have hf := may_form ho hmc
    obtain ⟨c2, e2, hr2, hgetc⟩ := get_calls (c.inner ++ c.sig) (byt_app (inner_byt c ho) ho.sig) (by rw [List.length_append, inner_length]; omega)
    obtain ⟨rfl, rfl⟩ := res_one (res_may hf rfl hmc) hr2
    exact hgetc
  · obtain ⟨d, e, hr, hget⟩ := get_calls l yl (by omega)
    rcases hr with ⟨rfl, h1, h2, h3⟩ | ⟨rfl, rfl, h3⟩
    · exact .inl ⟨d, h2.ok, h1, h2.pub, h2.sl, by have := h2.ct; omega, by have := h2.sig; omega, h3.symm, hget⟩
    · exact .inr hget

end Go.Proofs.Ytgacaemgmgoiaaa.QLeaf
