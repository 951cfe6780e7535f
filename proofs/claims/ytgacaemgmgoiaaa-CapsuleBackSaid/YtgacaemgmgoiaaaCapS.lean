import Derived.Test.YtgacaemgmgoiaaaAg
import Derived.Test.YtgacaemgmgoiaaaCap2b

/- The document's Same: a capsule is the same as itself. -/
namespace Go.Proofs.Ytgacaemgmgoiaaa.QLeaf
open Go.RowKit Go.Proofs.YtgacaemgmgoiaaaW.PrintWords Go.Proofs.YtgacaemgmgoiaaaW.PrintLast Go.Proofs.YtgacaemgmgoiaaaW.PrintMore Go.Proofs.YtgacaemgmgoiaaaW.Cm Go.Proofs.YtgacaemgmgoiaaaW.Rg
set_option linter.unusedVariables false
set_option linter.unusedSimpArgs false

set_option maxHeartbeats 4000000 in
set_option maxRecDepth 100000 in
theorem refSame_self (c : Cp) (ho : c.Ok) (u v : Value) (w : World) (hu : CapV 0 w u c) (hv : CapV 0 w v c) : Ret 19 #[u, v] w (isV (.bool true)) := by
  obtain ⟨x6, x7, x8, x9, rfl, g6, g7, g8, g9⟩ := hu
  obtain ⟨y6, y7, y8, y9, rfl, k6, k7, k8, k9⟩ := hv
  refine enterA (n := 66) Try.func19 rfl rfl fun a0 sz df he => ?_
  have e0 : a0.tmps[0]? = some (.agg #[.int .i64 c.fr, .int .i64 c.tt, .int .u32 c.tid, .int .u32 c.key, .int .u64 c.lo, .int .u64 c.hi, x6, x7, x8, x9]) := he 0 _ rfl
  have e1 : a0.tmps[1]? = some (.agg #[.int .i64 c.fr, .int .i64 c.tt, .int .u32 c.tid, .int .u32 c.key, .int .u64 c.lo, .int .u64 c.hi, y6, y7, y8, y9]) := he 1 _ rfl
  clear he
  have CH : Chg (fun _ => False) w w := Chg.refl _ _
  have K8 : Keep8 w w := Keep8.refl _
  refine wp_seq_k fun KK1 hKK1 => ?_
  refine raI (S := fun _ => False) 66 1 sz [2] [isBoxC w.heap.size #[.int .i64 c.fr, .int .i64 c.tt, .int .u32 c.tid, .int .u32 c.key, .int .u64 c.lo, .int .u64 c.hi, x6, x7, x8, x9] 28] [Tr, Tr] rfl (by decide) (by decide) (by decide) ?_ ?_ ?_ ?_
  · intro J hJ; cases hJ; exact trivial
  · exact (sr_cons (sr_BoxS _ _ _ (fun _ _ h => h)) (sr_nil _))
  ·refine sti_cons ?_ sti_nil
   ·refine sti rfl rfl rfl rfl rfl rfl rfl fun a w' hM hI hoff hp K hK => ?_
    have e0 : a.tmps[0]? = some (.agg #[.int .i64 c.fr, .int .i64 c.tt, .int .u32 c.tid, .int .u32 c.key, .int .u64 c.lo, .int .u64 c.hi, x6, x7, x8, x9]) := (hoff 0 rfl).trans e0
    clear hoff hp
    have hu := Try.underlying28
    have hv_25 := Try.underlying25
    refine ov (v := .pointer (some ⟨w'.heap.size, 0, none⟩)) (w' := w'.alloc (.cells #[.int .i64 c.fr, .int .i64 c.tt, .int .u32 c.tid, .int .u32 c.key, .int .u64 c.lo, .int .u64 c.hi, x6, x7, x8, x9] 28))  (hK _ _ (Rl.alloc _ _ _) trivial ⟨_, rfl, hM.keep.size, heap_new _ _⟩)
  intro a1 w1 sz1 df1 hoff hvv hRl hJ
  obtain ⟨v_, e2, bx2, z_, G1_2, H2⟩ := hvv 0 _ _ rfl rfl
  rw [z_] at e2
  clear z_
  have G2 : w.heap.size ≤ bx2 := Nat.le_trans CH.size G1_2
  replace g6 := g6.keep hRl.keep
  replace g7 := g7.keep hRl.keep
  replace g8 := g8.keep hRl.keep
  replace g9 := g9.keep hRl.keep
  replace k6 := k6.keep hRl.keep
  replace k7 := k7.keep hRl.keep
  replace k8 := k8.keep hRl.keep
  replace k9 := k9.keep hRl.keep
  replace CH := CH.trans hRl.chg (fun _ _ h => h.elim)
  replace K8 := K8.trans hRl.keep
  replace e0 := (hoff 0 rfl).trans e0
  replace e1 := (hoff 1 rfl).trans e1
  replace sz := sz1
  replace df := df1.trans df
  have Zw1 : w.heap.size ≤ w1.heap.size := CH.size
  clear sz1 df1 hoff hvv hRl hJ
  refine wpo_step 1 _ rfl rfl (og_plain rfl ?_)
  have L2_x2 := blk_lt H2
  obtain ⟨bx3, hbx⟩ : ∃ x, x = w1.heap.size := ⟨_, rfl⟩
  obtain ⟨w2, hw⟩ : ∃ x, x = w1.alloc (.cells #[.int .i64 c.fr, .int .i64 c.tt, .int .u32 c.tid, .int .u32 c.key, .int .u64 c.lo, .int .u64 c.hi, y6, y7, y8, y9] 28) := ⟨_, rfl⟩
  have hu := Try.underlying28
  have hv_25 := Try.underlying25
  refine op_val (v := .pointer (some ⟨bx3, 0, none⟩)) (w' := w2) (by rw [hw, hbx]; first | (go_simp; done) | (go_simp; rfl)) ?_
  have H3 : w2.heap[bx3]? = some (.cells #[.int .i64 c.fr, .int .i64 c.tt, .int .u32 c.tid, .int .u32 c.key, .int .u64 c.lo, .int .u64 c.hi, y6, y7, y8, y9] 28 (0, 0)) := by rw [hw, hbx]; exact heap_new _ _
  have hb_ : Rl (fun _ => False) w1 w2 := by rw [hw]; exact Rl.alloc _ _ _
  have G3 : w.heap.size ≤ bx3 := by rw [hbx]; exact CH.size
  have hg_ : w1.heap.size ≤ bx3 := Nat.le_of_eq hbx.symm
  clear hw hbx
  have nex2_x3 := ne_new L2_x2 hg_
  have nex3_x2 := new_ne L2_x2 hg_
  replace H2 := hb_.chg.blk H2 (fun h => h.elim)
  replace g6 := g6.keep hb_.keep
  replace g7 := g7.keep hb_.keep
  replace g8 := g8.keep hb_.keep
  replace g9 := g9.keep hb_.keep
  replace k6 := k6.keep hb_.keep
  replace k7 := k7.keep hb_.keep
  replace k8 := k8.keep hb_.keep
  replace k9 := k9.keep hb_.keep
  replace CH := CH.trans hb_.chg (fun _ _ h => h.elim)
  replace K8 := K8.trans hb_.keep
  have Zw2 : w.heap.size ≤ w2.heap.size := CH.size
  clear hb_ hg_ L2_x2
  refine abs_put (K := fun x => wpOps _ _ _ _ x _) (t := 3) sz (by decide) fun a3 sz1 df1 e_new hoff => ?_
  replace e0 := (hoff 0 rfl).trans e0
  replace e1 := (hoff 1 rfl).trans e1
  replace e2 := (hoff 2 rfl).trans e2
  have e3 := e_new
  replace sz := sz1
  replace df := df1.trans df
  clear sz1 df1 hoff e_new
  refine wpo_step 2 _ rfl rfl (og_plain rfl ?_)
  refine op_assign rfl (v := .bool false) rfl ?_
  refine abs_put (K := fun x => wpOps _ _ _ _ x _) (t := 4) sz (by decide) fun a4 sz1 df1 e_new hoff => ?_
  replace e0 := (hoff 0 rfl).trans e0
  replace e1 := (hoff 1 rfl).trans e1
  replace e2 := (hoff 2 rfl).trans e2
  replace e3 := (hoff 3 rfl).trans e3
  have e4 := e_new
  replace sz := sz1
  replace df := df1.trans df
  clear sz1 df1 hoff e_new
  refine wpo_all rfl ?_
  refine hKK1 _ _ ?_
  refine wp_seq_k fun KK2 hKK2 => ?_
  refine raI (S := fun _ => False) 66 62 sz [5, 6, 7, 8, 9, 10, 11, 12, 13, 14, 15, 16, 17, 18, 19, 20, 21, 22, 23, 24, 25, 26, 27, 28, 29, 30, 31, 32, 33, 34, 35, 36, 37, 38, 39, 40, 41, 42, 43, 44, 45, 46, 47, 48, 49, 50, 51, 52, 53, 54, 55, 56, 57, 58, 59, 60, 61, 62, 63, 64, 65, 4] [isV (.pointer (some ⟨bx2, 0, none⟩)), isV (.int .i64 c.fr), isV (.pointer (some ⟨bx3, 0, none⟩)), isV (.int .i64 c.fr), isV (.bool true), isV (.bool true), isV (.pointer (some ⟨bx2, 1, none⟩)), isV (.int .i64 c.tt), isV (.pointer (some ⟨bx3, 1, none⟩)), isV (.int .i64 c.tt), isV (.bool true), isV (.bool true), isV (.bool true), isV (.pointer (some ⟨bx2, 2, none⟩)), isV (.int .u32 c.tid), isV (.pointer (some ⟨bx3, 2, none⟩)), isV (.int .u32 c.tid), isV (.bool true), isV (.bool true), isV (.bool true), isV (.pointer (some ⟨bx2, 3, none⟩)), isV (.int .u32 c.key), isV (.pointer (some ⟨bx3, 3, none⟩)), isV (.int .u32 c.key), isV (.bool true), isV (.bool true), isV (.bool true), isV (.pointer (some ⟨bx2, 4, none⟩)), isV (.agg #[.int .u64 c.lo, .int .u64 c.hi]), isV (.pointer (some ⟨bx3, 4, none⟩)), isV (.agg #[.int .u64 c.lo, .int .u64 c.hi]), isV (.bool true), isV (.bool true), isV (.bool true), isV (.pointer (some ⟨bx2, 6, none⟩)), isRow 0 c.pub, isV (.pointer (some ⟨bx3, 6, none⟩)), isRow 0 c.pub, isV (.bool true), isV (.bool true), isV (.bool true), isV (.pointer (some ⟨bx2, 7, none⟩)), isRow 0 c.ct, isV (.pointer (some ⟨bx3, 7, none⟩)), isRow 0 c.ct, isV (.bool true), isV (.bool true), isV (.bool true), isV (.pointer (some ⟨bx2, 8, none⟩)), isRow 0 c.sl, isV (.pointer (some ⟨bx3, 8, none⟩)), isRow 0 c.sl, isV (.bool true), isV (.bool true), isV (.bool true), isV (.pointer (some ⟨bx2, 9, none⟩)), isRow 0 c.sig, isV (.pointer (some ⟨bx3, 9, none⟩)), isRow 0 c.sig, isV (.bool true), isV (.bool true), isV (.bool true)] [Tr, Tr, Tr, Tr, Tr, Tr, Tr, Tr, Tr, Tr, Tr, Tr, Tr, Tr, Tr, Tr, Tr, Tr, Tr, Tr, Tr, Tr, Tr, Tr, Tr, Tr, Tr, Tr, Tr, Tr, Tr, Tr, Tr, Tr, Tr, Tr, Tr, Tr, Tr, Tr, Tr, Tr, Tr, Tr, Tr, Tr, Tr, Tr, Tr, Tr, Tr, Tr, Tr, Tr, Tr, Tr, Tr, Tr, Tr, Tr, Tr, Tr, Tr] rfl (by decide) (by decide) (by decide) ?_ ?_ ?_ ?_
  · intro J hJ; cases hJ; exact trivial
  · exact (sr_cons (sr_V _ _) (sr_cons (sr_V _ _) (sr_cons (sr_V _ _) (sr_cons (sr_V _ _) (sr_cons (sr_V _ _) (sr_cons (sr_V _ _) (sr_cons (sr_V _ _) (sr_cons (sr_V _ _) (sr_cons (sr_V _ _) (sr_cons (sr_V _ _) (sr_cons (sr_V _ _) (sr_cons (sr_V _ _) (sr_cons (sr_V _ _) (sr_cons (sr_V _ _) (sr_cons (sr_V _ _) (sr_cons (sr_V _ _) (sr_cons (sr_V _ _) (sr_cons (sr_V _ _) (sr_cons (sr_V _ _) (sr_cons (sr_V _ _) (sr_cons (sr_V _ _) (sr_cons (sr_V _ _) (sr_cons (sr_V _ _) (sr_cons (sr_V _ _) (sr_cons (sr_V _ _) (sr_cons (sr_V _ _) (sr_cons (sr_V _ _) (sr_cons (sr_V _ _) (sr_cons (sr_V _ _) (sr_cons (sr_V _ _) (sr_cons (sr_V _ _) (sr_cons (sr_V _ _) (sr_cons (sr_V _ _) (sr_cons (sr_V _ _) (sr_cons (sr_V _ _) (sr_cons (sr_Row _ _ _) (sr_cons (sr_V _ _) (sr_cons (sr_Row _ _ _) (sr_cons (sr_V _ _) (sr_cons (sr_V _ _) (sr_cons (sr_V _ _) (sr_cons (sr_V _ _) (sr_cons (sr_Row _ _ _) (sr_cons (sr_V _ _) (sr_cons (sr_Row _ _ _) (sr_cons (sr_V _ _) (sr_cons (sr_V _ _) (sr_cons (sr_V _ _) (sr_cons (sr_V _ _) (sr_cons (sr_Row _ _ _) (sr_cons (sr_V _ _) (sr_cons (sr_Row _ _ _) (sr_cons (sr_V _ _) (sr_cons (sr_V _ _) (sr_cons (sr_V _ _) (sr_cons (sr_V _ _) (sr_cons (sr_Row _ _ _) (sr_cons (sr_V _ _) (sr_cons (sr_Row _ _ _) (sr_cons (sr_V _ _) (sr_cons (sr_V _ _) (sr_cons (sr_V _ _) (sr_nil _)))))))))))))))))))))))))))))))))))))))))))))))))))))))))))))))
  ·refine sti_cons ?_ (sti_cons ?_ (sti_cons ?_ (sti_cons ?_ (sti_cons ?_ (sti_cons ?_ (sti_cons ?_ (sti_cons ?_ (sti_cons ?_ (sti_cons ?_ (sti_cons ?_ (sti_cons ?_ (sti_cons ?_ (sti_cons ?_ (sti_cons ?_ (sti_cons ?_ (sti_cons ?_ (sti_cons ?_ (sti_cons ?_ (sti_cons ?_ (sti_cons ?_ (sti_cons ?_ (sti_cons ?_ (sti_cons ?_ (sti_cons ?_ (sti_cons ?_ (sti_cons ?_ (sti_cons ?_ (sti_cons ?_ (sti_cons ?_ (sti_cons ?_ (sti_cons ?_ (sti_cons ?_ (sti_cons ?_ (sti_cons ?_ (sti_cons ?_ (sti_cons ?_ (sti_cons ?_ (sti_cons ?_ (sti_cons ?_ (sti_cons ?_ (sti_cons ?_ (sti_cons ?_ (sti_cons ?_ (sti_cons ?_ (sti_cons ?_ (sti_cons ?_ (sti_cons ?_ (sti_cons ?_ (sti_cons ?_ (sti_cons ?_ (sti_cons ?_ (sti_cons ?_ (sti_cons ?_ (sti_cons ?_ (sti_cons ?_ (sti_cons ?_ (sti_cons ?_ (sti_cons ?_ (sti_cons ?_ (sti_cons ?_ (sti_cons ?_ sti_nil)))))))))))))))))))))))))))))))))))))))))))))))))))))))))))))
   ·refine sti rfl rfl rfl rfl rfl rfl rfl fun a w' hM hI hoff hp K hK => ?_
    have e2 : a.tmps[2]? = some (.pointer (some ⟨bx2, 0, none⟩)) := (hoff 2 rfl).trans e2
    clear hoff hp
    have hu := Try.underlying28
    exact ov  (hK _ _ (Rl.refl _ _) trivial rfl)
   ·refine sti rfl rfl rfl rfl rfl rfl rfl fun a w' hM hI hoff hp K hK => ?_
    obtain ⟨_, e5, rfl⟩ := hp 0 rfl 5 _ rfl rfl
    clear hoff hp
    have d0 : w'.cell? ⟨bx2, 0, none⟩ = some (.int .i64 c.fr) := (blk_cell (hM.chg.blk H2 (fun h => h)) 0).trans rfl
    exact ov  (hK _ _ (Rl.refl _ _) trivial rfl)
   ·refine sti rfl rfl rfl rfl rfl rfl rfl fun a w' hM hI hoff hp K hK => ?_
    have e3 : a.tmps[3]? = some (.pointer (some ⟨bx3, 0, none⟩)) := (hoff 3 rfl).trans e3
    clear hoff hp
    have hu := Try.underlying28
    exact ov  (hK _ _ (Rl.refl _ _) trivial rfl)
   ·refine sti rfl rfl rfl rfl rfl rfl rfl fun a w' hM hI hoff hp K hK => ?_
    obtain ⟨_, e7, rfl⟩ := hp 2 rfl 7 _ rfl rfl
    clear hoff hp
    have d0 : w'.cell? ⟨bx3, 0, none⟩ = some (.int .i64 c.fr) := (blk_cell (hM.chg.blk H3 (fun h => h)) 0).trans rfl
    exact ov  (hK _ _ (Rl.refl _ _) trivial rfl)
   ·refine sti rfl rfl rfl rfl rfl rfl rfl fun a w' hM hI hoff hp K hK => ?_
    obtain ⟨_, e6, rfl⟩ := hp 1 rfl 6 _ rfl rfl
    obtain ⟨_, e8, rfl⟩ := hp 3 rfl 8 _ rfl rfl
    clear hoff hp
    exact ov  (hK _ _ (Rl.refl _ _) trivial rfl)
   ·refine sti rfl rfl rfl rfl rfl rfl rfl fun a w' hM hI hoff hp K hK => ?_
    obtain ⟨_, e9, rfl⟩ := hp 4 rfl 9 _ rfl rfl
    clear hoff hp
    exact ov  (hK _ _ (Rl.refl _ _) trivial rfl)
   ·refine stiy 5 rfl rfl rfl rfl rfl rfl rfl rfl rfl rfl rfl fun a w' hM hI hoff hp K hK => ?_
    have e2 : a.tmps[2]? = some (.pointer (some ⟨bx2, 0, none⟩)) := (hoff 2 rfl).trans e2
    clear hoff hp
    have hu := Try.underlying28
    exact ov  (hK _ _ (Rl.refl _ _) trivial rfl)
   ·refine stiy 5 rfl rfl rfl rfl rfl rfl rfl rfl rfl rfl rfl fun a w' hM hI hoff hp K hK => ?_
    obtain ⟨_, e11, rfl⟩ := hp 6 rfl 11 _ rfl rfl
    clear hoff hp
    have d1 : w'.cell? ⟨bx2, 1, none⟩ = some (.int .i64 c.tt) := (blk_cell (hM.chg.blk H2 (fun h => h)) 1).trans rfl
    exact ov  (hK _ _ (Rl.refl _ _) trivial rfl)
   ·refine stiy 5 rfl rfl rfl rfl rfl rfl rfl rfl rfl rfl rfl fun a w' hM hI hoff hp K hK => ?_
    have e3 : a.tmps[3]? = some (.pointer (some ⟨bx3, 0, none⟩)) := (hoff 3 rfl).trans e3
    clear hoff hp
    have hu := Try.underlying28
    exact ov  (hK _ _ (Rl.refl _ _) trivial rfl)
   ·refine stiy 5 rfl rfl rfl rfl rfl rfl rfl rfl rfl rfl rfl fun a w' hM hI hoff hp K hK => ?_
    obtain ⟨_, e13, rfl⟩ := hp 8 rfl 13 _ rfl rfl
    clear hoff hp
    have d1 : w'.cell? ⟨bx3, 1, none⟩ = some (.int .i64 c.tt) := (blk_cell (hM.chg.blk H3 (fun h => h)) 1).trans rfl
    exact ov  (hK _ _ (Rl.refl _ _) trivial rfl)
   ·refine stiy 5 rfl rfl rfl rfl rfl rfl rfl rfl rfl rfl rfl fun a w' hM hI hoff hp K hK => ?_
    obtain ⟨_, e12, rfl⟩ := hp 7 rfl 12 _ rfl rfl
    obtain ⟨_, e14, rfl⟩ := hp 9 rfl 14 _ rfl rfl
    clear hoff hp
    exact ov  (hK _ _ (Rl.refl _ _) trivial rfl)
   ·refine sti rfl rfl rfl rfl rfl rfl rfl fun a w' hM hI hoff hp K hK => ?_
    obtain ⟨_, e10, rfl⟩ := hp 5 rfl 10 _ rfl rfl
    obtain ⟨_, e15, rfl⟩ := hp 10 rfl 15 _ rfl rfl
    clear hoff hp
    exact ov  (hK _ _ (Rl.refl _ _) trivial rfl)
   ·refine sti rfl rfl rfl rfl rfl rfl rfl fun a w' hM hI hoff hp K hK => ?_
    obtain ⟨_, e16, rfl⟩ := hp 11 rfl 16 _ rfl rfl
    clear hoff hp
    exact ov  (hK _ _ (Rl.refl _ _) trivial rfl)
   ·refine stiy 12 rfl rfl rfl rfl rfl rfl rfl rfl rfl rfl rfl fun a w' hM hI hoff hp K hK => ?_
    have e2 : a.tmps[2]? = some (.pointer (some ⟨bx2, 0, none⟩)) := (hoff 2 rfl).trans e2
    clear hoff hp
    have hu := Try.underlying28
    exact ov  (hK _ _ (Rl.refl _ _) trivial rfl)
   ·refine stiy 12 rfl rfl rfl rfl rfl rfl rfl rfl rfl rfl rfl fun a w' hM hI hoff hp K hK => ?_
    obtain ⟨_, e18, rfl⟩ := hp 13 rfl 18 _ rfl rfl
    clear hoff hp
    have d2 : w'.cell? ⟨bx2, 2, none⟩ = some (.int .u32 c.tid) := (blk_cell (hM.chg.blk H2 (fun h => h)) 2).trans rfl
    exact ov  (hK _ _ (Rl.refl _ _) trivial rfl)
   ·refine stiy 12 rfl rfl rfl rfl rfl rfl rfl rfl rfl rfl rfl fun a w' hM hI hoff hp K hK => ?_
    have e3 : a.tmps[3]? = some (.pointer (some ⟨bx3, 0, none⟩)) := (hoff 3 rfl).trans e3
    clear hoff hp
    have hu := Try.underlying28
    exact ov  (hK _ _ (Rl.refl _ _) trivial rfl)
   ·refine stiy 12 rfl rfl rfl rfl rfl rfl rfl rfl rfl rfl rfl fun a w' hM hI hoff hp K hK => ?_
    obtain ⟨_, e20, rfl⟩ := hp 15 rfl 20 _ rfl rfl
    clear hoff hp
    have d2 : w'.cell? ⟨bx3, 2, none⟩ = some (.int .u32 c.tid) := (blk_cell (hM.chg.blk H3 (fun h => h)) 2).trans rfl
    exact ov  (hK _ _ (Rl.refl _ _) trivial rfl)
   ·refine stiy 12 rfl rfl rfl rfl rfl rfl rfl rfl rfl rfl rfl fun a w' hM hI hoff hp K hK => ?_
    obtain ⟨_, e19, rfl⟩ := hp 14 rfl 19 _ rfl rfl
    obtain ⟨_, e21, rfl⟩ := hp 16 rfl 21 _ rfl rfl
    clear hoff hp
    exact ov  (hK _ _ (Rl.refl _ _) trivial rfl)
   ·refine sti rfl rfl rfl rfl rfl rfl rfl fun a w' hM hI hoff hp K hK => ?_
    obtain ⟨_, e17, rfl⟩ := hp 12 rfl 17 _ rfl rfl
    obtain ⟨_, e22, rfl⟩ := hp 17 rfl 22 _ rfl rfl
    clear hoff hp
    exact ov  (hK _ _ (Rl.refl _ _) trivial rfl)
   ·refine sti rfl rfl rfl rfl rfl rfl rfl fun a w' hM hI hoff hp K hK => ?_
    obtain ⟨_, e23, rfl⟩ := hp 18 rfl 23 _ rfl rfl
    clear hoff hp
    exact ov  (hK _ _ (Rl.refl _ _) trivial rfl)
   ·refine stiy 19 rfl rfl rfl rfl rfl rfl rfl rfl rfl rfl rfl fun a w' hM hI hoff hp K hK => ?_
    have e2 : a.tmps[2]? = some (.pointer (some ⟨bx2, 0, none⟩)) := (hoff 2 rfl).trans e2
    clear hoff hp
    have hu := Try.underlying28
    exact ov  (hK _ _ (Rl.refl _ _) trivial rfl)
   ·refine stiy 19 rfl rfl rfl rfl rfl rfl rfl rfl rfl rfl rfl fun a w' hM hI hoff hp K hK => ?_
    obtain ⟨_, e25, rfl⟩ := hp 20 rfl 25 _ rfl rfl
    clear hoff hp
    have d3 : w'.cell? ⟨bx2, 3, none⟩ = some (.int .u32 c.key) := (blk_cell (hM.chg.blk H2 (fun h => h)) 3).trans rfl
    exact ov  (hK _ _ (Rl.refl _ _) trivial rfl)
   ·refine stiy 19 rfl rfl rfl rfl rfl rfl rfl rfl rfl rfl rfl fun a w' hM hI hoff hp K hK => ?_
    have e3 : a.tmps[3]? = some (.pointer (some ⟨bx3, 0, none⟩)) := (hoff 3 rfl).trans e3
    clear hoff hp
    have hu := Try.underlying28
    exact ov  (hK _ _ (Rl.refl _ _) trivial rfl)
   ·refine stiy 19 rfl rfl rfl rfl rfl rfl rfl rfl rfl rfl rfl fun a w' hM hI hoff hp K hK => ?_
    obtain ⟨_, e27, rfl⟩ := hp 22 rfl 27 _ rfl rfl
    clear hoff hp
    have d3 : w'.cell? ⟨bx3, 3, none⟩ = some (.int .u32 c.key) := (blk_cell (hM.chg.blk H3 (fun h => h)) 3).trans rfl
    exact ov  (hK _ _ (Rl.refl _ _) trivial rfl)
   ·refine stiy 19 rfl rfl rfl rfl rfl rfl rfl rfl rfl rfl rfl fun a w' hM hI hoff hp K hK => ?_
    obtain ⟨_, e26, rfl⟩ := hp 21 rfl 26 _ rfl rfl
    obtain ⟨_, e28, rfl⟩ := hp 23 rfl 28 _ rfl rfl
    clear hoff hp
    exact ov  (hK _ _ (Rl.refl _ _) trivial rfl)
   ·refine sti rfl rfl rfl rfl rfl rfl rfl fun a w' hM hI hoff hp K hK => ?_
    obtain ⟨_, e24, rfl⟩ := hp 19 rfl 24 _ rfl rfl
    obtain ⟨_, e29, rfl⟩ := hp 24 rfl 29 _ rfl rfl
    clear hoff hp
    exact ov  (hK _ _ (Rl.refl _ _) trivial rfl)
   ·refine sti rfl rfl rfl rfl rfl rfl rfl fun a w' hM hI hoff hp K hK => ?_
    obtain ⟨_, e30, rfl⟩ := hp 25 rfl 30 _ rfl rfl
    clear hoff hp
    exact ov  (hK _ _ (Rl.refl _ _) trivial rfl)
   ·refine stiy 26 rfl rfl rfl rfl rfl rfl rfl rfl rfl rfl rfl fun a w' hM hI hoff hp K hK => ?_
    have e2 : a.tmps[2]? = some (.pointer (some ⟨bx2, 0, none⟩)) := (hoff 2 rfl).trans e2
    clear hoff hp
    have hu := Try.underlying28
    exact ov  (hK _ _ (Rl.refl _ _) trivial rfl)
   ·refine stiy 26 rfl rfl rfl rfl rfl rfl rfl rfl rfl rfl rfl fun a w' hM hI hoff hp K hK => ?_
    obtain ⟨_, e32, rfl⟩ := hp 27 rfl 32 _ rfl rfl
    clear hoff hp
    have d4 : w'.cell? ⟨bx2, 4, none⟩ = some (.int .u64 c.lo) := (blk_cell (hM.chg.blk H2 (fun h => h)) 4).trans rfl
    have d5 : w'.cell? ⟨bx2, 5, none⟩ = some (.int .u64 c.hi) := (blk_cell (hM.chg.blk H2 (fun h => h)) 5).trans rfl
    have hu := Try.underlying25
    exact ov  (hK _ _ (Rl.refl _ _) trivial rfl)
   ·refine stiy 26 rfl rfl rfl rfl rfl rfl rfl rfl rfl rfl rfl fun a w' hM hI hoff hp K hK => ?_
    have e3 : a.tmps[3]? = some (.pointer (some ⟨bx3, 0, none⟩)) := (hoff 3 rfl).trans e3
    clear hoff hp
    have hu := Try.underlying28
    exact ov  (hK _ _ (Rl.refl _ _) trivial rfl)
   ·refine stiy 26 rfl rfl rfl rfl rfl rfl rfl rfl rfl rfl rfl fun a w' hM hI hoff hp K hK => ?_
    obtain ⟨_, e34, rfl⟩ := hp 29 rfl 34 _ rfl rfl
    clear hoff hp
    have d4 : w'.cell? ⟨bx3, 4, none⟩ = some (.int .u64 c.lo) := (blk_cell (hM.chg.blk H3 (fun h => h)) 4).trans rfl
    have d5 : w'.cell? ⟨bx3, 5, none⟩ = some (.int .u64 c.hi) := (blk_cell (hM.chg.blk H3 (fun h => h)) 5).trans rfl
    have hu := Try.underlying25
    exact ov  (hK _ _ (Rl.refl _ _) trivial rfl)
   ·refine stiy 26 rfl rfl rfl rfl rfl rfl rfl rfl rfl rfl rfl fun a w' hM hI hoff hp K hK => ?_
    obtain ⟨_, e33, rfl⟩ := hp 28 rfl 33 _ rfl rfl
    obtain ⟨_, e35, rfl⟩ := hp 30 rfl 35 _ rfl rfl
    clear hoff hp
    exact ov  (hK _ _ (Rl.refl _ _) trivial rfl)
   ·refine sti rfl rfl rfl rfl rfl rfl rfl fun a w' hM hI hoff hp K hK => ?_
    obtain ⟨_, e31, rfl⟩ := hp 26 rfl 31 _ rfl rfl
    obtain ⟨_, e36, rfl⟩ := hp 31 rfl 36 _ rfl rfl
    clear hoff hp
    exact ov  (hK _ _ (Rl.refl _ _) trivial rfl)
   ·refine sti rfl rfl rfl rfl rfl rfl rfl fun a w' hM hI hoff hp K hK => ?_
    obtain ⟨_, e37, rfl⟩ := hp 32 rfl 37 _ rfl rfl
    clear hoff hp
    exact ov  (hK _ _ (Rl.refl _ _) trivial rfl)
   ·refine stiy 33 rfl rfl rfl rfl rfl rfl rfl rfl rfl rfl rfl fun a w' hM hI hoff hp K hK => ?_
    have e2 : a.tmps[2]? = some (.pointer (some ⟨bx2, 0, none⟩)) := (hoff 2 rfl).trans e2
    clear hoff hp
    have hu := Try.underlying28
    exact ov  (hK _ _ (Rl.refl _ _) trivial rfl)
   ·refine stiy 33 rfl rfl rfl rfl rfl rfl rfl rfl rfl rfl rfl fun a w' hM hI hoff hp K hK => ?_
    obtain ⟨_, e39, rfl⟩ := hp 34 rfl 39 _ rfl rfl
    clear hoff hp
    have d6 : w'.cell? ⟨bx2, 6, none⟩ = some (x6) := (blk_cell (hM.chg.blk H2 (fun h => h)) 6).trans rfl
    exact ov  (hK _ _ (Rl.refl _ _) trivial (g6.keep hM.keep))
   ·refine stiy 33 rfl rfl rfl rfl rfl rfl rfl rfl rfl rfl rfl fun a w' hM hI hoff hp K hK => ?_
    have e3 : a.tmps[3]? = some (.pointer (some ⟨bx3, 0, none⟩)) := (hoff 3 rfl).trans e3
    clear hoff hp
    have hu := Try.underlying28
    exact ov  (hK _ _ (Rl.refl _ _) trivial rfl)
   ·refine stiy 33 rfl rfl rfl rfl rfl rfl rfl rfl rfl rfl rfl fun a w' hM hI hoff hp K hK => ?_
    obtain ⟨_, e41, rfl⟩ := hp 36 rfl 41 _ rfl rfl
    clear hoff hp
    have d6 : w'.cell? ⟨bx3, 6, none⟩ = some (y6) := (blk_cell (hM.chg.blk H3 (fun h => h)) 6).trans rfl
    exact ov  (hK _ _ (Rl.refl _ _) trivial (k6.keep hM.keep))
   ·refine stiy 33 rfl rfl rfl rfl rfl rfl rfl rfl rfl rfl rfl fun a w' hM hI hoff hp K hK => ?_
    obtain ⟨v40, e40, h40⟩ := hp 35 rfl 40 _ rfl rfl
    obtain ⟨v42, e42, h42⟩ := hp 37 rfl 42 _ rfl rfl
    clear hoff hp
    refine op_call Try.func11 (by kernel_rfl) rfl #[v40, v42] rfl (by simp [Act.eval, e40, e42]) (equal_calls _ _ ho.pub ho.pub true (by simp) _ _ _ h40 h42) ?_
    rintro e w1 ⟨u, rfl, hR, hb⟩
    exact ⟨u, rfl, hK _ _ (Rl.of_below hb) trivial hR⟩
   ·refine sti rfl rfl rfl rfl rfl rfl rfl fun a w' hM hI hoff hp K hK => ?_
    obtain ⟨_, e38, rfl⟩ := hp 33 rfl 38 _ rfl rfl
    obtain ⟨_, e43, rfl⟩ := hp 38 rfl 43 _ rfl rfl
    clear hoff hp
    exact ov  (hK _ _ (Rl.refl _ _) trivial rfl)
   ·refine sti rfl rfl rfl rfl rfl rfl rfl fun a w' hM hI hoff hp K hK => ?_
    obtain ⟨_, e44, rfl⟩ := hp 39 rfl 44 _ rfl rfl
    clear hoff hp
    exact ov  (hK _ _ (Rl.refl _ _) trivial rfl)
   ·refine stiy 40 rfl rfl rfl rfl rfl rfl rfl rfl rfl rfl rfl fun a w' hM hI hoff hp K hK => ?_
    have e2 : a.tmps[2]? = some (.pointer (some ⟨bx2, 0, none⟩)) := (hoff 2 rfl).trans e2
    clear hoff hp
    have hu := Try.underlying28
    exact ov  (hK _ _ (Rl.refl _ _) trivial rfl)
   ·refine stiy 40 rfl rfl rfl rfl rfl rfl rfl rfl rfl rfl rfl fun a w' hM hI hoff hp K hK => ?_
    obtain ⟨_, e46, rfl⟩ := hp 41 rfl 46 _ rfl rfl
    clear hoff hp
    have d7 : w'.cell? ⟨bx2, 7, none⟩ = some (x7) := (blk_cell (hM.chg.blk H2 (fun h => h)) 7).trans rfl
    exact ov  (hK _ _ (Rl.refl _ _) trivial (g7.keep hM.keep))
   ·refine stiy 40 rfl rfl rfl rfl rfl rfl rfl rfl rfl rfl rfl fun a w' hM hI hoff hp K hK => ?_
    have e3 : a.tmps[3]? = some (.pointer (some ⟨bx3, 0, none⟩)) := (hoff 3 rfl).trans e3
    clear hoff hp
    have hu := Try.underlying28
    exact ov  (hK _ _ (Rl.refl _ _) trivial rfl)
   ·refine stiy 40 rfl rfl rfl rfl rfl rfl rfl rfl rfl rfl rfl fun a w' hM hI hoff hp K hK => ?_
    obtain ⟨_, e48, rfl⟩ := hp 43 rfl 48 _ rfl rfl
    clear hoff hp
    have d7 : w'.cell? ⟨bx3, 7, none⟩ = some (y7) := (blk_cell (hM.chg.blk H3 (fun h => h)) 7).trans rfl
    exact ov  (hK _ _ (Rl.refl _ _) trivial (k7.keep hM.keep))
   ·refine stiy 40 rfl rfl rfl rfl rfl rfl rfl rfl rfl rfl rfl fun a w' hM hI hoff hp K hK => ?_
    obtain ⟨v47, e47, h47⟩ := hp 42 rfl 47 _ rfl rfl
    obtain ⟨v49, e49, h49⟩ := hp 44 rfl 49 _ rfl rfl
    clear hoff hp
    refine op_call Try.func11 (by kernel_rfl) rfl #[v47, v49] rfl (by simp [Act.eval, e47, e49]) (equal_calls _ _ ho.ct ho.ct true (by simp) _ _ _ h47 h49) ?_
    rintro e w1 ⟨u, rfl, hR, hb⟩
    exact ⟨u, rfl, hK _ _ (Rl.of_below hb) trivial hR⟩
   ·refine sti rfl rfl rfl rfl rfl rfl rfl fun a w' hM hI hoff hp K hK => ?_
    obtain ⟨_, e45, rfl⟩ := hp 40 rfl 45 _ rfl rfl
    obtain ⟨_, e50, rfl⟩ := hp 45 rfl 50 _ rfl rfl
    clear hoff hp
    exact ov  (hK _ _ (Rl.refl _ _) trivial rfl)
   ·refine sti rfl rfl rfl rfl rfl rfl rfl fun a w' hM hI hoff hp K hK => ?_
    obtain ⟨_, e51, rfl⟩ := hp 46 rfl 51 _ rfl rfl
    clear hoff hp
    exact ov  (hK _ _ (Rl.refl _ _) trivial rfl)
   ·refine stiy 47 rfl rfl rfl rfl rfl rfl rfl rfl rfl rfl rfl fun a w' hM hI hoff hp K hK => ?_
    have e2 : a.tmps[2]? = some (.pointer (some ⟨bx2, 0, none⟩)) := (hoff 2 rfl).trans e2
    clear hoff hp
    have hu := Try.underlying28
    exact ov  (hK _ _ (Rl.refl _ _) trivial rfl)
   ·refine stiy 47 rfl rfl rfl rfl rfl rfl rfl rfl rfl rfl rfl fun a w' hM hI hoff hp K hK => ?_
    obtain ⟨_, e53, rfl⟩ := hp 48 rfl 53 _ rfl rfl
    clear hoff hp
    have d8 : w'.cell? ⟨bx2, 8, none⟩ = some (x8) := (blk_cell (hM.chg.blk H2 (fun h => h)) 8).trans rfl
    exact ov  (hK _ _ (Rl.refl _ _) trivial (g8.keep hM.keep))
   ·refine stiy 47 rfl rfl rfl rfl rfl rfl rfl rfl rfl rfl rfl fun a w' hM hI hoff hp K hK => ?_
    have e3 : a.tmps[3]? = some (.pointer (some ⟨bx3, 0, none⟩)) := (hoff 3 rfl).trans e3
    clear hoff hp
    have hu := Try.underlying28
    exact ov  (hK _ _ (Rl.refl _ _) trivial rfl)
   ·refine stiy 47 rfl rfl rfl rfl rfl rfl rfl rfl rfl rfl rfl fun a w' hM hI hoff hp K hK => ?_
    obtain ⟨_, e55, rfl⟩ := hp 50 rfl 55 _ rfl rfl
    clear hoff hp
    have d8 : w'.cell? ⟨bx3, 8, none⟩ = some (y8) := (blk_cell (hM.chg.blk H3 (fun h => h)) 8).trans rfl
    exact ov  (hK _ _ (Rl.refl _ _) trivial (k8.keep hM.keep))
   ·refine stiy 47 rfl rfl rfl rfl rfl rfl rfl rfl rfl rfl rfl fun a w' hM hI hoff hp K hK => ?_
    obtain ⟨v54, e54, h54⟩ := hp 49 rfl 54 _ rfl rfl
    obtain ⟨v56, e56, h56⟩ := hp 51 rfl 56 _ rfl rfl
    clear hoff hp
    refine op_call Try.func11 (by kernel_rfl) rfl #[v54, v56] rfl (by simp [Act.eval, e54, e56]) (equal_calls _ _ ho.sl ho.sl true (by simp) _ _ _ h54 h56) ?_
    rintro e w1 ⟨u, rfl, hR, hb⟩
    exact ⟨u, rfl, hK _ _ (Rl.of_below hb) trivial hR⟩
   ·refine sti rfl rfl rfl rfl rfl rfl rfl fun a w' hM hI hoff hp K hK => ?_
    obtain ⟨_, e52, rfl⟩ := hp 47 rfl 52 _ rfl rfl
    obtain ⟨_, e57, rfl⟩ := hp 52 rfl 57 _ rfl rfl
    clear hoff hp
    exact ov  (hK _ _ (Rl.refl _ _) trivial rfl)
   ·refine sti rfl rfl rfl rfl rfl rfl rfl fun a w' hM hI hoff hp K hK => ?_
    obtain ⟨_, e58, rfl⟩ := hp 53 rfl 58 _ rfl rfl
    clear hoff hp
    exact ov  (hK _ _ (Rl.refl _ _) trivial rfl)
   ·refine stiy 54 rfl rfl rfl rfl rfl rfl rfl rfl rfl rfl rfl fun a w' hM hI hoff hp K hK => ?_
    have e2 : a.tmps[2]? = some (.pointer (some ⟨bx2, 0, none⟩)) := (hoff 2 rfl).trans e2
    clear hoff hp
    have hu := Try.underlying28
    exact ov  (hK _ _ (Rl.refl _ _) trivial rfl)
   ·refine stiy 54 rfl rfl rfl rfl rfl rfl rfl rfl rfl rfl rfl fun a w' hM hI hoff hp K hK => ?_
    obtain ⟨_, e60, rfl⟩ := hp 55 rfl 60 _ rfl rfl
    clear hoff hp
    have d9 : w'.cell? ⟨bx2, 9, none⟩ = some (x9) := (blk_cell (hM.chg.blk H2 (fun h => h)) 9).trans rfl
    exact ov  (hK _ _ (Rl.refl _ _) trivial (g9.keep hM.keep))
   ·refine stiy 54 rfl rfl rfl rfl rfl rfl rfl rfl rfl rfl rfl fun a w' hM hI hoff hp K hK => ?_
    have e3 : a.tmps[3]? = some (.pointer (some ⟨bx3, 0, none⟩)) := (hoff 3 rfl).trans e3
    clear hoff hp
    have hu := Try.underlying28
    exact ov  (hK _ _ (Rl.refl _ _) trivial rfl)
   ·refine stiy 54 rfl rfl rfl rfl rfl rfl rfl rfl rfl rfl rfl fun a w' hM hI hoff hp K hK => ?_
    obtain ⟨_, e62, rfl⟩ := hp 57 rfl 62 _ rfl rfl
    clear hoff hp
    have d9 : w'.cell? ⟨bx3, 9, none⟩ = some (y9) := (blk_cell (hM.chg.blk H3 (fun h => h)) 9).trans rfl
    exact ov  (hK _ _ (Rl.refl _ _) trivial (k9.keep hM.keep))
   ·refine stiy 54 rfl rfl rfl rfl rfl rfl rfl rfl rfl rfl rfl fun a w' hM hI hoff hp K hK => ?_
    obtain ⟨v61, e61, h61⟩ := hp 56 rfl 61 _ rfl rfl
    obtain ⟨v63, e63, h63⟩ := hp 58 rfl 63 _ rfl rfl
    clear hoff hp
    refine op_call Try.func11 (by kernel_rfl) rfl #[v61, v63] rfl (by simp [Act.eval, e61, e63]) (equal_calls _ _ ho.sig ho.sig true (by simp) _ _ _ h61 h63) ?_
    rintro e w1 ⟨u, rfl, hR, hb⟩
    exact ⟨u, rfl, hK _ _ (Rl.of_below hb) trivial hR⟩
   ·refine sti rfl rfl rfl rfl rfl rfl rfl fun a w' hM hI hoff hp K hK => ?_
    obtain ⟨_, e59, rfl⟩ := hp 54 rfl 59 _ rfl rfl
    obtain ⟨_, e64, rfl⟩ := hp 59 rfl 64 _ rfl rfl
    clear hoff hp
    exact ov  (hK _ _ (Rl.refl _ _) trivial rfl)
   ·refine sti rfl rfl rfl rfl rfl rfl rfl fun a w' hM hI hoff hp K hK => ?_
    obtain ⟨_, e65, rfl⟩ := hp 60 rfl 65 _ rfl rfl
    clear hoff hp
    exact ov  (hK _ _ (Rl.refl _ _) trivial rfl)
  intro a5 w5 sz1 df1 hoff hvv hRl hJ
  replace H2 := hRl.chg.blk H2 (fun h => h.elim)
  replace H3 := hRl.chg.blk H3 (fun h => h.elim)
  replace g6 := g6.keep hRl.keep
  replace g7 := g7.keep hRl.keep
  replace g8 := g8.keep hRl.keep
  replace g9 := g9.keep hRl.keep
  replace k6 := k6.keep hRl.keep
  replace k7 := k7.keep hRl.keep
  replace k8 := k8.keep hRl.keep
  replace k9 := k9.keep hRl.keep
  replace CH := CH.trans hRl.chg (fun _ _ h => h.elim)
  replace K8 := K8.trans hRl.keep
  obtain ⟨_, e4, rfl⟩ := hvv 61 _ _ rfl rfl
  replace e0 := (hoff 0 rfl).trans e0
  replace e1 := (hoff 1 rfl).trans e1
  replace e2 := (hoff 2 rfl).trans e2
  replace e3 := (hoff 3 rfl).trans e3
  replace sz := sz1
  replace df := df1.trans df
  have Zw5 : w.heap.size ≤ w5.heap.size := CH.size
  clear sz1 df1 hoff hvv hRl hJ
  refine wpo_all rfl ?_
  refine hKK2 _ _ ?_
  refine wp_ret ?_
  exact ret1 rfl df e4 ⟨_, rfl, rfl, CH.below (fun _ _ h => h)⟩
end Go.Proofs.Ytgacaemgmgoiaaa.QLeaf
