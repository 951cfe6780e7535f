import Derived.Test.YtgacaemgmgoiaaaCap2b
import Derived.Test.YtgacaemgmgoiaaaQLeafx13

/- The law's live. -/
namespace Go.Proofs.Ytgacaemgmgoiaaa.QLeaf
open Go.RowKit Go.Proofs.YtgacaemgmgoiaaaW.PrintWords Go.Proofs.YtgacaemgmgoiaaaW.PrintLast Go.Proofs.YtgacaemgmgoiaaaW.PrintMore Go.Proofs.YtgacaemgmgoiaaaW.Cm Go.Proofs.YtgacaemgmgoiaaaW.Rg
set_option linter.unusedVariables false
set_option linter.unusedSimpArgs false
def cLive : Cp := ⟨1, 2, 3, 4, 5, 6, [7], [], [], []⟩
def sLive : List Int := [1, 2, 0, 0, 0, 3, 0, 0, 0, 4, 0, 0, 0, 0, 0, 0, 0, 5, 0, 0, 0, 0, 0, 0, 0, 6, 0, 1, 7]
theorem cLive_ok : cLive.Ok := by
  constructor <;> simp [cLive, Byt]
theorem cLive_said : (if cLive.Spoken then cLive.said else []) = sLive := by decide +kernel
theorem chunks_live (v : Value) (w : World) {B : Nat} (hv : Row B w v [1, 2, 3, 4, 5]) : Ret 23 #[v, .int .i64 2] w (isTupRs [[1, 2], [3, 4], [5]] 0) := by
  obtain ⟨A, c, rfl, hl, hC, _⟩ := hv
  refine (capsule_Chunks.calls 30 (fun k => k < w.heap.size) A c [1, 2, 3, 4, 5] 2 [[1, 2], [3, 4], [5]] 0 w (Kd.V_mk hl (Kd.C_F (Kd.heap_int _) hC)) (by decide +kernel)).mono fun e w' ⟨u, he, hN, hB⟩ => ⟨_, he, ⟨u, rfl, ?_⟩, hB⟩
  obtain ⟨A', c', hu, h1, h2⟩ := Kd.N_reads hN
  exact ⟨A', c', hu, h1, h2⟩
/-- What a struct of live's is. -/
def isCap (c : Cp) : Value → World → Prop := fun v w => CapV 0 w v c
theorem stb_Cap (c : Cp) : Stb (isCap c) := fun _ _ _ hm h => CapV.mono h hm
set_option maxHeartbeats 1000000 in
set_option maxRecDepth 100000 in
theorem live_calls (w : World) : Ret 7 #[] w (isV (.bool true)) := by
  go_enter Try.func7, Try.ntmps7
  have HBw : Below w.heap.size w w := Below.refl _ _
  (try simp only [Exit.inBlock, Exit.then])
  repeat (refine wp_seq ?_)
  refine rgs (B := w.heap.size) (w0 := w) [0] [isV (.bool false)] rfl (by decide) rfl HBw ?_ ?_ ?_
  · exact (stb_cons (stb_V _) stb_nil)
  ·refine stepf_cons ?_ stepf_nil
   ·refine stp rfl rfl rfl rfl rfl fun a w' hB hM hoff hp K hK => ?_
    exact op_val (by first | (go_simp; done) | (go_simp; rfl)) (hK _ _ hB (Mono.refl _) rfl)
  intro V1 w1 HB1 M1 hφ
  simp only [fillAll, Act.put, List.setIfInBounds_toArray, List.set_cons_zero, List.set_cons_succ]
  have z0 : V1 0 = .bool false := hφ 0 _ rfl (by decide)
  simp only [z0]
  clear hφ
  (try simp only [Exit.inBlock, Exit.then])
  repeat (refine wp_seq ?_)
  refine rgs (B := w.heap.size) (w0 := w) [5, 6, 4, 7, 8, 1, 2] [isRow w.heap.size [1, 2, 3, 4, 5], isTupRs [[1, 2], [3, 4], [5]] 0, isTupRs [[1, 2], [3, 4], [5]] 0, isRows [[1, 2], [3, 4], [5]], isV (.int .i64 0), isRows [[1, 2], [3, 4], [5]], isV (.int .i64 0)] rfl (by decide) rfl HB1 ?_ ?_ ?_
  · exact (stb_cons (stb_Row _ _) (stb_cons (stb_TupRs _ _) (stb_cons (stb_TupRs _ _) (stb_cons (stb_Rows _) (stb_cons (stb_V _) (stb_cons (stb_Rows _) (stb_cons (stb_V _) stb_nil)))))))
  ·refine stepf_cons ?_ (stepf_cons ?_ (stepf_cons ?_ (stepf_cons ?_ (stepf_cons ?_ (stepf_cons ?_ (stepf_cons ?_ stepf_nil))))))
   ·refine stp rfl rfl rfl rfl rfl fun a w' hB hM hoff hp K hK => ?_
    refine op_val (v := .slice (some ⟨w'.heap.size, 0, none⟩) 5 5) (w' := w'.alloc (.cells #[.int .u8 1, .int .u8 2, .int .u8 3, .int .u8 4, .int .u8 5] 5)) (by first | (go_simp; done) | (go_simp; rfl)) (hK _ _ (below_then hB hB.size (below_alloc (Below.refl _ _) _)) (Mono.alloc _ _) ?_)
    exact Row.lit (l := [1, 2, 3, 4, 5]) hB.size (by simp)
   ·refine stp rfl rfl rfl rfl rfl fun a w' hB hM hoff hp K hK => ?_
    obtain ⟨v5, e5, h5⟩ := hp 0 rfl 5 _ rfl rfl
    refine op_call Try.func23 (by kernel_rfl) rfl #[v5, .int .i64 2] rfl (by simp [e5, Act.eval]) (chunks_live _ _ h5) ?_
    rintro e w1 ⟨u, rfl, hR, hb⟩
    exact ⟨u, rfl, hK _ _ (below_then hB hB.size hb) (Mono.of_below hb) hR⟩
   ·refine stp rfl rfl rfl rfl rfl fun a w' hB hM hoff hp K hK => ?_
    obtain ⟨v6, e6, h6⟩ := hp 1 rfl 6 _ rfl rfl
    exact op_val (by first | (go_simp; done) | (go_simp; rfl)) (hK _ _ hB (Mono.refl _) h6)
   ·refine stp rfl rfl rfl rfl rfl fun a w' hB hM hoff hp K hK => ?_
    obtain ⟨v4, e4, h4⟩ := hp 2 rfl 4 _ rfl rfl
    obtain ⟨u, ev, hR⟩ := h4
    subst ev
    exact op_val (by first | (go_simp; done) | (go_simp; rfl)) (hK _ _ hB (Mono.refl _) hR)
   ·refine stp rfl rfl rfl rfl rfl fun a w' hB hM hoff hp K hK => ?_
    obtain ⟨v4, e4, h4⟩ := hp 2 rfl 4 _ rfl rfl
    obtain ⟨u, ev, hR⟩ := h4
    subst ev
    exact op_val (by first | (go_simp; done) | (go_simp; rfl)) (hK _ _ hB (Mono.refl _) rfl)
   ·refine stp rfl rfl rfl rfl rfl fun a w' hB hM hoff hp K hK => ?_
    obtain ⟨v7, e7, h7⟩ := hp 3 rfl 7 _ rfl rfl
    exact op_val (by first | (go_simp; done) | (go_simp; rfl)) (hK _ _ hB (Mono.refl _) h7)
   ·refine stp rfl rfl rfl rfl rfl fun a w' hB hM hoff hp K hK => ?_
    obtain ⟨_, e8, rfl⟩ := hp 4 rfl 8 _ rfl rfl
    exact op_val (by first | (go_simp; done) | (go_simp; rfl)) (hK _ _ hB (Mono.refl _) rfl)
  intro V2 w2 HB2 M2 hφ
  simp only [fillAll, Act.put, List.setIfInBounds_toArray, List.set_cons_zero, List.set_cons_succ]
  have K5 : Row w.heap.size w2 (V2 0) [1, 2, 3, 4, 5] := hφ 0 _ rfl (by decide)
  have K7 : RowsB w2 (V2 3) [[1, 2], [3, 4], [5]] := hφ 3 _ rfl (by decide)
  have z8 : V2 4 = .int .i64 0 := hφ 4 _ rfl (by decide)
  have K1 : RowsB w2 (V2 5) [[1, 2], [3, 4], [5]] := hφ 5 _ rfl (by decide)
  have z2 : V2 6 = .int .i64 0 := hφ 6 _ rfl (by decide)
  simp only [z8, z2]
  clear hφ
  (try simp only [Exit.inBlock, Exit.then])
  repeat (refine wp_seq ?_)
  refine rgs (B := w.heap.size) (w0 := w) [9, 10, 11, 12, 3] [isV (.agg #[.int .u64 5, .int .u64 6]), isRow w.heap.size [7], isCap cLive, isRow w.heap.size sLive, isRow w.heap.size sLive] rfl (by decide) rfl HB2 ?_ ?_ ?_
  · exact (stb_cons (stb_V _) (stb_cons (stb_Row _ _) (stb_cons (stb_Cap _) (stb_cons (stb_Row _ _) (stb_cons (stb_Row _ _) stb_nil)))))
  ·refine stepf_cons ?_ (stepf_cons ?_ (stepf_cons ?_ (stepf_cons ?_ (stepf_cons ?_ stepf_nil))))
   ·refine stp rfl rfl rfl rfl rfl fun a w' hB hM hoff hp K hK => ?_
    have hu := Try.underlying25
    exact op_val (by first | (go_simp; done) | (go_simp; rfl)) (hK _ _ hB (Mono.refl _) rfl)
   ·refine stp rfl rfl rfl rfl rfl fun a w' hB hM hoff hp K hK => ?_
    refine op_val (v := .slice (some ⟨w'.heap.size, 0, none⟩) 1 1) (w' := w'.alloc (.cells #[.int .u8 7] 5)) (by first | (go_simp; done) | (go_simp; rfl)) (hK _ _ (below_then hB hB.size (below_alloc (Below.refl _ _) _)) (Mono.alloc _ _) ?_)
    exact Row.lit (l := [7]) hB.size (by simp)
   ·refine stp rfl rfl rfl rfl rfl fun a w' hB hM hoff hp K hK => ?_
    obtain ⟨v10, e10, h10⟩ := hp 1 rfl 10 _ rfl rfl
    obtain ⟨_, e9, rfl⟩ := hp 0 rfl 9 _ rfl rfl
    have k10 := h10.lower (Nat.zero_le _)
    obtain ⟨X10, y10, rfl, _, _, _⟩ := h10
    have hu := Try.underlying28
    have hu2 := Try.underlying25
    exact op_val (v := .agg #[.int .i64 1, .int .i64 2, .int .u32 3, .int .u32 4, .int .u64 5, .int .u64 6, .slice X10 1 y10, .slice none 0 0, .slice none 0 0, .slice none 0 0]) (by first | (go_simp; done) | (go_simp; rfl)) (hK _ _ hB (Mono.refl _) ⟨_, _, _, _, rfl, k10, Row.nil _ _, Row.nil _ _, Row.nil _ _⟩)
   ·refine stp rfl rfl rfl rfl rfl fun a w' hB hM hoff hp K hK => ?_
    obtain ⟨v11, e11, h11⟩ := hp 2 rfl 11 _ rfl rfl
    refine op_call Try.func16 (by kernel_rfl) rfl #[v11] rfl (by simp [ev e11]) ((Said_calls cLive cLive_ok (by decide) (by decide) (by decide) (by decide) _ _ h11).mono (fun e w' h3 => by rw [cLive_said] at h3; exact h3)) ?_
    rintro e w1 ⟨u, rfl, hR, hb⟩
    exact ⟨u, rfl, hK _ _ (below_then hB hB.size hb) (Mono.of_below hb) (hR.lower hB.size)⟩
   ·refine stp rfl rfl rfl rfl rfl fun a w' hB hM hoff hp K hK => ?_
    obtain ⟨v12, e12, h12⟩ := hp 3 rfl 12 _ rfl rfl
    exact op_val (by first | (go_simp; done) | (go_simp; rfl)) (hK _ _ hB (Mono.refl _) h12)
  intro V3 w3 HB3 M3 hφ
  simp only [fillAll, Act.put, List.setIfInBounds_toArray, List.set_cons_zero, List.set_cons_succ]
  replace K5 := K5.mono M3
  replace K7 := K7.mono M3
  replace K1 := K1.mono M3
  have z9 : V3 0 = .agg #[.int .u64 5, .int .u64 6] := hφ 0 _ rfl (by decide)
  have K10 : Row w.heap.size w3 (V3 1) [7] := hφ 1 _ rfl (by decide)
  have K12 : Row w.heap.size w3 (V3 3) sLive := hφ 3 _ rfl (by decide)
  have K3 : Row w.heap.size w3 (V3 4) sLive := hφ 4 _ rfl (by decide)
  simp only [z9]
  clear hφ
  (try simp only [Exit.inBlock, Exit.then])
  repeat (refine wp_seq ?_)
  refine rgs (B := w.heap.size) (w0 := w) [13, 14, 15, 16, 17, 18, 19, 20, 21, 22, 23, 24, 25, 26, 27, 28, 29, 30, 31, 32, 33, 34, 35, 36, 37, 38, 39, 40, 41, 42, 43, 44, 45, 46, 47, 48, 49, 0] [isV (V2 5), isV (.int .i64 3), isV (.bool true), isV (.bool true), isV (.int .i64 0), isV (.bool true), isV (.bool true), isV (.bool true), isV (V2 5), isPtrR [5], isRow 0 [5], isRow w.heap.size [5], isV (.bool true), isV (.bool true), isV (.bool true), isV (V3 4), isV (.int .i64 29), isV (.bool true), isV (.bool true), isV (.bool true), isV (V3 4), isPtr (.int .u8 1), isV (.int .u8 1), isV (.bool true), isV (.bool true), isV (.bool true), isV (V3 4), isPtr (.int .u8 3), isV (.int .u8 3), isV (.bool true), isV (.bool true), isV (.bool true), isV (V3 4), isPtr (.int .u8 7), isV (.int .u8 7), isV (.bool true), isV (.bool true), isV (.bool true)] rfl (by decide) rfl HB3 ?_ ?_ ?_
  · exact (stb_cons (stb_V _) (stb_cons (stb_V _) (stb_cons (stb_V _) (stb_cons (stb_V _) (stb_cons (stb_V _) (stb_cons (stb_V _) (stb_cons (stb_V _) (stb_cons (stb_V _) (stb_cons (stb_V _) (stb_cons (stb_PtrR _) (stb_cons (stb_Row _ _) (stb_cons (stb_Row _ _) (stb_cons (stb_V _) (stb_cons (stb_V _) (stb_cons (stb_V _) (stb_cons (stb_V _) (stb_cons (stb_V _) (stb_cons (stb_V _) (stb_cons (stb_V _) (stb_cons (stb_V _) (stb_cons (stb_V _) (stb_cons (stb_Ptr _) (stb_cons (stb_V _) (stb_cons (stb_V _) (stb_cons (stb_V _) (stb_cons (stb_V _) (stb_cons (stb_V _) (stb_cons (stb_Ptr _) (stb_cons (stb_V _) (stb_cons (stb_V _) (stb_cons (stb_V _) (stb_cons (stb_V _) (stb_cons (stb_V _) (stb_cons (stb_Ptr _) (stb_cons (stb_V _) (stb_cons (stb_V _) (stb_cons (stb_V _) (stb_cons (stb_V _) stb_nil))))))))))))))))))))))))))))))))))))))
  ·refine stepf_cons ?_ (stepf_cons ?_ (stepf_cons ?_ (stepf_cons ?_ (stepf_cons ?_ (stepf_cons ?_ (stepf_cons ?_ (stepf_cons ?_ (stepf_cons ?_ (stepf_cons ?_ (stepf_cons ?_ (stepf_cons ?_ (stepf_cons ?_ (stepf_cons ?_ (stepf_cons ?_ (stepf_cons ?_ (stepf_cons ?_ (stepf_cons ?_ (stepf_cons ?_ (stepf_cons ?_ (stepf_cons ?_ (stepf_cons ?_ (stepf_cons ?_ (stepf_cons ?_ (stepf_cons ?_ (stepf_cons ?_ (stepf_cons ?_ (stepf_cons ?_ (stepf_cons ?_ (stepf_cons ?_ (stepf_cons ?_ (stepf_cons ?_ (stepf_cons ?_ (stepf_cons ?_ (stepf_cons ?_ (stepf_cons ?_ (stepf_cons ?_ (stepf_cons ?_ stepf_nil)))))))))))))))))))))))))))))))))))))
   ·refine stp rfl rfl rfl rfl rfl fun a w' hB hM hoff hp K hK => ?_
    have e1 : a.tmps[1]? = some (V2 5) := (hoff 1 rfl).trans rfl
    exact op_val (by first | (go_simp; done) | (go_simp; rfl)) (hK _ _ hB (Mono.refl _) rfl)
   ·refine stp rfl rfl rfl rfl rfl fun a w' hB hM hoff hp K hK => ?_
    obtain ⟨_, e13, rfl⟩ := hp 0 rfl 13 _ rfl rfl
    obtain ⟨_, _, ev, _⟩ := (K1.mono hM)
    rw [ev] at e13
    exact op_val (by first | (go_simp; done) | (go_simp; rfl)) (hK _ _ hB (Mono.refl _) rfl)
   ·refine stp rfl rfl rfl rfl rfl fun a w' hB hM hoff hp K hK => ?_
    obtain ⟨_, e14, rfl⟩ := hp 1 rfl 14 _ rfl rfl
    exact op_val (by first | (go_simp; done) | (go_simp; rfl)) (hK _ _ hB (Mono.refl _) rfl)
   ·refine stp rfl rfl rfl rfl rfl fun a w' hB hM hoff hp K hK => ?_
    obtain ⟨_, e15, rfl⟩ := hp 2 rfl 15 _ rfl rfl
    exact op_val (by first | (go_simp; done) | (go_simp; rfl)) (hK _ _ hB (Mono.refl _) rfl)
   ·refine stpy 3 rfl rfl rfl rfl rfl rfl rfl rfl rfl fun a w' hB hM hoff hp K hK => ?_
    have e2 : a.tmps[2]? = some (.int .i64 0) := (hoff 2 rfl).trans rfl
    exact op_val (by first | (go_simp; done) | (go_simp; rfl)) (hK _ _ hB (Mono.refl _) rfl)
   ·refine stpy 3 rfl rfl rfl rfl rfl rfl rfl rfl rfl fun a w' hB hM hoff hp K hK => ?_
    obtain ⟨_, e17, rfl⟩ := hp 4 rfl 17 _ rfl rfl
    exact op_val (by first | (go_simp; done) | (go_simp; rfl)) (hK _ _ hB (Mono.refl _) rfl)
   ·refine stp rfl rfl rfl rfl rfl fun a w' hB hM hoff hp K hK => ?_
    obtain ⟨_, e16, rfl⟩ := hp 3 rfl 16 _ rfl rfl
    obtain ⟨_, e18, rfl⟩ := hp 5 rfl 18 _ rfl rfl
    exact op_val (by first | (go_simp; done) | (go_simp; rfl)) (hK _ _ hB (Mono.refl _) rfl)
   ·refine stp rfl rfl rfl rfl rfl fun a w' hB hM hoff hp K hK => ?_
    obtain ⟨_, e19, rfl⟩ := hp 6 rfl 19 _ rfl rfl
    exact op_val (by first | (go_simp; done) | (go_simp; rfl)) (hK _ _ hB (Mono.refl _) rfl)
   ·refine stpy 7 rfl rfl rfl rfl rfl rfl rfl rfl rfl fun a w' hB hM hoff hp K hK => ?_
    have e1 : a.tmps[1]? = some (V2 5) := (hoff 1 rfl).trans rfl
    exact op_val (by first | (go_simp; done) | (go_simp; rfl)) (hK _ _ hB (Mono.refl _) rfl)
   ·refine stpy 7 rfl rfl rfl rfl rfl rfl rfl rfl rfl fun a w' hB hM hoff hp K hK => ?_
    obtain ⟨_, e21, rfl⟩ := hp 8 rfl 21 _ rfl rfl
    obtain ⟨ad, hrun, hP⟩ := rows_at (P := Try.prog) (K1.mono hM) 43 26 Try.underlying43 size26 2 [5] rfl
    have hsl : (Instr.indexAt 43 (V2 5) (.int .i64 2)).run Try.prog w' = .ok (.pointer (some ad)) w' := hrun w'
    exact op_val (v := .pointer (some ad)) (by first | (go_simp; done) | (go_simp; rfl)) (hK _ _ hB (Mono.refl _) hP)
   ·refine stpy 7 rfl rfl rfl rfl rfl rfl rfl rfl rfl fun a w' hB hM hoff hp K hK => ?_
    obtain ⟨v22, e22, h22⟩ := hp 9 rfl 22 _ rfl rfl
    obtain ⟨ad, u, rfl, hc, hR⟩ := h22
    exact op_val (v := u) (by first | (go_simp; done) | (go_simp; rfl)) (hK _ _ hB (Mono.refl _) hR)
   ·refine stpy 7 rfl rfl rfl rfl rfl rfl rfl rfl rfl fun a w' hB hM hoff hp K hK => ?_
    refine op_val (v := .slice (some ⟨w'.heap.size, 0, none⟩) 1 1) (w' := w'.alloc (.cells #[.int .u8 5] 5)) (by first | (go_simp; done) | (go_simp; rfl)) (hK _ _ (below_then hB hB.size (below_alloc (Below.refl _ _) _)) (Mono.alloc _ _) ?_)
    exact Row.lit (l := [5]) hB.size (by simp)
   ·refine stpy 7 rfl rfl rfl rfl rfl rfl rfl rfl rfl fun a w' hB hM hoff hp K hK => ?_
    obtain ⟨v23, e23, h23⟩ := hp 10 rfl 23 _ rfl rfl
    obtain ⟨v24, e24, h24⟩ := hp 11 rfl 24 _ rfl rfl
    refine op_call Try.func11 (by kernel_rfl) rfl #[v23, v24] rfl (by simp [ev e23, ev e24]) (equal_calls [5] [5] (by simp [Byt]) (by simp [Byt]) true (by simp) _ _ _ h23 h24) ?_
    rintro e w1 ⟨u, rfl, hR, hb⟩
    exact ⟨u, rfl, hK _ _ (below_then hB hB.size hb) (Mono.of_below hb) hR⟩
   ·refine stp rfl rfl rfl rfl rfl fun a w' hB hM hoff hp K hK => ?_
    obtain ⟨_, e20, rfl⟩ := hp 7 rfl 20 _ rfl rfl
    obtain ⟨_, e25, rfl⟩ := hp 12 rfl 25 _ rfl rfl
    exact op_val (by first | (go_simp; done) | (go_simp; rfl)) (hK _ _ hB (Mono.refl _) rfl)
   ·refine stp rfl rfl rfl rfl rfl fun a w' hB hM hoff hp K hK => ?_
    obtain ⟨_, e26, rfl⟩ := hp 13 rfl 26 _ rfl rfl
    exact op_val (by first | (go_simp; done) | (go_simp; rfl)) (hK _ _ hB (Mono.refl _) rfl)
   ·refine stpy 14 rfl rfl rfl rfl rfl rfl rfl rfl rfl fun a w' hB hM hoff hp K hK => ?_
    have e3 : a.tmps[3]? = some (V3 4) := (hoff 3 rfl).trans rfl
    exact op_val (by first | (go_simp; done) | (go_simp; rfl)) (hK _ _ hB (Mono.refl _) rfl)
   ·refine stpy 14 rfl rfl rfl rfl rfl rfl rfl rfl rfl fun a w' hB hM hoff hp K hK => ?_
    obtain ⟨_, e28, rfl⟩ := hp 15 rfl 28 _ rfl rfl
    obtain ⟨_, _, ev, _⟩ := (K3.mono hM)
    rw [ev] at e28
    exact op_val (by first | (go_simp; done) | (go_simp; rfl)) (hK _ _ hB (Mono.refl _) rfl)
   ·refine stpy 14 rfl rfl rfl rfl rfl rfl rfl rfl rfl fun a w' hB hM hoff hp K hK => ?_
    obtain ⟨_, e29, rfl⟩ := hp 16 rfl 29 _ rfl rfl
    exact op_val (by first | (go_simp; done) | (go_simp; rfl)) (hK _ _ hB (Mono.refl _) rfl)
   ·refine stp rfl rfl rfl rfl rfl fun a w' hB hM hoff hp K hK => ?_
    obtain ⟨_, e27, rfl⟩ := hp 14 rfl 27 _ rfl rfl
    obtain ⟨_, e30, rfl⟩ := hp 17 rfl 30 _ rfl rfl
    exact op_val (by first | (go_simp; done) | (go_simp; rfl)) (hK _ _ hB (Mono.refl _) rfl)
   ·refine stp rfl rfl rfl rfl rfl fun a w' hB hM hoff hp K hK => ?_
    obtain ⟨_, e31, rfl⟩ := hp 18 rfl 31 _ rfl rfl
    exact op_val (by first | (go_simp; done) | (go_simp; rfl)) (hK _ _ hB (Mono.refl _) rfl)
   ·refine stpy 19 rfl rfl rfl rfl rfl rfl rfl rfl rfl fun a w' hB hM hoff hp K hK => ?_
    have e3 : a.tmps[3]? = some (V3 4) := (hoff 3 rfl).trans rfl
    exact op_val (by first | (go_simp; done) | (go_simp; rfl)) (hK _ _ hB (Mono.refl _) rfl)
   ·refine stpy 19 rfl rfl rfl rfl rfl rfl rfl rfl rfl fun a w' hB hM hoff hp K hK => ?_
    obtain ⟨_, e33, rfl⟩ := hp 20 rfl 33 _ rfl rfl
    obtain ⟨ad, hrun, hP⟩ := row_at (P := Try.prog) (K3.mono hM) 26 5 Try.underlying26 size5 0 1 rfl
    have hsl : (Instr.indexAt 26 (V3 4) (.int .i64 0)).run Try.prog w' = .ok (.pointer (some ad)) w' := hrun w'
    exact op_val (v := .pointer (some ad)) (by first | (go_simp; done) | (go_simp; rfl)) (hK _ _ hB (Mono.refl _) hP)
   ·refine stpy 19 rfl rfl rfl rfl rfl rfl rfl rfl rfl fun a w' hB hM hoff hp K hK => ?_
    obtain ⟨v34, e34, h34⟩ := hp 21 rfl 34 _ rfl rfl
    obtain ⟨ad, rfl, hc⟩ := h34
    exact op_val (by first | (go_simp; done) | (go_simp; rfl)) (hK _ _ hB (Mono.refl _) rfl)
   ·refine stpy 19 rfl rfl rfl rfl rfl rfl rfl rfl rfl fun a w' hB hM hoff hp K hK => ?_
    obtain ⟨_, e35, rfl⟩ := hp 22 rfl 35 _ rfl rfl
    exact op_val (by first | (go_simp; done) | (go_simp; rfl)) (hK _ _ hB (Mono.refl _) rfl)
   ·refine stp rfl rfl rfl rfl rfl fun a w' hB hM hoff hp K hK => ?_
    obtain ⟨_, e32, rfl⟩ := hp 19 rfl 32 _ rfl rfl
    obtain ⟨_, e36, rfl⟩ := hp 23 rfl 36 _ rfl rfl
    exact op_val (by first | (go_simp; done) | (go_simp; rfl)) (hK _ _ hB (Mono.refl _) rfl)
   ·refine stp rfl rfl rfl rfl rfl fun a w' hB hM hoff hp K hK => ?_
    obtain ⟨_, e37, rfl⟩ := hp 24 rfl 37 _ rfl rfl
    exact op_val (by first | (go_simp; done) | (go_simp; rfl)) (hK _ _ hB (Mono.refl _) rfl)
   ·refine stpy 25 rfl rfl rfl rfl rfl rfl rfl rfl rfl fun a w' hB hM hoff hp K hK => ?_
    have e3 : a.tmps[3]? = some (V3 4) := (hoff 3 rfl).trans rfl
    exact op_val (by first | (go_simp; done) | (go_simp; rfl)) (hK _ _ hB (Mono.refl _) rfl)
   ·refine stpy 25 rfl rfl rfl rfl rfl rfl rfl rfl rfl fun a w' hB hM hoff hp K hK => ?_
    obtain ⟨_, e39, rfl⟩ := hp 26 rfl 39 _ rfl rfl
    obtain ⟨ad, hrun, hP⟩ := row_at (P := Try.prog) (K3.mono hM) 26 5 Try.underlying26 size5 5 3 rfl
    have hsl : (Instr.indexAt 26 (V3 4) (.int .i64 5)).run Try.prog w' = .ok (.pointer (some ad)) w' := hrun w'
    exact op_val (v := .pointer (some ad)) (by first | (go_simp; done) | (go_simp; rfl)) (hK _ _ hB (Mono.refl _) hP)
   ·refine stpy 25 rfl rfl rfl rfl rfl rfl rfl rfl rfl fun a w' hB hM hoff hp K hK => ?_
    obtain ⟨v40, e40, h40⟩ := hp 27 rfl 40 _ rfl rfl
    obtain ⟨ad, rfl, hc⟩ := h40
    exact op_val (by first | (go_simp; done) | (go_simp; rfl)) (hK _ _ hB (Mono.refl _) rfl)
   ·refine stpy 25 rfl rfl rfl rfl rfl rfl rfl rfl rfl fun a w' hB hM hoff hp K hK => ?_
    obtain ⟨_, e41, rfl⟩ := hp 28 rfl 41 _ rfl rfl
    exact op_val (by first | (go_simp; done) | (go_simp; rfl)) (hK _ _ hB (Mono.refl _) rfl)
   ·refine stp rfl rfl rfl rfl rfl fun a w' hB hM hoff hp K hK => ?_
    obtain ⟨_, e38, rfl⟩ := hp 25 rfl 38 _ rfl rfl
    obtain ⟨_, e42, rfl⟩ := hp 29 rfl 42 _ rfl rfl
    exact op_val (by first | (go_simp; done) | (go_simp; rfl)) (hK _ _ hB (Mono.refl _) rfl)
   ·refine stp rfl rfl rfl rfl rfl fun a w' hB hM hoff hp K hK => ?_
    obtain ⟨_, e43, rfl⟩ := hp 30 rfl 43 _ rfl rfl
    exact op_val (by first | (go_simp; done) | (go_simp; rfl)) (hK _ _ hB (Mono.refl _) rfl)
   ·refine stpy 31 rfl rfl rfl rfl rfl rfl rfl rfl rfl fun a w' hB hM hoff hp K hK => ?_
    have e3 : a.tmps[3]? = some (V3 4) := (hoff 3 rfl).trans rfl
    exact op_val (by first | (go_simp; done) | (go_simp; rfl)) (hK _ _ hB (Mono.refl _) rfl)
   ·refine stpy 31 rfl rfl rfl rfl rfl rfl rfl rfl rfl fun a w' hB hM hoff hp K hK => ?_
    obtain ⟨_, e45, rfl⟩ := hp 32 rfl 45 _ rfl rfl
    obtain ⟨ad, hrun, hP⟩ := row_at (P := Try.prog) (K3.mono hM) 26 5 Try.underlying26 size5 28 7 rfl
    have hsl : (Instr.indexAt 26 (V3 4) (.int .i64 28)).run Try.prog w' = .ok (.pointer (some ad)) w' := hrun w'
    exact op_val (v := .pointer (some ad)) (by first | (go_simp; done) | (go_simp; rfl)) (hK _ _ hB (Mono.refl _) hP)
   ·refine stpy 31 rfl rfl rfl rfl rfl rfl rfl rfl rfl fun a w' hB hM hoff hp K hK => ?_
    obtain ⟨v46, e46, h46⟩ := hp 33 rfl 46 _ rfl rfl
    obtain ⟨ad, rfl, hc⟩ := h46
    exact op_val (by first | (go_simp; done) | (go_simp; rfl)) (hK _ _ hB (Mono.refl _) rfl)
   ·refine stpy 31 rfl rfl rfl rfl rfl rfl rfl rfl rfl fun a w' hB hM hoff hp K hK => ?_
    obtain ⟨_, e47, rfl⟩ := hp 34 rfl 47 _ rfl rfl
    exact op_val (by first | (go_simp; done) | (go_simp; rfl)) (hK _ _ hB (Mono.refl _) rfl)
   ·refine stp rfl rfl rfl rfl rfl fun a w' hB hM hoff hp K hK => ?_
    obtain ⟨_, e44, rfl⟩ := hp 31 rfl 44 _ rfl rfl
    obtain ⟨_, e48, rfl⟩ := hp 35 rfl 48 _ rfl rfl
    exact op_val (by first | (go_simp; done) | (go_simp; rfl)) (hK _ _ hB (Mono.refl _) rfl)
   ·refine stp rfl rfl rfl rfl rfl fun a w' hB hM hoff hp K hK => ?_
    obtain ⟨_, e49, rfl⟩ := hp 36 rfl 49 _ rfl rfl
    exact op_val (by first | (go_simp; done) | (go_simp; rfl)) (hK _ _ hB (Mono.refl _) rfl)
  intro V4 w4 HB4 M4 hφ
  simp only [fillAll, Act.put, List.setIfInBounds_toArray, List.set_cons_zero, List.set_cons_succ]
  replace K5 := K5.mono M4
  replace K7 := K7.mono M4
  replace K1 := K1.mono M4
  replace K10 := K10.mono M4
  replace K12 := K12.mono M4
  replace K3 := K3.mono M4
  have z13 : V4 0 = V2 5 := hφ 0 _ rfl (by decide)
  have z14 : V4 1 = .int .i64 3 := hφ 1 _ rfl (by decide)
  have z15 : V4 2 = .bool true := hφ 2 _ rfl (by decide)
  have z16 : V4 3 = .bool true := hφ 3 _ rfl (by decide)
  have z17 : V4 4 = .int .i64 0 := hφ 4 _ rfl (by decide)
  have z18 : V4 5 = .bool true := hφ 5 _ rfl (by decide)
  have z19 : V4 6 = .bool true := hφ 6 _ rfl (by decide)
  have z20 : V4 7 = .bool true := hφ 7 _ rfl (by decide)
  have z21 : V4 8 = V2 5 := hφ 8 _ rfl (by decide)
  have K23 : Row 0 w4 (V4 10) [5] := hφ 10 _ rfl (by decide)
  have K24 : Row w.heap.size w4 (V4 11) [5] := hφ 11 _ rfl (by decide)
  have z25 : V4 12 = .bool true := hφ 12 _ rfl (by decide)
  have z26 : V4 13 = .bool true := hφ 13 _ rfl (by decide)
  have z27 : V4 14 = .bool true := hφ 14 _ rfl (by decide)
  have z28 : V4 15 = V3 4 := hφ 15 _ rfl (by decide)
  have z29 : V4 16 = .int .i64 29 := hφ 16 _ rfl (by decide)
  have z30 : V4 17 = .bool true := hφ 17 _ rfl (by decide)
  have z31 : V4 18 = .bool true := hφ 18 _ rfl (by decide)
  have z32 : V4 19 = .bool true := hφ 19 _ rfl (by decide)
  have z33 : V4 20 = V3 4 := hφ 20 _ rfl (by decide)
  have z35 : V4 22 = .int .u8 1 := hφ 22 _ rfl (by decide)
  have z36 : V4 23 = .bool true := hφ 23 _ rfl (by decide)
  have z37 : V4 24 = .bool true := hφ 24 _ rfl (by decide)
  have z38 : V4 25 = .bool true := hφ 25 _ rfl (by decide)
  have z39 : V4 26 = V3 4 := hφ 26 _ rfl (by decide)
  have z41 : V4 28 = .int .u8 3 := hφ 28 _ rfl (by decide)
  have z42 : V4 29 = .bool true := hφ 29 _ rfl (by decide)
  have z43 : V4 30 = .bool true := hφ 30 _ rfl (by decide)
  have z44 : V4 31 = .bool true := hφ 31 _ rfl (by decide)
  have z45 : V4 32 = V3 4 := hφ 32 _ rfl (by decide)
  have z47 : V4 34 = .int .u8 7 := hφ 34 _ rfl (by decide)
  have z48 : V4 35 = .bool true := hφ 35 _ rfl (by decide)
  have z49 : V4 36 = .bool true := hφ 36 _ rfl (by decide)
  have z0 : V4 37 = .bool true := hφ 37 _ rfl (by decide)
  simp only [z13, z14, z15, z16, z17, z18, z19, z20, z21, z25, z26, z27, z28, z29, z30, z31, z32, z33, z35, z36, z37, z38, z39, z41, z42, z43, z44, z45, z47, z48, z49, z0]
  clear hφ
  (try simp only [Exit.inBlock, Exit.then])
  repeat (refine wp_seq ?_)
  (try simp only [Exit.inBlock, Exit.then])
  refine wp_ret ?_
  (try simp only [Exit.inBlock, Exit.then])
  go_ret
  exact ⟨_, rfl, rfl, HB4⟩
end Go.Proofs.Ytgacaemgmgoiaaa.QLeaf
