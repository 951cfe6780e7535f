import Derived.Test.YtgacaemgmgoiaaaCap3
import Derived.Test.YtgacaemgmgoiaaaCapR

/- Contracts of capsule's functions and of the document's, for any capsule, in plain lists. -/
namespace Go.Proofs.Ytgacaemgmgoiaaa.QLeaf
open Go.RowKit Go.Proofs.YtgacaemgmgoiaaaW.PrintWords Go.Proofs.YtgacaemgmgoiaaaW.PrintLast Go.Proofs.YtgacaemgmgoiaaaW.PrintMore Go.Proofs.YtgacaemgmgoiaaaW.Cm Go.Proofs.YtgacaemgmgoiaaaW.Rg
set_option linter.unusedVariables false
set_option linter.unusedSimpArgs false

theorem refWords2_calls (c : Cp) (ho : c.Ok) (hs : c.pub.length < 65536) (hs2 : c.sl.length < 65536) (hs3 : c.ct.length < 65536) (hs4 : c.sig.length < 65536) (h : c.Worded) (v : Value) (w : World) (hv : CapV 0 w v c) : Ret 18 #[v] w (isRow w.heap.size (title ++ c.inner)) := by
  have := refWords_calls c ho hs hs2 hs3 hs4 v w hv
  rw [if_pos h] at this
  exact this
set_option maxHeartbeats 1000000 in
set_option maxRecDepth 100000 in
theorem refPut_calls (c : Cp) (ho : c.Ok) (hs : c.pub.length < 65536) (hs2 : c.sl.length < 65536) (hs3 : c.ct.length < 65536) (hs4 : c.sig.length < 65536) (v : Value) (w : World) (hv : CapV 0 w v c) : Ret 14 #[v] w (isTup w.heap.size c.putl c.err) := by
  obtain ⟨_, _, _, _, rfl, ⟨A6, c6, rfl, l6, r6, _⟩, ⟨A7, c7, rfl, l7, r7, _⟩, ⟨A8, c8, rfl, l8, r8, _⟩, ⟨A9, c9, rfl, l9, r9, _⟩⟩ := hv
  have R6 : Row 0 w (.slice A6 c.pub.length c6) c.pub := Row.of_C r6 l6
  have R7 : Row 0 w (.slice A7 c.ct.length c7) c.ct := Row.of_C r7 l7
  have R8 : Row 0 w (.slice A8 c.sl.length c8) c.sl := Row.of_C r8 l8
  have R9 : Row 0 w (.slice A9 c.sig.length c9) c.sig := Row.of_C r9 l9
  have CV : CapV 0 w (.agg #[.int .i64 c.fr, .int .i64 c.tt, .int .u32 c.tid, .int .u32 c.key, .int .u64 c.lo, .int .u64 c.hi, .slice A6 c.pub.length c6, .slice A7 c.ct.length c7, .slice A8 c.sl.length c8, .slice A9 c.sig.length c9]) c := ⟨_, _, _, _, rfl, R6, R7, R8, R9⟩
  by_cases h : c.May
  · rw [may_err h, show c.putl = c.inner ++ c.sig from if_pos h]
    go_enter Try.func14, Try.ntmps14
    have HBw : Below w.heap.size w w := Below.refl _ _
    (try simp only [Exit.inBlock, Exit.then])
    repeat (refine wp_seq ?_)
    refine rgs (B := w.heap.size) (w0 := w) [1, 2, 3] [isBox w.heap.size [.int .i64 c.fr, .int .i64 c.tt, .int .u32 c.tid, .int .u32 c.key, .int .u64 c.lo, .int .u64 c.hi, .slice A6 c.pub.length c6, .slice A7 c.ct.length c7, .slice A8 c.sl.length c8, .slice A9 c.sig.length c9], isRow w.heap.size [], isV (.int .i64 0)] rfl (by decide) rfl HBw ?_ ?_ ?_
    · exact (stb_cons (stb_Box _ _) (stb_cons (stb_Row _ _) (stb_cons (stb_V _) stb_nil)))
    ·refine stepf_cons ?_ (stepf_cons ?_ (stepf_cons ?_ stepf_nil))
     ·refine stp rfl rfl rfl rfl rfl fun a w' hB hM hoff hp K hK => ?_
      have e0 : a.tmps[0]? = some (.agg #[.int .i64 c.fr, .int .i64 c.tt, .int .u32 c.tid, .int .u32 c.key, .int .u64 c.lo, .int .u64 c.hi, .slice A6 c.pub.length c6, .slice A7 c.ct.length c7, .slice A8 c.sl.length c8, .slice A9 c.sig.length c9]) := (hoff 0 rfl).trans rfl
      have hu := Try.underlying28
      have hu2 := Try.underlying25
      refine op_val (v := .pointer (some ⟨w'.heap.size, 0, none⟩)) (w' := w'.alloc (.cells #[.int .i64 c.fr, .int .i64 c.tt, .int .u32 c.tid, .int .u32 c.key, .int .u64 c.lo, .int .u64 c.hi, .slice A6 c.pub.length c6, .slice A7 c.ct.length c7, .slice A8 c.sl.length c8, .slice A9 c.sig.length c9] 28)) (by first | (go_simp; done) | (go_simp; rfl)) (hK _ _ (below_then hB hB.size (below_alloc (Below.refl _ _) _)) (Mono.alloc _ _) ?_)
      exact ⟨_, rfl, hB.size, boxAt_alloc _ _ [.int .i64 c.fr, .int .i64 c.tt, .int .u32 c.tid, .int .u32 c.key, .int .u64 c.lo, .int .u64 c.hi, .slice A6 c.pub.length c6, .slice A7 c.ct.length c7, .slice A8 c.sl.length c8, .slice A9 c.sig.length c9]⟩
     ·refine stp rfl rfl rfl rfl rfl fun a w' hB hM hoff hp K hK => ?_
      exact op_val (by first | (go_simp; done) | (go_simp; rfl)) (hK _ _ hB (Mono.refl _) (Row.nil _ _))
     ·refine stp rfl rfl rfl rfl rfl fun a w' hB hM hoff hp K hK => ?_
      exact op_val (by first | (go_simp; done) | (go_simp; rfl)) (hK _ _ hB (Mono.refl _) rfl)
    intro V1 w1 HB1 M1 hφ
    simp only [fillAll, Act.put, List.setIfInBounds_toArray, List.set_cons_zero, List.set_cons_succ]
    replace R6 := R6.mono M1
    replace R7 := R7.mono M1
    replace R8 := R8.mono M1
    replace R9 := R9.mono M1
    replace CV := CV.mono M1
    obtain ⟨b14_1, z1, hb1, C1⟩ := hφ 0 _ rfl (by decide)
    have K2 : Row w.heap.size w1 (V1 1) [] := hφ 1 _ rfl (by decide)
    have z3 : V1 2 = .int .i64 0 := hφ 2 _ rfl (by decide)
    simp only [z1, z3]
    clear hφ
    (try simp only [Exit.inBlock, Exit.then])
    repeat (refine wp_seq ?_)
    refine rgs (B := w.heap.size) (w0 := w) [4, 5, 6] [isV (.agg #[.int .i64 c.fr, .int .i64 c.tt, .int .u32 c.tid, .int .u32 c.key, .int .u64 c.lo, .int .u64 c.hi, .slice A6 c.pub.length c6, .slice A7 c.ct.length c7, .slice A8 c.sl.length c8, .slice A9 c.sig.length c9]), isV (.bool true), isV (.bool false)] rfl (by decide) rfl HB1 ?_ ?_ ?_
    · exact (stb_cons (stb_V _) (stb_cons (stb_V _) (stb_cons (stb_V _) stb_nil)))
    ·refine stepf_cons ?_ (stepf_cons ?_ (stepf_cons ?_ stepf_nil))
     ·refine stp rfl rfl rfl rfl rfl fun a w' hB hM hoff hp K hK => ?_
      have e1 : a.tmps[1]? = some (.pointer (some ⟨b14_1, 0, none⟩)) := (hoff 1 rfl).trans rfl
      obtain ⟨d0, d1, d2, d3, d4, d5, d6, d7, d8, d9⟩ := (C1.mono hM).ten
      have hu := Try.underlying28
      have hu2 := Try.underlying25
      exact op_val (by first | (go_simp; done) | (go_simp; rfl)) (hK _ _ hB (Mono.refl _) rfl)
     ·refine stp rfl rfl rfl rfl rfl fun a w' hB hM hoff hp K hK => ?_
      obtain ⟨_, e4, rfl⟩ := hp 0 rfl 4 _ rfl rfl
      refine op_call Try.func9 (by kernel_rfl) rfl #[.agg #[.int .i64 c.fr, .int .i64 c.tt, .int .u32 c.tid, .int .u32 c.key, .int .u64 c.lo, .int .u64 c.hi, .slice A6 c.pub.length c6, .slice A7 c.ct.length c7, .slice A8 c.sl.length c8, .slice A9 c.sig.length c9]] rfl (by simp [ev e4]) (refMay_calls c _ (decide_eq_true h) _ _ (CV.mono hM)) ?_
      rintro e w1 ⟨u, rfl, hR, hb⟩
      exact ⟨u, rfl, hK _ _ (below_then hB hB.size hb) (Mono.of_below hb) hR⟩
     ·refine stp rfl rfl rfl rfl rfl fun a w' hB hM hoff hp K hK => ?_
      obtain ⟨_, e5, rfl⟩ := hp 1 rfl 5 _ rfl rfl
      exact op_val (by first | (go_simp; done) | (go_simp; rfl)) (hK _ _ hB (Mono.refl _) rfl)
    intro V2 w2 HB2 M2 hφ
    simp only [fillAll, Act.put, List.setIfInBounds_toArray, List.set_cons_zero, List.set_cons_succ]
    replace R6 := R6.mono M2
    replace R7 := R7.mono M2
    replace R8 := R8.mono M2
    replace R9 := R9.mono M2
    replace CV := CV.mono M2
    replace C1 := C1.mono M2
    replace K2 := K2.mono M2
    have z4 : V2 0 = .agg #[.int .i64 c.fr, .int .i64 c.tt, .int .u32 c.tid, .int .u32 c.key, .int .u64 c.lo, .int .u64 c.hi, .slice A6 c.pub.length c6, .slice A7 c.ct.length c7, .slice A8 c.sl.length c8, .slice A9 c.sig.length c9] := hφ 0 _ rfl (by decide)
    have z5 : V2 1 = .bool true := hφ 1 _ rfl (by decide)
    have z6 : V2 2 = .bool false := hφ 2 _ rfl (by decide)
    simp only [z4, z5, z6]
    clear hφ
    (try simp only [Exit.inBlock, Exit.then])
    repeat (refine wp_seq ?_)
    (try simp only [Exit.inBlock, Exit.then])
    refine wp_cond_false rfl ?_
    refine wp_skip ?_
    (try simp only [Exit.inBlock, Exit.then])
    repeat (refine wp_seq ?_)
    refine rg (B := w.heap.size) (w0 := w) (by kernel_rfl) (by decide +kernel) [7, 8, 9, 10, 11, 12, 13, 2, 3] [isV (.agg #[.int .i64 c.fr, .int .i64 c.tt, .int .u32 c.tid, .int .u32 c.key, .int .u64 c.lo, .int .u64 c.hi, .slice A6 c.pub.length c6, .slice A7 c.ct.length c7, .slice A8 c.sl.length c8, .slice A9 c.sig.length c9]), isRow w.heap.size ((title ++ c.inner)), isRow 0 (((title ++ c.inner)).drop 14), isV (.pointer (some ⟨b14_1, 9, none⟩)), isV (.slice A9 c.sig.length c9), isRows [((title ++ c.inner)).drop 14, c.sig], isRow w.heap.size (c.inner ++ c.sig), isRow w.heap.size (c.inner ++ c.sig), isV (.int .i64 0)] rfl (by decide) rfl HB2 ?_ ?_ ?_
    · exact (stb_cons (stb_V _) (stb_cons (stb_Row _ _) (stb_cons (stb_Row _ _) (stb_cons (stb_V _) (stb_cons (stb_V _) (stb_cons (stb_Rows _) (stb_cons (stb_Row _ _) (stb_cons (stb_Row _ _) (stb_cons (stb_V _) stb_nil)))))))))
    ·refine stepf_cons ?_ (stepf_cons ?_ (stepf_cons ?_ (stepf_cons ?_ (stepf_cons ?_ (stepf_cons ?_ (stepf_cons ?_ (stepf_cons ?_ (stepf_cons ?_ stepf_nil))))))))
     ·refine stp rfl rfl rfl rfl rfl fun a w' hB hM hoff hp K hK => ?_
      have e1 : a.tmps[1]? = some (.pointer (some ⟨b14_1, 0, none⟩)) := (hoff 1 rfl).trans rfl
      obtain ⟨d0, d1, d2, d3, d4, d5, d6, d7, d8, d9⟩ := (C1.mono hM).ten
      have hu := Try.underlying28
      have hu2 := Try.underlying25
      exact op_val (by first | (go_simp; done) | (go_simp; rfl)) (hK _ _ hB (Mono.refl _) rfl)
     ·refine stp rfl rfl rfl rfl rfl fun a w' hB hM hoff hp K hK => ?_
      obtain ⟨_, e7, rfl⟩ := hp 0 rfl 7 _ rfl rfl
      refine op_call Try.func18 (by kernel_rfl) rfl #[.agg #[.int .i64 c.fr, .int .i64 c.tt, .int .u32 c.tid, .int .u32 c.key, .int .u64 c.lo, .int .u64 c.hi, .slice A6 c.pub.length c6, .slice A7 c.ct.length c7, .slice A8 c.sl.length c8, .slice A9 c.sig.length c9]] rfl (by simp [ev e7]) (refWords2_calls c ho hs hs2 hs3 hs4 h.1 _ _ (CV.mono hM)) ?_
      rintro e w1 ⟨u, rfl, hR, hb⟩
      exact ⟨u, rfl, hK _ _ (below_then hB hB.size hb) (Mono.of_below hb) (hR.lower hB.size)⟩
     ·refine stp rfl rfl rfl rfl rfl fun a w' hB hM hoff hp K hK => ?_
      obtain ⟨v8, e8, h8⟩ := hp 1 rfl 8 _ rfl rfl
      obtain ⟨v', hrun, hR⟩ := row_drop (P := Try.prog) h8 26 5 Try.underlying26 size5 14 (by omega) (by simp [title]; omega)
      have hsl := hrun w'
      exact op_val (v := v') (by first | (go_simp; done) | (go_simp; rfl)) (hK _ _ hB (Mono.refl _) hR)
     ·refine stp rfl rfl rfl rfl rfl fun a w' hB hM hoff hp K hK => ?_
      have e1 : a.tmps[1]? = some (.pointer (some ⟨b14_1, 0, none⟩)) := (hoff 1 rfl).trans rfl
      have hu := Try.underlying28
      exact op_val (by first | (go_simp; done) | (go_simp; rfl)) (hK _ _ hB (Mono.refl _) rfl)
     ·refine stp rfl rfl rfl rfl rfl fun a w' hB hM hoff hp K hK => ?_
      obtain ⟨_, e10, rfl⟩ := hp 3 rfl 10 _ rfl rfl
      have d9 := (C1.mono hM) 9 _ rfl
      exact op_val (by first | (go_simp; done) | (go_simp; rfl)) (hK _ _ hB (Mono.refl _) rfl)
     ·refine stp rfl rfl rfl rfl rfl fun a w' hB hM hoff hp K hK => ?_
      obtain ⟨v9, e9, h9⟩ := hp 2 rfl 9 _ rfl rfl
      obtain ⟨_, e11, rfl⟩ := hp 4 rfl 11 _ rfl rfl
      have k9 := h9.lower (Nat.zero_le _)
      obtain ⟨X9, y9, rfl, _, _, _⟩ := h9
      refine op_val (v := .slice (some ⟨w'.heap.size, 0, none⟩) 2 2) (w' := w'.alloc (.cells #[.slice X9 (((title ++ c.inner)).drop 14).length y9, .slice A9 c.sig.length c9] 26)) (by first | (go_simp; done) | (go_simp; rfl)) (hK _ _ (below_then hB hB.size (below_alloc (Below.refl _ _) _)) (Mono.alloc _ _) ?_)
      exact RowsB.lit (l := [((title ++ c.inner)).drop 14, c.sig]) (vs := #[.slice X9 (((title ++ c.inner)).drop 14).length y9, .slice A9 c.sig.length c9]) (RowL.cons k9 (RowL.cons ((R9.mono hM).lower (Nat.zero_le _)) (RowL.nil _))) (by simp)
     ·refine stp rfl rfl rfl rfl rfl fun a w' hB hM hoff hp K hK => ?_
      obtain ⟨v12, e12, h12⟩ := hp 5 rfl 12 _ rfl rfl
      refine op_call Try.func20 (by kernel_rfl) rfl #[v12] rfl (by simp [ev e12]) ((refJoin_calls _ (by simp) (by simp [inner_length, title]; omega) _ _ h12).mono (fun e w' h => by simpa [title, List.append_assoc] using h)) ?_
      rintro e w1 ⟨u, rfl, hR, hb⟩
      exact ⟨u, rfl, hK _ _ (below_then hB hB.size hb) (Mono.of_below hb) (hR.lower hB.size)⟩
     ·refine stp rfl rfl rfl rfl rfl fun a w' hB hM hoff hp K hK => ?_
      obtain ⟨v13, e13, h13⟩ := hp 6 rfl 13 _ rfl rfl
      exact op_val (by first | (go_simp; done) | (go_simp; rfl)) (hK _ _ hB (Mono.refl _) h13)
     ·refine stp rfl rfl rfl rfl rfl fun a w' hB hM hoff hp K hK => ?_
      exact op_val (by first | (go_simp; done) | (go_simp; rfl)) (hK _ _ hB (Mono.refl _) rfl)
    intro V3 w3 HB3 M3 hφ
    simp only [fillAll, Act.put, List.setIfInBounds_toArray, List.set_cons_zero, List.set_cons_succ]
    replace R6 := R6.mono M3
    replace R7 := R7.mono M3
    replace R8 := R8.mono M3
    replace R9 := R9.mono M3
    replace CV := CV.mono M3
    replace C1 := C1.mono M3
    replace K2 := K2.mono M3
    have z7 : V3 0 = .agg #[.int .i64 c.fr, .int .i64 c.tt, .int .u32 c.tid, .int .u32 c.key, .int .u64 c.lo, .int .u64 c.hi, .slice A6 c.pub.length c6, .slice A7 c.ct.length c7, .slice A8 c.sl.length c8, .slice A9 c.sig.length c9] := hφ 0 _ rfl (by decide)
    have K8 : Row w.heap.size w3 (V3 1) ((title ++ c.inner)) := hφ 1 _ rfl (by decide)
    have K9 : Row 0 w3 (V3 2) (((title ++ c.inner)).drop 14) := hφ 2 _ rfl (by decide)
    have z10 : V3 3 = .pointer (some ⟨b14_1, 9, none⟩) := hφ 3 _ rfl (by decide)
    have z11 : V3 4 = .slice A9 c.sig.length c9 := hφ 4 _ rfl (by decide)
    have K12 : RowsB w3 (V3 5) [((title ++ c.inner)).drop 14, c.sig] := hφ 5 _ rfl (by decide)
    have K13 : Row w.heap.size w3 (V3 6) (c.inner ++ c.sig) := hφ 6 _ rfl (by decide)
    have K2 : Row w.heap.size w3 (V3 7) (c.inner ++ c.sig) := hφ 7 _ rfl (by decide)
    have z3 : V3 8 = .int .i64 0 := hφ 8 _ rfl (by decide)
    simp only [z7, z10, z11, z3]
    clear hφ
    (try simp only [Exit.inBlock, Exit.then])
    repeat (refine wp_seq ?_)
    (try simp only [Exit.inBlock, Exit.then])
    refine wp_ret ?_
    (try simp only [Exit.inBlock, Exit.then])
    go_ret2
    exact ⟨_, rfl, ⟨_, rfl, K2⟩, HB3⟩
  · rw [nmay_err h, show c.putl = [] from if_neg h]
    go_enter Try.func14, Try.ntmps14
    have HBw : Below w.heap.size w w := Below.refl _ _
    (try simp only [Exit.inBlock, Exit.then])
    repeat (refine wp_seq ?_)
    refine rgs (B := w.heap.size) (w0 := w) [1, 2, 3] [isBox w.heap.size [.int .i64 c.fr, .int .i64 c.tt, .int .u32 c.tid, .int .u32 c.key, .int .u64 c.lo, .int .u64 c.hi, .slice A6 c.pub.length c6, .slice A7 c.ct.length c7, .slice A8 c.sl.length c8, .slice A9 c.sig.length c9], isRow w.heap.size [], isV (.int .i64 0)] rfl (by decide) rfl HBw ?_ ?_ ?_
    · exact (stb_cons (stb_Box _ _) (stb_cons (stb_Row _ _) (stb_cons (stb_V _) stb_nil)))
    ·refine stepf_cons ?_ (stepf_cons ?_ (stepf_cons ?_ stepf_nil))
     ·refine stp rfl rfl rfl rfl rfl fun a w' hB hM hoff hp K hK => ?_
      have e0 : a.tmps[0]? = some (.agg #[.int .i64 c.fr, .int .i64 c.tt, .int .u32 c.tid, .int .u32 c.key, .int .u64 c.lo, .int .u64 c.hi, .slice A6 c.pub.length c6, .slice A7 c.ct.length c7, .slice A8 c.sl.length c8, .slice A9 c.sig.length c9]) := (hoff 0 rfl).trans rfl
      have hu := Try.underlying28
      have hu2 := Try.underlying25
      refine op_val (v := .pointer (some ⟨w'.heap.size, 0, none⟩)) (w' := w'.alloc (.cells #[.int .i64 c.fr, .int .i64 c.tt, .int .u32 c.tid, .int .u32 c.key, .int .u64 c.lo, .int .u64 c.hi, .slice A6 c.pub.length c6, .slice A7 c.ct.length c7, .slice A8 c.sl.length c8, .slice A9 c.sig.length c9] 28)) (by first | (go_simp; done) | (go_simp; rfl)) (hK _ _ (below_then hB hB.size (below_alloc (Below.refl _ _) _)) (Mono.alloc _ _) ?_)
      exact ⟨_, rfl, hB.size, boxAt_alloc _ _ [.int .i64 c.fr, .int .i64 c.tt, .int .u32 c.tid, .int .u32 c.key, .int .u64 c.lo, .int .u64 c.hi, .slice A6 c.pub.length c6, .slice A7 c.ct.length c7, .slice A8 c.sl.length c8, .slice A9 c.sig.length c9]⟩
     ·refine stp rfl rfl rfl rfl rfl fun a w' hB hM hoff hp K hK => ?_
      exact op_val (by first | (go_simp; done) | (go_simp; rfl)) (hK _ _ hB (Mono.refl _) (Row.nil _ _))
     ·refine stp rfl rfl rfl rfl rfl fun a w' hB hM hoff hp K hK => ?_
      exact op_val (by first | (go_simp; done) | (go_simp; rfl)) (hK _ _ hB (Mono.refl _) rfl)
    intro V1 w1 HB1 M1 hφ
    simp only [fillAll, Act.put, List.setIfInBounds_toArray, List.set_cons_zero, List.set_cons_succ]
    replace R6 := R6.mono M1
    replace R7 := R7.mono M1
    replace R8 := R8.mono M1
    replace R9 := R9.mono M1
    replace CV := CV.mono M1
    obtain ⟨b14_1, z1, hb1, C1⟩ := hφ 0 _ rfl (by decide)
    have K2 : Row w.heap.size w1 (V1 1) [] := hφ 1 _ rfl (by decide)
    have z3 : V1 2 = .int .i64 0 := hφ 2 _ rfl (by decide)
    simp only [z1, z3]
    clear hφ
    (try simp only [Exit.inBlock, Exit.then])
    repeat (refine wp_seq ?_)
    refine rgs (B := w.heap.size) (w0 := w) [4, 5, 6] [isV (.agg #[.int .i64 c.fr, .int .i64 c.tt, .int .u32 c.tid, .int .u32 c.key, .int .u64 c.lo, .int .u64 c.hi, .slice A6 c.pub.length c6, .slice A7 c.ct.length c7, .slice A8 c.sl.length c8, .slice A9 c.sig.length c9]), isV (.bool false), isV (.bool true)] rfl (by decide) rfl HB1 ?_ ?_ ?_
    · exact (stb_cons (stb_V _) (stb_cons (stb_V _) (stb_cons (stb_V _) stb_nil)))
    ·refine stepf_cons ?_ (stepf_cons ?_ (stepf_cons ?_ stepf_nil))
     ·refine stp rfl rfl rfl rfl rfl fun a w' hB hM hoff hp K hK => ?_
      have e1 : a.tmps[1]? = some (.pointer (some ⟨b14_1, 0, none⟩)) := (hoff 1 rfl).trans rfl
      obtain ⟨d0, d1, d2, d3, d4, d5, d6, d7, d8, d9⟩ := (C1.mono hM).ten
      have hu := Try.underlying28
      have hu2 := Try.underlying25
      exact op_val (by first | (go_simp; done) | (go_simp; rfl)) (hK _ _ hB (Mono.refl _) rfl)
     ·refine stp rfl rfl rfl rfl rfl fun a w' hB hM hoff hp K hK => ?_
      obtain ⟨_, e4, rfl⟩ := hp 0 rfl 4 _ rfl rfl
      refine op_call Try.func9 (by kernel_rfl) rfl #[.agg #[.int .i64 c.fr, .int .i64 c.tt, .int .u32 c.tid, .int .u32 c.key, .int .u64 c.lo, .int .u64 c.hi, .slice A6 c.pub.length c6, .slice A7 c.ct.length c7, .slice A8 c.sl.length c8, .slice A9 c.sig.length c9]] rfl (by simp [ev e4]) (refMay_calls c _ (decide_eq_false h) _ _ (CV.mono hM)) ?_
      rintro e w1 ⟨u, rfl, hR, hb⟩
      exact ⟨u, rfl, hK _ _ (below_then hB hB.size hb) (Mono.of_below hb) hR⟩
     ·refine stp rfl rfl rfl rfl rfl fun a w' hB hM hoff hp K hK => ?_
      obtain ⟨_, e5, rfl⟩ := hp 1 rfl 5 _ rfl rfl
      exact op_val (by first | (go_simp; done) | (go_simp; rfl)) (hK _ _ hB (Mono.refl _) rfl)
    intro V2 w2 HB2 M2 hφ
    simp only [fillAll, Act.put, List.setIfInBounds_toArray, List.set_cons_zero, List.set_cons_succ]
    replace R6 := R6.mono M2
    replace R7 := R7.mono M2
    replace R8 := R8.mono M2
    replace R9 := R9.mono M2
    replace CV := CV.mono M2
    replace C1 := C1.mono M2
    replace K2 := K2.mono M2
    have z4 : V2 0 = .agg #[.int .i64 c.fr, .int .i64 c.tt, .int .u32 c.tid, .int .u32 c.key, .int .u64 c.lo, .int .u64 c.hi, .slice A6 c.pub.length c6, .slice A7 c.ct.length c7, .slice A8 c.sl.length c8, .slice A9 c.sig.length c9] := hφ 0 _ rfl (by decide)
    have z5 : V2 1 = .bool false := hφ 1 _ rfl (by decide)
    have z6 : V2 2 = .bool true := hφ 2 _ rfl (by decide)
    simp only [z4, z5, z6]
    clear hφ
    (try simp only [Exit.inBlock, Exit.then])
    repeat (refine wp_seq ?_)
    (try simp only [Exit.inBlock, Exit.then])
    refine wp_cond_true rfl ?_
    (try simp only [Exit.inBlock, Exit.then])
    repeat (refine wp_seq ?_)
    refine rgs (B := w.heap.size) (w0 := w) [2, 3] [isRow w.heap.size [], isV (.int .i64 230)] rfl (by decide) rfl HB2 ?_ ?_ ?_
    · exact (stb_cons (stb_Row _ _) (stb_cons (stb_V _) stb_nil))
    ·refine stepf_cons ?_ (stepf_cons ?_ stepf_nil)
     ·refine stp rfl rfl rfl rfl rfl fun a w' hB hM hoff hp K hK => ?_
      exact op_val (by first | (go_simp; done) | (go_simp; rfl)) (hK _ _ hB (Mono.refl _) (Row.nil _ _))
     ·refine stp rfl rfl rfl rfl rfl fun a w' hB hM hoff hp K hK => ?_
      exact op_val (by first | (go_simp; done) | (go_simp; rfl)) (hK _ _ hB (Mono.refl _) rfl)
    intro V3 w3 HB3 M3 hφ
    simp only [fillAll, Act.put, List.setIfInBounds_toArray, List.set_cons_zero, List.set_cons_succ]
    replace R6 := R6.mono M3
    replace R7 := R7.mono M3
    replace R8 := R8.mono M3
    replace R9 := R9.mono M3
    replace CV := CV.mono M3
    replace C1 := C1.mono M3
    replace K2 := K2.mono M3
    have K2 : Row w.heap.size w3 (V3 0) [] := hφ 0 _ rfl (by decide)
    have z3 : V3 1 = .int .i64 230 := hφ 1 _ rfl (by decide)
    simp only [z3]
    clear hφ
    (try simp only [Exit.inBlock, Exit.then])
    repeat (refine wp_seq ?_)
    (try simp only [Exit.inBlock, Exit.then])
    refine wp_ret ?_
    (try simp only [Exit.inBlock, Exit.then])
    go_ret2
    exact ⟨_, rfl, ⟨_, rfl, K2⟩, HB3⟩
end Go.Proofs.Ytgacaemgmgoiaaa.QLeaf
