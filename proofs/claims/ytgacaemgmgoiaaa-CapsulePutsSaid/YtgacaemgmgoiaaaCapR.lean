import Derived.Test.YtgacaemgmgoiaaaCapM

/- Contracts of capsule's functions and of the document's, for any capsule, in plain lists. -/
namespace Go.Proofs.Ytgacaemgmgoiaaa.QLeaf
open Go.RowKit Go.Proofs.YtgacaemgmgoiaaaW.PrintWords Go.Proofs.YtgacaemgmgoiaaaW.PrintLast Go.Proofs.YtgacaemgmgoiaaaW.PrintMore Go.Proofs.YtgacaemgmgoiaaaW.Cm Go.Proofs.YtgacaemgmgoiaaaW.Rg
set_option linter.unusedVariables false
set_option linter.unusedSimpArgs false

theorem refBig_calls (m : Nat) (hm : m ≤ 8) (n : Int) (h0 : 0 ≤ n) (h1 : n < 18446744073709551616) (w : World) : Ret 32 #[.int .u64 n, .int .i64 m] w (isRow w.heap.size (be m n)) :=
  (liveryref01_Big.calls (m + 1) n m (be m n) w (refBig_eq m hm n h0 h1 _ (by omega))).mono fun e w' ⟨v, he, hR, hB⟩ => ⟨v, he, Row.of_R hR, hB⟩

set_option maxHeartbeats 1000000 in
set_option maxRecDepth 100000 in
theorem Words_calls (c : Cp) (ho : c.Ok) (hs : c.pub.length < 65536) (hs2 : c.sl.length < 65536) (hs3 : c.ct.length < 65536) (hs4 : c.sig.length < 65536) (v : Value) (w : World) (hv : CapV 0 w v c) : Ret 10 #[v] w (isRow w.heap.size (if c.Worded then title ++ c.inner else [])) := by
  obtain ⟨_, _, _, _, rfl, ⟨A6, c6, rfl, l6, r6, _⟩, ⟨A7, c7, rfl, l7, r7, _⟩, ⟨A8, c8, rfl, l8, r8, _⟩, ⟨A9, c9, rfl, l9, r9, _⟩⟩ := hv
  have R6 : Row 0 w (.slice A6 c.pub.length c6) c.pub := Row.of_C r6 l6
  have R7 : Row 0 w (.slice A7 c.ct.length c7) c.ct := Row.of_C r7 l7
  have R8 : Row 0 w (.slice A8 c.sl.length c8) c.sl := Row.of_C r8 l8
  have R9 : Row 0 w (.slice A9 c.sig.length c9) c.sig := Row.of_C r9 l9
  have CV : CapV 0 w (.agg #[.int .i64 c.fr, .int .i64 c.tt, .int .u32 c.tid, .int .u32 c.key, .int .u64 c.lo, .int .u64 c.hi, .slice A6 c.pub.length c6, .slice A7 c.ct.length c7, .slice A8 c.sl.length c8, .slice A9 c.sig.length c9]) c := ⟨_, _, _, _, rfl, R6, R7, R8, R9⟩
  by_cases h : c.Worded
  · rw [if_pos h]
    go_enter Try.func10, Try.ntmps10
    have HBw : Below w.heap.size w w := Below.refl _ _
    (try simp only [Exit.inBlock, Exit.then])
    repeat (refine wp_seq ?_)
    refine rgs (B := w.heap.size) (w0 := w) [1, 2] [isBox w.heap.size [.int .i64 c.fr, .int .i64 c.tt, .int .u32 c.tid, .int .u32 c.key, .int .u64 c.lo, .int .u64 c.hi, .slice A6 c.pub.length c6, .slice A7 c.ct.length c7, .slice A8 c.sl.length c8, .slice A9 c.sig.length c9], isRow w.heap.size []] rfl (by decide) rfl HBw ?_ ?_ ?_
    · exact (stb_cons (stb_Box _ _) (stb_cons (stb_Row _ _) stb_nil))
    ·refine stepf_cons ?_ (stepf_cons ?_ stepf_nil)
     ·refine stp rfl rfl rfl rfl rfl fun a w' hB hM hoff hp K hK => ?_
      have e0 : a.tmps[0]? = some (.agg #[.int .i64 c.fr, .int .i64 c.tt, .int .u32 c.tid, .int .u32 c.key, .int .u64 c.lo, .int .u64 c.hi, .slice A6 c.pub.length c6, .slice A7 c.ct.length c7, .slice A8 c.sl.length c8, .slice A9 c.sig.length c9]) := (hoff 0 rfl).trans rfl
      have hu := Try.underlying28
      have hu2 := Try.underlying25
      refine op_val (v := .pointer (some ⟨w'.heap.size, 0, none⟩)) (w' := w'.alloc (.cells #[.int .i64 c.fr, .int .i64 c.tt, .int .u32 c.tid, .int .u32 c.key, .int .u64 c.lo, .int .u64 c.hi, .slice A6 c.pub.length c6, .slice A7 c.ct.length c7, .slice A8 c.sl.length c8, .slice A9 c.sig.length c9] 28)) (by first | (go_simp; done) | (go_simp; rfl)) (hK _ _ (below_then hB hB.size (below_alloc (Below.refl _ _) _)) (Mono.alloc _ _) ?_)
      exact ⟨_, rfl, hB.size, boxAt_alloc _ _ [.int .i64 c.fr, .int .i64 c.tt, .int .u32 c.tid, .int .u32 c.key, .int .u64 c.lo, .int .u64 c.hi, .slice A6 c.pub.length c6, .slice A7 c.ct.length c7, .slice A8 c.sl.length c8, .slice A9 c.sig.length c9]⟩
     ·refine stp rfl rfl rfl rfl rfl fun a w' hB hM hoff hp K hK => ?_
      exact op_val (by first | (go_simp; done) | (go_simp; rfl)) (hK _ _ hB (Mono.refl _) (Row.nil _ _))
    intro V1 w1 HB1 M1 hφ
    simp only [fillAll, Act.put, List.setIfInBounds_toArray, List.set_cons_zero, List.set_cons_succ]
    replace R6 := R6.mono M1
    replace R7 := R7.mono M1
    replace R8 := R8.mono M1
    replace R9 := R9.mono M1
    replace CV := CV.mono M1
    obtain ⟨b10_1, z1, hb1, C1⟩ := hφ 0 _ rfl (by decide)
    have K2 : Row w.heap.size w1 (V1 1) [] := hφ 1 _ rfl (by decide)
    simp only [z1]
    clear hφ
    (try simp only [Exit.inBlock, Exit.then])
    repeat (refine wp_seq ?_)
    refine rgs (B := w.heap.size) (w0 := w) [3, 4, 5] [isV (.agg #[.int .i64 c.fr, .int .i64 c.tt, .int .u32 c.tid, .int .u32 c.key, .int .u64 c.lo, .int .u64 c.hi, .slice A6 c.pub.length c6, .slice A7 c.ct.length c7, .slice A8 c.sl.length c8, .slice A9 c.sig.length c9]), isV (.bool true), isV (.bool false)] rfl (by decide) rfl HB1 ?_ ?_ ?_
    · exact (stb_cons (stb_V _) (stb_cons (stb_V _) (stb_cons (stb_V _) stb_nil)))
    ·refine stepf_cons ?_ (stepf_cons ?_ (stepf_cons ?_ stepf_nil))
     ·refine stp rfl rfl rfl rfl rfl fun a w' hB hM hoff hp K hK => ?_
      have e1 : a.tmps[1]? = some (.pointer (some ⟨b10_1, 0, none⟩)) := (hoff 1 rfl).trans rfl
      obtain ⟨d0, d1, d2, d3, d4, d5, d6, d7, d8, d9⟩ := (C1.mono hM).ten
      have hu := Try.underlying28
      have hu2 := Try.underlying25
      exact op_val (by first | (go_simp; done) | (go_simp; rfl)) (hK _ _ hB (Mono.refl _) rfl)
     ·refine stp rfl rfl rfl rfl rfl fun a w' hB hM hoff hp K hK => ?_
      obtain ⟨_, e3, rfl⟩ := hp 0 rfl 3 _ rfl rfl
      refine op_call Try.func25 (by kernel_rfl) rfl #[.agg #[.int .i64 c.fr, .int .i64 c.tt, .int .u32 c.tid, .int .u32 c.key, .int .u64 c.lo, .int .u64 c.hi, .slice A6 c.pub.length c6, .slice A7 c.ct.length c7, .slice A8 c.sl.length c8, .slice A9 c.sig.length c9]] rfl (by simp [ev e3]) (worded_calls c hs2 _ (decide_eq_true h) _ _ (CV.mono hM)) ?_
      rintro e w1 ⟨u, rfl, hR, hb⟩
      exact ⟨u, rfl, hK _ _ (below_then hB hB.size hb) (Mono.of_below hb) hR⟩
     ·refine stp rfl rfl rfl rfl rfl fun a w' hB hM hoff hp K hK => ?_
      obtain ⟨_, e4, rfl⟩ := hp 1 rfl 4 _ rfl rfl
      exact op_val (by first | (go_simp; done) | (go_simp; rfl)) (hK _ _ hB (Mono.refl _) rfl)
    intro V2 w2 HB2 M2 hφ
    simp only [fillAll, Act.put, List.setIfInBounds_toArray, List.set_cons_zero, List.set_cons_succ]
    replace R6 := R6.mono M2
    replace R7 := R7.mono M2
    replace R8 := R8.mono M2
    replace R9 := R9.mono M2
    replace CV := CV.mono M2
    replace C1 := C1.mono M2
    replace K2 := K2.mono M2
    have z3 : V2 0 = .agg #[.int .i64 c.fr, .int .i64 c.tt, .int .u32 c.tid, .int .u32 c.key, .int .u64 c.lo, .int .u64 c.hi, .slice A6 c.pub.length c6, .slice A7 c.ct.length c7, .slice A8 c.sl.length c8, .slice A9 c.sig.length c9] := hφ 0 _ rfl (by decide)
    have z4 : V2 1 = .bool true := hφ 1 _ rfl (by decide)
    have z5 : V2 2 = .bool false := hφ 2 _ rfl (by decide)
    simp only [z3, z4, z5]
    clear hφ
    (try simp only [Exit.inBlock, Exit.then])
    repeat (refine wp_seq ?_)
    (try simp only [Exit.inBlock, Exit.then])
    refine wp_cond_false rfl ?_
    refine wp_skip ?_
    (try simp only [Exit.inBlock, Exit.then])
    repeat (refine wp_seq ?_)
    refine rgs (B := w.heap.size) (w0 := w) [6, 7, 8, 9, 10, 11, 2] [isLit w.heap.size [108, 105, 118, 101, 114, 121, 32, 99, 97, 112, 115, 117, 108, 101], isRow w.heap.size [108, 105, 118, 101, 114, 121, 32, 99, 97, 112, 115, 117, 108, 101], isV (.agg #[.int .i64 c.fr, .int .i64 c.tt, .int .u32 c.tid, .int .u32 c.key, .int .u64 c.lo, .int .u64 c.hi, .slice A6 c.pub.length c6, .slice A7 c.ct.length c7, .slice A8 c.sl.length c8, .slice A9 c.sig.length c9]), isRow w.heap.size c.inner, isRows [[108, 105, 118, 101, 114, 121, 32, 99, 97, 112, 115, 117, 108, 101], c.inner], isRow w.heap.size (title ++ c.inner), isRow w.heap.size (title ++ c.inner)] rfl (by decide) rfl HB2 ?_ ?_ ?_
    · exact (stb_cons (stb_Lit _ _) (stb_cons (stb_Row _ _) (stb_cons (stb_V _) (stb_cons (stb_Row _ _) (stb_cons (stb_Rows _) (stb_cons (stb_Row _ _) (stb_cons (stb_Row _ _) stb_nil)))))))
    ·refine stepf_cons ?_ (stepf_cons ?_ (stepf_cons ?_ (stepf_cons ?_ (stepf_cons ?_ (stepf_cons ?_ (stepf_cons ?_ stepf_nil))))))
     ·refine stp rfl rfl rfl rfl rfl fun a w' hB hM hoff hp K hK => ?_
      refine op_val (v := .slice (some ⟨w'.heap.size, 0, none⟩) 14 14) (w' := w'.alloc (.cells #[.int .u8 108, .int .u8 105, .int .u8 118, .int .u8 101, .int .u8 114, .int .u8 121, .int .u8 32, .int .u8 99, .int .u8 97, .int .u8 112, .int .u8 115, .int .u8 117, .int .u8 108, .int .u8 101] 5)) (by first | (go_simp; done) | (go_simp; rfl)) (hK _ _ (below_then hB hB.size (below_alloc (Below.refl _ _) _)) (Mono.alloc _ _) ?_)
      exact isLit.lit (l := [108, 105, 118, 101, 114, 121, 32, 99, 97, 112, 115, 117, 108, 101]) hB.size (by simp)
     ·refine stp rfl rfl rfl rfl rfl fun a w' hB hM hoff hp K hK => ?_
      obtain ⟨v6, e6, h6⟩ := hp 0 rfl 6 _ rfl rfl
      obtain ⟨w2, hrun, hm, hR, hbl⟩ := run_lit h6 26 Try.underlying26 Try.underlying5
      exact op_val (v := v6) (w' := w2) (by first | (go_simp; done) | (go_simp; rfl)) (hK _ _ (hbl hB (Nat.le_refl _)) hm hR)
     ·refine stp rfl rfl rfl rfl rfl fun a w' hB hM hoff hp K hK => ?_
      have e1 : a.tmps[1]? = some (.pointer (some ⟨b10_1, 0, none⟩)) := (hoff 1 rfl).trans rfl
      obtain ⟨d0, d1, d2, d3, d4, d5, d6, d7, d8, d9⟩ := (C1.mono hM).ten
      have hu := Try.underlying28
      have hu2 := Try.underlying25
      exact op_val (by first | (go_simp; done) | (go_simp; rfl)) (hK _ _ hB (Mono.refl _) rfl)
     ·refine stp rfl rfl rfl rfl rfl fun a w' hB hM hoff hp K hK => ?_
      obtain ⟨_, e8, rfl⟩ := hp 2 rfl 8 _ rfl rfl
      refine op_call Try.func27 (by kernel_rfl) rfl #[.agg #[.int .i64 c.fr, .int .i64 c.tt, .int .u32 c.tid, .int .u32 c.key, .int .u64 c.lo, .int .u64 c.hi, .slice A6 c.pub.length c6, .slice A7 c.ct.length c7, .slice A8 c.sl.length c8, .slice A9 c.sig.length c9]] rfl (by simp [ev e8]) (inner_calls c ho hs hs2 hs3 hs4 _ _ (CV.mono hM)) ?_
      rintro e w1 ⟨u, rfl, hR, hb⟩
      exact ⟨u, rfl, hK _ _ (below_then hB hB.size hb) (Mono.of_below hb) (hR.lower hB.size)⟩
     ·refine stp rfl rfl rfl rfl rfl fun a w' hB hM hoff hp K hK => ?_
      obtain ⟨v7, e7, h7⟩ := hp 1 rfl 7 _ rfl rfl
      obtain ⟨v9, e9, h9⟩ := hp 3 rfl 9 _ rfl rfl
      have k7 := h7.lower (Nat.zero_le _)
      obtain ⟨X7, y7, rfl, _, _, _⟩ := h7
      have k9 := h9.lower (Nat.zero_le _)
      obtain ⟨X9, y9, rfl, _, _, _⟩ := h9
      refine op_val (v := .slice (some ⟨w'.heap.size, 0, none⟩) 2 2) (w' := w'.alloc (.cells #[.slice X7 ([108, 105, 118, 101, 114, 121, 32, 99, 97, 112, 115, 117, 108, 101]).length y7, .slice X9 (c.inner).length y9] 26)) (by first | (go_simp; done) | (go_simp; rfl)) (hK _ _ (below_then hB hB.size (below_alloc (Below.refl _ _) _)) (Mono.alloc _ _) ?_)
      exact RowsB.lit (l := [[108, 105, 118, 101, 114, 121, 32, 99, 97, 112, 115, 117, 108, 101], c.inner]) (vs := #[.slice X7 ([108, 105, 118, 101, 114, 121, 32, 99, 97, 112, 115, 117, 108, 101]).length y7, .slice X9 (c.inner).length y9]) (RowL.cons k7 (RowL.cons k9 (RowL.nil _))) (by simp)
     ·refine stp rfl rfl rfl rfl rfl fun a w' hB hM hoff hp K hK => ?_
      obtain ⟨v10, e10, h10⟩ := hp 4 rfl 10 _ rfl rfl
      refine op_call Try.func26 (by kernel_rfl) rfl #[v10] rfl (by simp [ev e10]) ((join_calls _ (by simp) (by simp [inner_length]; omega) _ _ h10).mono (fun e w' h => by simpa [title, List.append_assoc] using h)) ?_
      rintro e w1 ⟨u, rfl, hR, hb⟩
      exact ⟨u, rfl, hK _ _ (below_then hB hB.size hb) (Mono.of_below hb) (hR.lower hB.size)⟩
     ·refine stp rfl rfl rfl rfl rfl fun a w' hB hM hoff hp K hK => ?_
      obtain ⟨v11, e11, h11⟩ := hp 5 rfl 11 _ rfl rfl
      exact op_val (by first | (go_simp; done) | (go_simp; rfl)) (hK _ _ hB (Mono.refl _) h11)
    intro V3 w3 HB3 M3 hφ
    simp only [fillAll, Act.put, List.setIfInBounds_toArray, List.set_cons_zero, List.set_cons_succ]
    replace R6 := R6.mono M3
    replace R7 := R7.mono M3
    replace R8 := R8.mono M3
    replace R9 := R9.mono M3
    replace CV := CV.mono M3
    replace C1 := C1.mono M3
    replace K2 := K2.mono M3
    have K7 : Row w.heap.size w3 (V3 1) [108, 105, 118, 101, 114, 121, 32, 99, 97, 112, 115, 117, 108, 101] := hφ 1 _ rfl (by decide)
    have z8 : V3 2 = .agg #[.int .i64 c.fr, .int .i64 c.tt, .int .u32 c.tid, .int .u32 c.key, .int .u64 c.lo, .int .u64 c.hi, .slice A6 c.pub.length c6, .slice A7 c.ct.length c7, .slice A8 c.sl.length c8, .slice A9 c.sig.length c9] := hφ 2 _ rfl (by decide)
    have K9 : Row w.heap.size w3 (V3 3) c.inner := hφ 3 _ rfl (by decide)
    have K10 : RowsB w3 (V3 4) [[108, 105, 118, 101, 114, 121, 32, 99, 97, 112, 115, 117, 108, 101], c.inner] := hφ 4 _ rfl (by decide)
    have K11 : Row w.heap.size w3 (V3 5) (title ++ c.inner) := hφ 5 _ rfl (by decide)
    have K2 : Row w.heap.size w3 (V3 6) (title ++ c.inner) := hφ 6 _ rfl (by decide)
    simp only [z8]
    clear hφ
    (try simp only [Exit.inBlock, Exit.then])
    repeat (refine wp_seq ?_)
    (try simp only [Exit.inBlock, Exit.then])
    refine wp_ret ?_
    (try simp only [Exit.inBlock, Exit.then])
    go_ret
    exact ⟨_, rfl, K2, HB3⟩
  · rw [if_neg h]
    go_enter Try.func10, Try.ntmps10
    have HBw : Below w.heap.size w w := Below.refl _ _
    (try simp only [Exit.inBlock, Exit.then])
    repeat (refine wp_seq ?_)
    refine rgs (B := w.heap.size) (w0 := w) [1, 2] [isBox w.heap.size [.int .i64 c.fr, .int .i64 c.tt, .int .u32 c.tid, .int .u32 c.key, .int .u64 c.lo, .int .u64 c.hi, .slice A6 c.pub.length c6, .slice A7 c.ct.length c7, .slice A8 c.sl.length c8, .slice A9 c.sig.length c9], isRow w.heap.size []] rfl (by decide) rfl HBw ?_ ?_ ?_
    · exact (stb_cons (stb_Box _ _) (stb_cons (stb_Row _ _) stb_nil))
    ·refine stepf_cons ?_ (stepf_cons ?_ stepf_nil)
     ·refine stp rfl rfl rfl rfl rfl fun a w' hB hM hoff hp K hK => ?_
      have e0 : a.tmps[0]? = some (.agg #[.int .i64 c.fr, .int .i64 c.tt, .int .u32 c.tid, .int .u32 c.key, .int .u64 c.lo, .int .u64 c.hi, .slice A6 c.pub.length c6, .slice A7 c.ct.length c7, .slice A8 c.sl.length c8, .slice A9 c.sig.length c9]) := (hoff 0 rfl).trans rfl
      have hu := Try.underlying28
      have hu2 := Try.underlying25
      refine op_val (v := .pointer (some ⟨w'.heap.size, 0, none⟩)) (w' := w'.alloc (.cells #[.int .i64 c.fr, .int .i64 c.tt, .int .u32 c.tid, .int .u32 c.key, .int .u64 c.lo, .int .u64 c.hi, .slice A6 c.pub.length c6, .slice A7 c.ct.length c7, .slice A8 c.sl.length c8, .slice A9 c.sig.length c9] 28)) (by first | (go_simp; done) | (go_simp; rfl)) (hK _ _ (below_then hB hB.size (below_alloc (Below.refl _ _) _)) (Mono.alloc _ _) ?_)
      exact ⟨_, rfl, hB.size, boxAt_alloc _ _ [.int .i64 c.fr, .int .i64 c.tt, .int .u32 c.tid, .int .u32 c.key, .int .u64 c.lo, .int .u64 c.hi, .slice A6 c.pub.length c6, .slice A7 c.ct.length c7, .slice A8 c.sl.length c8, .slice A9 c.sig.length c9]⟩
     ·refine stp rfl rfl rfl rfl rfl fun a w' hB hM hoff hp K hK => ?_
      exact op_val (by first | (go_simp; done) | (go_simp; rfl)) (hK _ _ hB (Mono.refl _) (Row.nil _ _))
    intro V1 w1 HB1 M1 hφ
    simp only [fillAll, Act.put, List.setIfInBounds_toArray, List.set_cons_zero, List.set_cons_succ]
    replace R6 := R6.mono M1
    replace R7 := R7.mono M1
    replace R8 := R8.mono M1
    replace R9 := R9.mono M1
    replace CV := CV.mono M1
    obtain ⟨b10_1, z1, hb1, C1⟩ := hφ 0 _ rfl (by decide)
    have K2 : Row w.heap.size w1 (V1 1) [] := hφ 1 _ rfl (by decide)
    simp only [z1]
    clear hφ
    (try simp only [Exit.inBlock, Exit.then])
    repeat (refine wp_seq ?_)
    refine rgs (B := w.heap.size) (w0 := w) [3, 4, 5] [isV (.agg #[.int .i64 c.fr, .int .i64 c.tt, .int .u32 c.tid, .int .u32 c.key, .int .u64 c.lo, .int .u64 c.hi, .slice A6 c.pub.length c6, .slice A7 c.ct.length c7, .slice A8 c.sl.length c8, .slice A9 c.sig.length c9]), isV (.bool false), isV (.bool true)] rfl (by decide) rfl HB1 ?_ ?_ ?_
    · exact (stb_cons (stb_V _) (stb_cons (stb_V _) (stb_cons (stb_V _) stb_nil)))
    ·refine stepf_cons ?_ (stepf_cons ?_ (stepf_cons ?_ stepf_nil))
     ·refine stp rfl rfl rfl rfl rfl fun a w' hB hM hoff hp K hK => ?_
      have e1 : a.tmps[1]? = some (.pointer (some ⟨b10_1, 0, none⟩)) := (hoff 1 rfl).trans rfl
      obtain ⟨d0, d1, d2, d3, d4, d5, d6, d7, d8, d9⟩ := (C1.mono hM).ten
      have hu := Try.underlying28
      have hu2 := Try.underlying25
      exact op_val (by first | (go_simp; done) | (go_simp; rfl)) (hK _ _ hB (Mono.refl _) rfl)
     ·refine stp rfl rfl rfl rfl rfl fun a w' hB hM hoff hp K hK => ?_
      obtain ⟨_, e3, rfl⟩ := hp 0 rfl 3 _ rfl rfl
      refine op_call Try.func25 (by kernel_rfl) rfl #[.agg #[.int .i64 c.fr, .int .i64 c.tt, .int .u32 c.tid, .int .u32 c.key, .int .u64 c.lo, .int .u64 c.hi, .slice A6 c.pub.length c6, .slice A7 c.ct.length c7, .slice A8 c.sl.length c8, .slice A9 c.sig.length c9]] rfl (by simp [ev e3]) (worded_calls c hs2 _ (decide_eq_false h) _ _ (CV.mono hM)) ?_
      rintro e w1 ⟨u, rfl, hR, hb⟩
      exact ⟨u, rfl, hK _ _ (below_then hB hB.size hb) (Mono.of_below hb) hR⟩
     ·refine stp rfl rfl rfl rfl rfl fun a w' hB hM hoff hp K hK => ?_
      obtain ⟨_, e4, rfl⟩ := hp 1 rfl 4 _ rfl rfl
      exact op_val (by first | (go_simp; done) | (go_simp; rfl)) (hK _ _ hB (Mono.refl _) rfl)
    intro V2 w2 HB2 M2 hφ
    simp only [fillAll, Act.put, List.setIfInBounds_toArray, List.set_cons_zero, List.set_cons_succ]
    replace R6 := R6.mono M2
    replace R7 := R7.mono M2
    replace R8 := R8.mono M2
    replace R9 := R9.mono M2
    replace CV := CV.mono M2
    replace C1 := C1.mono M2
    replace K2 := K2.mono M2
    have z3 : V2 0 = .agg #[.int .i64 c.fr, .int .i64 c.tt, .int .u32 c.tid, .int .u32 c.key, .int .u64 c.lo, .int .u64 c.hi, .slice A6 c.pub.length c6, .slice A7 c.ct.length c7, .slice A8 c.sl.length c8, .slice A9 c.sig.length c9] := hφ 0 _ rfl (by decide)
    have z4 : V2 1 = .bool false := hφ 1 _ rfl (by decide)
    have z5 : V2 2 = .bool true := hφ 2 _ rfl (by decide)
    simp only [z3, z4, z5]
    clear hφ
    (try simp only [Exit.inBlock, Exit.then])
    repeat (refine wp_seq ?_)
    (try simp only [Exit.inBlock, Exit.then])
    refine wp_cond_true rfl ?_
    (try simp only [Exit.inBlock, Exit.then])
    repeat (refine wp_seq ?_)
    refine rgs (B := w.heap.size) (w0 := w) [2] [isRow w.heap.size []] rfl (by decide) rfl HB2 ?_ ?_ ?_
    · exact (stb_cons (stb_Row _ _) stb_nil)
    ·refine stepf_cons ?_ stepf_nil
     ·refine stp rfl rfl rfl rfl rfl fun a w' hB hM hoff hp K hK => ?_
      exact op_val (by first | (go_simp; done) | (go_simp; rfl)) (hK _ _ hB (Mono.refl _) (Row.nil _ _))
    intro V3 w3 HB3 M3 hφ
    simp only [fillAll, Act.put, List.setIfInBounds_toArray, List.set_cons_zero, List.set_cons_succ]
    replace R6 := R6.mono M3
    replace R7 := R7.mono M3
    replace R8 := R8.mono M3
    replace R9 := R9.mono M3
    replace CV := CV.mono M3
    replace C1 := C1.mono M3
    replace K2 := K2.mono M3
    have K2 : Row w.heap.size w3 (V3 0) [] := hφ 0 _ rfl (by decide)
    clear hφ
    (try simp only [Exit.inBlock, Exit.then])
    repeat (refine wp_seq ?_)
    (try simp only [Exit.inBlock, Exit.then])
    refine wp_ret ?_
    (try simp only [Exit.inBlock, Exit.then])
    go_ret
    exact ⟨_, rfl, K2, HB3⟩
set_option maxHeartbeats 1000000 in
theorem text_calls (l : List Int) (hl : l.length < 65536) (v : Value) (w : World) {B : Nat} (hv : Row B w v l) : Ret 33 #[v] w (isRow w.heap.size (be 2 l.length ++ l)) := by
  obtain ⟨A6, c6, rfl, l6, r6, _⟩ := hv
  have R6 : Row 0 w (.slice A6 l.length c6) l := Row.of_C r6 l6
  go_enter Try.func33, Try.ntmps33
  have HBw : Below w.heap.size w w := Below.refl _ _
  (try simp only [Exit.inBlock, Exit.then])
  repeat (refine wp_seq ?_)
  refine rgs (B := w.heap.size) (w0 := w) [2] [isRow w.heap.size []] rfl (by decide) rfl HBw ?_ ?_ ?_
  · exact (stb_cons (stb_Row _ _) stb_nil)
  ·refine stepf_cons ?_ stepf_nil
   ·refine stp rfl rfl rfl rfl rfl fun a w' hB hM hoff hp K hK => ?_
    exact op_val (by first | (go_simp; done) | (go_simp; rfl)) (hK _ _ hB (Mono.refl _) (Row.nil _ _))
  intro V1 w1 HB1 M1 hφ
  simp only [fillAll, Act.put, List.setIfInBounds_toArray, List.set_cons_zero, List.set_cons_succ]
  replace R6 := R6.mono M1
  have K2 : Row w.heap.size w1 (V1 0) [] := hφ 0 _ rfl (by decide)
  clear hφ
  (try simp only [Exit.inBlock, Exit.then])
  repeat (refine wp_seq ?_)
  refine rgs (B := w.heap.size) (w0 := w) [3, 4, 5, 6, 7, 8, 9, 2] [isV (.slice A6 l.length c6), isV (.int .i64 l.length), isV (.int .u64 l.length), isRow w.heap.size ((be 2 l.length)), isV (.slice A6 l.length c6), isRows [(be 2 l.length), l], isRow w.heap.size (be 2 l.length ++ l), isRow w.heap.size (be 2 l.length ++ l)] rfl (by decide) rfl HB1 ?_ ?_ ?_
  · exact (stb_cons (stb_V _) (stb_cons (stb_V _) (stb_cons (stb_V _) (stb_cons (stb_Row _ _) (stb_cons (stb_V _) (stb_cons (stb_Rows _) (stb_cons (stb_Row _ _) (stb_cons (stb_Row _ _) stb_nil))))))))
  ·refine stepf_cons ?_ (stepf_cons ?_ (stepf_cons ?_ (stepf_cons ?_ (stepf_cons ?_ (stepf_cons ?_ (stepf_cons ?_ (stepf_cons ?_ stepf_nil)))))))
   ·refine stp rfl rfl rfl rfl rfl fun a w' hB hM hoff hp K hK => ?_
    have e0 : a.tmps[0]? = some (.slice A6 l.length c6) := (hoff 0 rfl).trans rfl
    exact op_val (by first | (go_simp; done) | (go_simp; rfl)) (hK _ _ hB (Mono.refl _) rfl)
   ·refine stp rfl rfl rfl rfl rfl fun a w' hB hM hoff hp K hK => ?_
    obtain ⟨_, e3, rfl⟩ := hp 0 rfl 3 _ rfl rfl
    exact op_val (by first | (go_simp; done) | (go_simp; rfl)) (hK _ _ hB (Mono.refl _) rfl)
   ·refine stp rfl rfl rfl rfl rfl fun a w' hB hM hoff hp K hK => ?_
    obtain ⟨_, e4, rfl⟩ := hp 1 rfl 4 _ rfl rfl
    have hu64 := u64wrap (n := l.length) (by omega) (by omega)
    exact op_val (by first | (go_simp; done) | (go_simp; rfl)) (hK _ _ hB (Mono.refl _) rfl)
   ·refine stp rfl rfl rfl rfl rfl fun a w' hB hM hoff hp K hK => ?_
    obtain ⟨_, e5, rfl⟩ := hp 2 rfl 5 _ rfl rfl
    refine op_call Try.func32 (by kernel_rfl) rfl #[.int .u64 l.length, .int .i64 2] rfl (by simp [e5, Act.eval]) (refBig_calls 2 (by omega) _ (by omega) (by omega) _) ?_
    rintro e w1 ⟨u, rfl, hR, hb⟩
    exact ⟨u, rfl, hK _ _ (below_then hB hB.size hb) (Mono.of_below hb) (hR.lower hB.size)⟩
   ·refine stp rfl rfl rfl rfl rfl fun a w' hB hM hoff hp K hK => ?_
    have e0 : a.tmps[0]? = some (.slice A6 l.length c6) := (hoff 0 rfl).trans rfl
    exact op_val (by first | (go_simp; done) | (go_simp; rfl)) (hK _ _ hB (Mono.refl _) rfl)
   ·refine stp rfl rfl rfl rfl rfl fun a w' hB hM hoff hp K hK => ?_
    obtain ⟨v6, e6, h6⟩ := hp 3 rfl 6 _ rfl rfl
    obtain ⟨_, e7, rfl⟩ := hp 4 rfl 7 _ rfl rfl
    have k6 := h6.lower (Nat.zero_le _)
    obtain ⟨X6, y6, rfl, _, _, _⟩ := h6
    refine op_val (v := .slice (some ⟨w'.heap.size, 0, none⟩) 2 2) (w' := w'.alloc (.cells #[.slice X6 ((be 2 l.length)).length y6, .slice A6 l.length c6] 26)) (by first | (go_simp; done) | (go_simp; rfl)) (hK _ _ (below_then hB hB.size (below_alloc (Below.refl _ _) _)) (Mono.alloc _ _) ?_)
    exact RowsB.lit (l := [(be 2 l.length), l]) (vs := #[.slice X6 ((be 2 l.length)).length y6, .slice A6 l.length c6]) (RowL.cons k6 (RowL.cons ((R6.mono hM).lower (Nat.zero_le _)) (RowL.nil _))) (by simp)
   ·refine stp rfl rfl rfl rfl rfl fun a w' hB hM hoff hp K hK => ?_
    obtain ⟨v8, e8, h8⟩ := hp 5 rfl 8 _ rfl rfl
    refine op_call Try.func20 (by kernel_rfl) rfl #[v8] rfl (by simp [ev e8]) ((refJoin_calls _ (by simp) (by simp [be_length]; omega) _ _ h8).mono (fun e w' h => by simpa [List.append_assoc] using h)) ?_
    rintro e w1 ⟨u, rfl, hR, hb⟩
    exact ⟨u, rfl, hK _ _ (below_then hB hB.size hb) (Mono.of_below hb) (hR.lower hB.size)⟩
   ·refine stp rfl rfl rfl rfl rfl fun a w' hB hM hoff hp K hK => ?_
    obtain ⟨v9, e9, h9⟩ := hp 6 rfl 9 _ rfl rfl
    exact op_val (by first | (go_simp; done) | (go_simp; rfl)) (hK _ _ hB (Mono.refl _) h9)
  intro V2 w2 HB2 M2 hφ
  simp only [fillAll, Act.put, List.setIfInBounds_toArray, List.set_cons_zero, List.set_cons_succ]
  replace R6 := R6.mono M2
  replace K2 := K2.mono M2
  have z3 : V2 0 = .slice A6 l.length c6 := hφ 0 _ rfl (by decide)
  have z4 : V2 1 = .int .i64 l.length := hφ 1 _ rfl (by decide)
  have z5 : V2 2 = .int .u64 l.length := hφ 2 _ rfl (by decide)
  have K6 : Row w.heap.size w2 (V2 3) ((be 2 l.length)) := hφ 3 _ rfl (by decide)
  have z7 : V2 4 = .slice A6 l.length c6 := hφ 4 _ rfl (by decide)
  have K8 : RowsB w2 (V2 5) [(be 2 l.length), l] := hφ 5 _ rfl (by decide)
  have K9 : Row w.heap.size w2 (V2 6) (be 2 l.length ++ l) := hφ 6 _ rfl (by decide)
  have K2 : Row w.heap.size w2 (V2 7) (be 2 l.length ++ l) := hφ 7 _ rfl (by decide)
  simp only [z3, z4, z5, z7]
  clear hφ
  (try simp only [Exit.inBlock, Exit.then])
  repeat (refine wp_seq ?_)
  (try simp only [Exit.inBlock, Exit.then])
  refine wp_ret ?_
  (try simp only [Exit.inBlock, Exit.then])
  go_ret
  exact ⟨_, rfl, K2, HB2⟩
set_option maxHeartbeats 1000000 in
set_option maxRecDepth 100000 in
theorem refSaid_calls (c : Cp) (ho : c.Ok) (hs : c.pub.length < 65536) (hs2 : c.sl.length < 65536) (hs3 : c.ct.length < 65536) (hs4 : c.sig.length < 65536) (v : Value) (w : World) (hv : CapV 0 w v c) : Ret 17 #[v] w (isRow w.heap.size (if c.Spoken then c.said else [])) := by
  obtain ⟨_, _, _, _, rfl, ⟨A6, c6, rfl, l6, r6, _⟩, ⟨A7, c7, rfl, l7, r7, _⟩, ⟨A8, c8, rfl, l8, r8, _⟩, ⟨A9, c9, rfl, l9, r9, _⟩⟩ := hv
  have R6 : Row 0 w (.slice A6 c.pub.length c6) c.pub := Row.of_C r6 l6
  have R7 : Row 0 w (.slice A7 c.ct.length c7) c.ct := Row.of_C r7 l7
  have R8 : Row 0 w (.slice A8 c.sl.length c8) c.sl := Row.of_C r8 l8
  have R9 : Row 0 w (.slice A9 c.sig.length c9) c.sig := Row.of_C r9 l9
  have CV : CapV 0 w (.agg #[.int .i64 c.fr, .int .i64 c.tt, .int .u32 c.tid, .int .u32 c.key, .int .u64 c.lo, .int .u64 c.hi, .slice A6 c.pub.length c6, .slice A7 c.ct.length c7, .slice A8 c.sl.length c8, .slice A9 c.sig.length c9]) c := ⟨_, _, _, _, rfl, R6, R7, R8, R9⟩
  by_cases h : c.Spoken
  · rw [if_pos h]
    go_enter Try.func17, Try.ntmps17
    have HBw : Below w.heap.size w w := Below.refl _ _
    (try simp only [Exit.inBlock, Exit.then])
    repeat (refine wp_seq ?_)
    refine rgs (B := w.heap.size) (w0 := w) [1, 2] [isBox w.heap.size [.int .i64 c.fr, .int .i64 c.tt, .int .u32 c.tid, .int .u32 c.key, .int .u64 c.lo, .int .u64 c.hi, .slice A6 c.pub.length c6, .slice A7 c.ct.length c7, .slice A8 c.sl.length c8, .slice A9 c.sig.length c9], isRow w.heap.size []] rfl (by decide) rfl HBw ?_ ?_ ?_
    · exact (stb_cons (stb_Box _ _) (stb_cons (stb_Row _ _) stb_nil))
    ·refine stepf_cons ?_ (stepf_cons ?_ stepf_nil)
     ·refine stp rfl rfl rfl rfl rfl fun a w' hB hM hoff hp K hK => ?_
      have e0 : a.tmps[0]? = some (.agg #[.int .i64 c.fr, .int .i64 c.tt, .int .u32 c.tid, .int .u32 c.key, .int .u64 c.lo, .int .u64 c.hi, .slice A6 c.pub.length c6, .slice A7 c.ct.length c7, .slice A8 c.sl.length c8, .slice A9 c.sig.length c9]) := (hoff 0 rfl).trans rfl
      have hu := Try.underlying28
      have hu2 := Try.underlying25
      refine op_val (v := .pointer (some ⟨w'.heap.size, 0, none⟩)) (w' := w'.alloc (.cells #[.int .i64 c.fr, .int .i64 c.tt, .int .u32 c.tid, .int .u32 c.key, .int .u64 c.lo, .int .u64 c.hi, .slice A6 c.pub.length c6, .slice A7 c.ct.length c7, .slice A8 c.sl.length c8, .slice A9 c.sig.length c9] 28)) (by first | (go_simp; done) | (go_simp; rfl)) (hK _ _ (below_then hB hB.size (below_alloc (Below.refl _ _) _)) (Mono.alloc _ _) ?_)
      exact ⟨_, rfl, hB.size, boxAt_alloc _ _ [.int .i64 c.fr, .int .i64 c.tt, .int .u32 c.tid, .int .u32 c.key, .int .u64 c.lo, .int .u64 c.hi, .slice A6 c.pub.length c6, .slice A7 c.ct.length c7, .slice A8 c.sl.length c8, .slice A9 c.sig.length c9]⟩
     ·refine stp rfl rfl rfl rfl rfl fun a w' hB hM hoff hp K hK => ?_
      exact op_val (by first | (go_simp; done) | (go_simp; rfl)) (hK _ _ hB (Mono.refl _) (Row.nil _ _))
    intro V1 w1 HB1 M1 hφ
    simp only [fillAll, Act.put, List.setIfInBounds_toArray, List.set_cons_zero, List.set_cons_succ]
    replace R6 := R6.mono M1
    replace R7 := R7.mono M1
    replace R8 := R8.mono M1
    replace R9 := R9.mono M1
    replace CV := CV.mono M1
    obtain ⟨b17_1, z1, hb1, C1⟩ := hφ 0 _ rfl (by decide)
    have K2 : Row w.heap.size w1 (V1 1) [] := hφ 1 _ rfl (by decide)
    simp only [z1]
    clear hφ
    (try simp only [Exit.inBlock, Exit.then])
    repeat (refine wp_seq ?_)
    refine rgs (B := w.heap.size) (w0 := w) [3, 4, 5] [isV (.agg #[.int .i64 c.fr, .int .i64 c.tt, .int .u32 c.tid, .int .u32 c.key, .int .u64 c.lo, .int .u64 c.hi, .slice A6 c.pub.length c6, .slice A7 c.ct.length c7, .slice A8 c.sl.length c8, .slice A9 c.sig.length c9]), isV (.bool true), isV (.bool false)] rfl (by decide) rfl HB1 ?_ ?_ ?_
    · exact (stb_cons (stb_V _) (stb_cons (stb_V _) (stb_cons (stb_V _) stb_nil)))
    ·refine stepf_cons ?_ (stepf_cons ?_ (stepf_cons ?_ stepf_nil))
     ·refine stp rfl rfl rfl rfl rfl fun a w' hB hM hoff hp K hK => ?_
      have e1 : a.tmps[1]? = some (.pointer (some ⟨b17_1, 0, none⟩)) := (hoff 1 rfl).trans rfl
      obtain ⟨d0, d1, d2, d3, d4, d5, d6, d7, d8, d9⟩ := (C1.mono hM).ten
      have hu := Try.underlying28
      have hu2 := Try.underlying25
      exact op_val (by first | (go_simp; done) | (go_simp; rfl)) (hK _ _ hB (Mono.refl _) rfl)
     ·refine stp rfl rfl rfl rfl rfl fun a w' hB hM hoff hp K hK => ?_
      obtain ⟨_, e3, rfl⟩ := hp 0 rfl 3 _ rfl rfl
      refine op_call Try.func31 (by kernel_rfl) rfl #[.agg #[.int .i64 c.fr, .int .i64 c.tt, .int .u32 c.tid, .int .u32 c.key, .int .u64 c.lo, .int .u64 c.hi, .slice A6 c.pub.length c6, .slice A7 c.ct.length c7, .slice A8 c.sl.length c8, .slice A9 c.sig.length c9]] rfl (by simp [ev e3]) (refSpoken_calls c _ (decide_eq_true h) _ _ (CV.mono hM)) ?_
      rintro e w1 ⟨u, rfl, hR, hb⟩
      exact ⟨u, rfl, hK _ _ (below_then hB hB.size hb) (Mono.of_below hb) hR⟩
     ·refine stp rfl rfl rfl rfl rfl fun a w' hB hM hoff hp K hK => ?_
      obtain ⟨_, e4, rfl⟩ := hp 1 rfl 4 _ rfl rfl
      exact op_val (by first | (go_simp; done) | (go_simp; rfl)) (hK _ _ hB (Mono.refl _) rfl)
    intro V2 w2 HB2 M2 hφ
    simp only [fillAll, Act.put, List.setIfInBounds_toArray, List.set_cons_zero, List.set_cons_succ]
    replace R6 := R6.mono M2
    replace R7 := R7.mono M2
    replace R8 := R8.mono M2
    replace R9 := R9.mono M2
    replace CV := CV.mono M2
    replace C1 := C1.mono M2
    replace K2 := K2.mono M2
    have z3 : V2 0 = .agg #[.int .i64 c.fr, .int .i64 c.tt, .int .u32 c.tid, .int .u32 c.key, .int .u64 c.lo, .int .u64 c.hi, .slice A6 c.pub.length c6, .slice A7 c.ct.length c7, .slice A8 c.sl.length c8, .slice A9 c.sig.length c9] := hφ 0 _ rfl (by decide)
    have z4 : V2 1 = .bool true := hφ 1 _ rfl (by decide)
    have z5 : V2 2 = .bool false := hφ 2 _ rfl (by decide)
    simp only [z3, z4, z5]
    clear hφ
    (try simp only [Exit.inBlock, Exit.then])
    repeat (refine wp_seq ?_)
    (try simp only [Exit.inBlock, Exit.then])
    refine wp_cond_false rfl ?_
    refine wp_skip ?_
    (try simp only [Exit.inBlock, Exit.then])
    repeat (refine wp_seq ?_)
    refine rg (B := w.heap.size) (w0 := w) (by kernel_rfl) (by decide +kernel) [6, 7, 8, 9, 10, 11, 12, 13, 14, 15, 16, 17, 18, 19, 20, 21, 22, 23, 24, 25, 26, 27, 28, 29, 30, 31, 32, 33, 2] [isV (.pointer (some ⟨b17_1, 0, none⟩)), isV (.int .i64 c.fr), isV (.int .u8 (c.fr % 256)), isV (.pointer (some ⟨b17_1, 1, none⟩)), isV (.int .i64 c.tt), isV (.int .u8 (c.tt % 256)), isRow w.heap.size [(c.fr % 256), (c.tt % 256)], isV (.pointer (some ⟨b17_1, 2, none⟩)), isV (.int .u32 c.tid), isV (.int .u64 c.tid), isRow w.heap.size ((be 4 c.tid)), isV (.pointer (some ⟨b17_1, 3, none⟩)), isV (.int .u32 c.key), isV (.int .u64 c.key), isRow w.heap.size ((be 4 c.key)), isV (.pointer (some ⟨b17_1, 4, none⟩)), isV (.pointer (some ⟨b17_1, 4, none⟩)), isV (.int .u64 c.lo), isRow w.heap.size ((be 8 c.lo)), isV (.pointer (some ⟨b17_1, 4, none⟩)), isV (.pointer (some ⟨b17_1, 5, none⟩)), isV (.int .u64 c.hi), isRow w.heap.size ((be 8 c.hi)), isV (.pointer (some ⟨b17_1, 6, none⟩)), isV (.slice A6 c.pub.length c6), isRow w.heap.size (be 2 (c.pub).length ++ c.pub), isRows [[(c.fr % 256), (c.tt % 256)], (be 4 c.tid), (be 4 c.key), (be 8 c.lo), (be 8 c.hi), be 2 (c.pub).length ++ c.pub], isRow w.heap.size c.said, isRow w.heap.size c.said] rfl (by decide) rfl HB2 ?_ ?_ ?_
    · exact (stb_cons (stb_V _) (stb_cons (stb_V _) (stb_cons (stb_V _) (stb_cons (stb_V _) (stb_cons (stb_V _) (stb_cons (stb_V _) (stb_cons (stb_Row _ _) (stb_cons (stb_V _) (stb_cons (stb_V _) (stb_cons (stb_V _) (stb_cons (stb_Row _ _) (stb_cons (stb_V _) (stb_cons (stb_V _) (stb_cons (stb_V _) (stb_cons (stb_Row _ _) (stb_cons (stb_V _) (stb_cons (stb_V _) (stb_cons (stb_V _) (stb_cons (stb_Row _ _) (stb_cons (stb_V _) (stb_cons (stb_V _) (stb_cons (stb_V _) (stb_cons (stb_Row _ _) (stb_cons (stb_V _) (stb_cons (stb_V _) (stb_cons (stb_Row _ _) (stb_cons (stb_Rows _) (stb_cons (stb_Row _ _) (stb_cons (stb_Row _ _) stb_nil)))))))))))))))))))))))))))))
    ·refine stepf_cons ?_ (stepf_cons ?_ (stepf_cons ?_ (stepf_cons ?_ (stepf_cons ?_ (stepf_cons ?_ (stepf_cons ?_ (stepf_cons ?_ (stepf_cons ?_ (stepf_cons ?_ (stepf_cons ?_ (stepf_cons ?_ (stepf_cons ?_ (stepf_cons ?_ (stepf_cons ?_ (stepf_cons ?_ (stepf_cons ?_ (stepf_cons ?_ (stepf_cons ?_ (stepf_cons ?_ (stepf_cons ?_ (stepf_cons ?_ (stepf_cons ?_ (stepf_cons ?_ (stepf_cons ?_ (stepf_cons ?_ (stepf_cons ?_ (stepf_cons ?_ (stepf_cons ?_ stepf_nil))))))))))))))))))))))))))))
     ·refine stp rfl rfl rfl rfl rfl fun a w' hB hM hoff hp K hK => ?_
      have e1 : a.tmps[1]? = some (.pointer (some ⟨b17_1, 0, none⟩)) := (hoff 1 rfl).trans rfl
      have hu := Try.underlying28
      exact op_val (by first | (go_simp; done) | (go_simp; rfl)) (hK _ _ hB (Mono.refl _) rfl)
     ·refine stp rfl rfl rfl rfl rfl fun a w' hB hM hoff hp K hK => ?_
      obtain ⟨_, e6, rfl⟩ := hp 0 rfl 6 _ rfl rfl
      have d0 := (C1.mono hM) 0 _ rfl
      exact op_val (by first | (go_simp; done) | (go_simp; rfl)) (hK _ _ hB (Mono.refl _) rfl)
     ·refine stp rfl rfl rfl rfl rfl fun a w' hB hM hoff hp K hK => ?_
      obtain ⟨_, e7, rfl⟩ := hp 1 rfl 7 _ rfl rfl
      exact op_val (by first | (go_simp; done) | (go_simp; rfl)) (hK _ _ hB (Mono.refl _) rfl)
     ·refine stp rfl rfl rfl rfl rfl fun a w' hB hM hoff hp K hK => ?_
      have e1 : a.tmps[1]? = some (.pointer (some ⟨b17_1, 0, none⟩)) := (hoff 1 rfl).trans rfl
      have hu := Try.underlying28
      exact op_val (by first | (go_simp; done) | (go_simp; rfl)) (hK _ _ hB (Mono.refl _) rfl)
     ·refine stp rfl rfl rfl rfl rfl fun a w' hB hM hoff hp K hK => ?_
      obtain ⟨_, e9, rfl⟩ := hp 3 rfl 9 _ rfl rfl
      have d1 := (C1.mono hM) 1 _ rfl
      exact op_val (by first | (go_simp; done) | (go_simp; rfl)) (hK _ _ hB (Mono.refl _) rfl)
     ·refine stp rfl rfl rfl rfl rfl fun a w' hB hM hoff hp K hK => ?_
      obtain ⟨_, e10, rfl⟩ := hp 4 rfl 10 _ rfl rfl
      exact op_val (by first | (go_simp; done) | (go_simp; rfl)) (hK _ _ hB (Mono.refl _) rfl)
     ·refine stp rfl rfl rfl rfl rfl fun a w' hB hM hoff hp K hK => ?_
      obtain ⟨_, e8, rfl⟩ := hp 2 rfl 8 _ rfl rfl
      obtain ⟨_, e11, rfl⟩ := hp 5 rfl 11 _ rfl rfl
      refine op_val (v := .slice (some ⟨w'.heap.size, 0, none⟩) 2 2) (w' := w'.alloc (.cells #[.int .u8 ((c.fr % 256)), .int .u8 ((c.tt % 256))] 5)) (by first | (go_simp; done) | (go_simp; rfl)) (hK _ _ (below_then hB hB.size (below_alloc (Below.refl _ _) _)) (Mono.alloc _ _) ?_)
      exact Row.lit (l := [(c.fr % 256), (c.tt % 256)]) hB.size (by simp)
     ·refine stp rfl rfl rfl rfl rfl fun a w' hB hM hoff hp K hK => ?_
      have e1 : a.tmps[1]? = some (.pointer (some ⟨b17_1, 0, none⟩)) := (hoff 1 rfl).trans rfl
      have hu := Try.underlying28
      exact op_val (by first | (go_simp; done) | (go_simp; rfl)) (hK _ _ hB (Mono.refl _) rfl)
     ·refine stp rfl rfl rfl rfl rfl fun a w' hB hM hoff hp K hK => ?_
      obtain ⟨_, e13, rfl⟩ := hp 7 rfl 13 _ rfl rfl
      have d2 := (C1.mono hM) 2 _ rfl
      exact op_val (by first | (go_simp; done) | (go_simp; rfl)) (hK _ _ hB (Mono.refl _) rfl)
     ·refine stp rfl rfl rfl rfl rfl fun a w' hB hM hoff hp K hK => ?_
      obtain ⟨_, e14, rfl⟩ := hp 8 rfl 14 _ rfl rfl
      have hu64 := u64wrap (n := c.tid) ho.tid.1 (by have := ho.tid.2; omega)
      exact op_val (by first | (go_simp; done) | (go_simp; rfl)) (hK _ _ hB (Mono.refl _) rfl)
     ·refine stp rfl rfl rfl rfl rfl fun a w' hB hM hoff hp K hK => ?_
      obtain ⟨_, e15, rfl⟩ := hp 9 rfl 15 _ rfl rfl
      refine op_call Try.func32 (by kernel_rfl) rfl #[.int .u64 c.tid, .int .i64 4] rfl (by simp [e15, Act.eval]) (refBig_calls 4 (by omega) _ ho.tid.1 (by have := ho.tid.2; omega) _) ?_
      rintro e w1 ⟨u, rfl, hR, hb⟩
      exact ⟨u, rfl, hK _ _ (below_then hB hB.size hb) (Mono.of_below hb) (hR.lower hB.size)⟩
     ·refine stp rfl rfl rfl rfl rfl fun a w' hB hM hoff hp K hK => ?_
      have e1 : a.tmps[1]? = some (.pointer (some ⟨b17_1, 0, none⟩)) := (hoff 1 rfl).trans rfl
      have hu := Try.underlying28
      exact op_val (by first | (go_simp; done) | (go_simp; rfl)) (hK _ _ hB (Mono.refl _) rfl)
     ·refine stp rfl rfl rfl rfl rfl fun a w' hB hM hoff hp K hK => ?_
      obtain ⟨_, e17, rfl⟩ := hp 11 rfl 17 _ rfl rfl
      have d3 := (C1.mono hM) 3 _ rfl
      exact op_val (by first | (go_simp; done) | (go_simp; rfl)) (hK _ _ hB (Mono.refl _) rfl)
     ·refine stp rfl rfl rfl rfl rfl fun a w' hB hM hoff hp K hK => ?_
      obtain ⟨_, e18, rfl⟩ := hp 12 rfl 18 _ rfl rfl
      have hu64 := u64wrap (n := c.key) ho.key.1 (by have := ho.key.2; omega)
      exact op_val (by first | (go_simp; done) | (go_simp; rfl)) (hK _ _ hB (Mono.refl _) rfl)
     ·refine stp rfl rfl rfl rfl rfl fun a w' hB hM hoff hp K hK => ?_
      obtain ⟨_, e19, rfl⟩ := hp 13 rfl 19 _ rfl rfl
      refine op_call Try.func32 (by kernel_rfl) rfl #[.int .u64 c.key, .int .i64 4] rfl (by simp [e19, Act.eval]) (refBig_calls 4 (by omega) _ ho.key.1 (by have := ho.key.2; omega) _) ?_
      rintro e w1 ⟨u, rfl, hR, hb⟩
      exact ⟨u, rfl, hK _ _ (below_then hB hB.size hb) (Mono.of_below hb) (hR.lower hB.size)⟩
     ·refine stp rfl rfl rfl rfl rfl fun a w' hB hM hoff hp K hK => ?_
      have e1 : a.tmps[1]? = some (.pointer (some ⟨b17_1, 0, none⟩)) := (hoff 1 rfl).trans rfl
      have hu := Try.underlying28
      exact op_val (by first | (go_simp; done) | (go_simp; rfl)) (hK _ _ hB (Mono.refl _) rfl)
     ·refine stp rfl rfl rfl rfl rfl fun a w' hB hM hoff hp K hK => ?_
      obtain ⟨_, e21, rfl⟩ := hp 15 rfl 21 _ rfl rfl
      have hu := Try.underlying25
      exact op_val (by first | (go_simp; done) | (go_simp; rfl)) (hK _ _ hB (Mono.refl _) rfl)
     ·refine stp rfl rfl rfl rfl rfl fun a w' hB hM hoff hp K hK => ?_
      obtain ⟨_, e22, rfl⟩ := hp 16 rfl 22 _ rfl rfl
      have d4 := (C1.mono hM) 4 _ rfl
      exact op_val (by first | (go_simp; done) | (go_simp; rfl)) (hK _ _ hB (Mono.refl _) rfl)
     ·refine stp rfl rfl rfl rfl rfl fun a w' hB hM hoff hp K hK => ?_
      obtain ⟨_, e23, rfl⟩ := hp 17 rfl 23 _ rfl rfl
      refine op_call Try.func32 (by kernel_rfl) rfl #[.int .u64 c.lo, .int .i64 8] rfl (by simp [e23, Act.eval]) (refBig_calls 8 (by omega) _ ho.lo.1 (by have := ho.lo.2; omega) _) ?_
      rintro e w1 ⟨u, rfl, hR, hb⟩
      exact ⟨u, rfl, hK _ _ (below_then hB hB.size hb) (Mono.of_below hb) (hR.lower hB.size)⟩
     ·refine stp rfl rfl rfl rfl rfl fun a w' hB hM hoff hp K hK => ?_
      have e1 : a.tmps[1]? = some (.pointer (some ⟨b17_1, 0, none⟩)) := (hoff 1 rfl).trans rfl
      have hu := Try.underlying28
      exact op_val (by first | (go_simp; done) | (go_simp; rfl)) (hK _ _ hB (Mono.refl _) rfl)
     ·refine stp rfl rfl rfl rfl rfl fun a w' hB hM hoff hp K hK => ?_
      obtain ⟨_, e25, rfl⟩ := hp 19 rfl 25 _ rfl rfl
      have hu := Try.underlying25
      exact op_val (by first | (go_simp; done) | (go_simp; rfl)) (hK _ _ hB (Mono.refl _) rfl)
     ·refine stp rfl rfl rfl rfl rfl fun a w' hB hM hoff hp K hK => ?_
      obtain ⟨_, e26, rfl⟩ := hp 20 rfl 26 _ rfl rfl
      have d5 := (C1.mono hM) 5 _ rfl
      exact op_val (by first | (go_simp; done) | (go_simp; rfl)) (hK _ _ hB (Mono.refl _) rfl)
     ·refine stp rfl rfl rfl rfl rfl fun a w' hB hM hoff hp K hK => ?_
      obtain ⟨_, e27, rfl⟩ := hp 21 rfl 27 _ rfl rfl
      refine op_call Try.func32 (by kernel_rfl) rfl #[.int .u64 c.hi, .int .i64 8] rfl (by simp [e27, Act.eval]) (refBig_calls 8 (by omega) _ ho.hi.1 (by have := ho.hi.2; omega) _) ?_
      rintro e w1 ⟨u, rfl, hR, hb⟩
      exact ⟨u, rfl, hK _ _ (below_then hB hB.size hb) (Mono.of_below hb) (hR.lower hB.size)⟩
     ·refine stp rfl rfl rfl rfl rfl fun a w' hB hM hoff hp K hK => ?_
      have e1 : a.tmps[1]? = some (.pointer (some ⟨b17_1, 0, none⟩)) := (hoff 1 rfl).trans rfl
      have hu := Try.underlying28
      exact op_val (by first | (go_simp; done) | (go_simp; rfl)) (hK _ _ hB (Mono.refl _) rfl)
     ·refine stp rfl rfl rfl rfl rfl fun a w' hB hM hoff hp K hK => ?_
      obtain ⟨_, e29, rfl⟩ := hp 23 rfl 29 _ rfl rfl
      have d6 := (C1.mono hM) 6 _ rfl
      exact op_val (by first | (go_simp; done) | (go_simp; rfl)) (hK _ _ hB (Mono.refl _) rfl)
     ·refine stp rfl rfl rfl rfl rfl fun a w' hB hM hoff hp K hK => ?_
      obtain ⟨_, e30, rfl⟩ := hp 24 rfl 30 _ rfl rfl
      refine op_call Try.func33 (by kernel_rfl) rfl #[.slice A6 c.pub.length c6] rfl (by simp [ev e30]) (text_calls _ (by omega) _ _ (R6.mono hM)) ?_
      rintro e w1 ⟨u, rfl, hR, hb⟩
      exact ⟨u, rfl, hK _ _ (below_then hB hB.size hb) (Mono.of_below hb) (hR.lower hB.size)⟩
     ·refine stp rfl rfl rfl rfl rfl fun a w' hB hM hoff hp K hK => ?_
      obtain ⟨v12, e12, h12⟩ := hp 6 rfl 12 _ rfl rfl
      obtain ⟨v16, e16, h16⟩ := hp 10 rfl 16 _ rfl rfl
      obtain ⟨v20, e20, h20⟩ := hp 14 rfl 20 _ rfl rfl
      obtain ⟨v24, e24, h24⟩ := hp 18 rfl 24 _ rfl rfl
      obtain ⟨v28, e28, h28⟩ := hp 22 rfl 28 _ rfl rfl
      obtain ⟨v31, e31, h31⟩ := hp 25 rfl 31 _ rfl rfl
      have k12 := h12.lower (Nat.zero_le _)
      obtain ⟨X12, y12, rfl, _, _, _⟩ := h12
      have k16 := h16.lower (Nat.zero_le _)
      obtain ⟨X16, y16, rfl, _, _, _⟩ := h16
      have k20 := h20.lower (Nat.zero_le _)
      obtain ⟨X20, y20, rfl, _, _, _⟩ := h20
      have k24 := h24.lower (Nat.zero_le _)
      obtain ⟨X24, y24, rfl, _, _, _⟩ := h24
      have k28 := h28.lower (Nat.zero_le _)
      obtain ⟨X28, y28, rfl, _, _, _⟩ := h28
      have k31 := h31.lower (Nat.zero_le _)
      obtain ⟨X31, y31, rfl, _, _, _⟩ := h31
      refine op_val (v := .slice (some ⟨w'.heap.size, 0, none⟩) 6 6) (w' := w'.alloc (.cells #[.slice X12 ([(c.fr % 256), (c.tt % 256)]).length y12, .slice X16 ((be 4 c.tid)).length y16, .slice X20 ((be 4 c.key)).length y20, .slice X24 ((be 8 c.lo)).length y24, .slice X28 ((be 8 c.hi)).length y28, .slice X31 (be 2 (c.pub).length ++ c.pub).length y31] 26)) (by first | (go_simp; done) | (go_simp; rfl)) (hK _ _ (below_then hB hB.size (below_alloc (Below.refl _ _) _)) (Mono.alloc _ _) ?_)
      exact RowsB.lit (l := [[(c.fr % 256), (c.tt % 256)], (be 4 c.tid), (be 4 c.key), (be 8 c.lo), (be 8 c.hi), be 2 (c.pub).length ++ c.pub]) (vs := #[.slice X12 ([(c.fr % 256), (c.tt % 256)]).length y12, .slice X16 ((be 4 c.tid)).length y16, .slice X20 ((be 4 c.key)).length y20, .slice X24 ((be 8 c.lo)).length y24, .slice X28 ((be 8 c.hi)).length y28, .slice X31 (be 2 (c.pub).length ++ c.pub).length y31]) (RowL.cons k12 (RowL.cons k16 (RowL.cons k20 (RowL.cons k24 (RowL.cons k28 (RowL.cons k31 (RowL.nil _))))))) (by simp)
     ·refine stp rfl rfl rfl rfl rfl fun a w' hB hM hoff hp K hK => ?_
      obtain ⟨v32, e32, h32⟩ := hp 26 rfl 32 _ rfl rfl
      refine op_call Try.func20 (by kernel_rfl) rfl #[v32] rfl (by simp [ev e32]) ((refJoin_calls _ (by simp) (by simp [be_length]; omega) _ _ h32).mono (fun e w' h => by simpa [Cp.said, List.append_assoc] using h)) ?_
      rintro e w1 ⟨u, rfl, hR, hb⟩
      exact ⟨u, rfl, hK _ _ (below_then hB hB.size hb) (Mono.of_below hb) (hR.lower hB.size)⟩
     ·refine stp rfl rfl rfl rfl rfl fun a w' hB hM hoff hp K hK => ?_
      obtain ⟨v33, e33, h33⟩ := hp 27 rfl 33 _ rfl rfl
      exact op_val (by first | (go_simp; done) | (go_simp; rfl)) (hK _ _ hB (Mono.refl _) h33)
    intro V3 w3 HB3 M3 hφ
    simp only [fillAll, Act.put, List.setIfInBounds_toArray, List.set_cons_zero, List.set_cons_succ]
    replace R6 := R6.mono M3
    replace R7 := R7.mono M3
    replace R8 := R8.mono M3
    replace R9 := R9.mono M3
    replace CV := CV.mono M3
    replace C1 := C1.mono M3
    replace K2 := K2.mono M3
    have z6 : V3 0 = .pointer (some ⟨b17_1, 0, none⟩) := hφ 0 _ rfl (by decide)
    have z7 : V3 1 = .int .i64 c.fr := hφ 1 _ rfl (by decide)
    have z8 : V3 2 = .int .u8 (c.fr % 256) := hφ 2 _ rfl (by decide)
    have z9 : V3 3 = .pointer (some ⟨b17_1, 1, none⟩) := hφ 3 _ rfl (by decide)
    have z10 : V3 4 = .int .i64 c.tt := hφ 4 _ rfl (by decide)
    have z11 : V3 5 = .int .u8 (c.tt % 256) := hφ 5 _ rfl (by decide)
    have K12 : Row w.heap.size w3 (V3 6) [(c.fr % 256), (c.tt % 256)] := hφ 6 _ rfl (by decide)
    have z13 : V3 7 = .pointer (some ⟨b17_1, 2, none⟩) := hφ 7 _ rfl (by decide)
    have z14 : V3 8 = .int .u32 c.tid := hφ 8 _ rfl (by decide)
    have z15 : V3 9 = .int .u64 c.tid := hφ 9 _ rfl (by decide)
    have K16 : Row w.heap.size w3 (V3 10) ((be 4 c.tid)) := hφ 10 _ rfl (by decide)
    have z17 : V3 11 = .pointer (some ⟨b17_1, 3, none⟩) := hφ 11 _ rfl (by decide)
    have z18 : V3 12 = .int .u32 c.key := hφ 12 _ rfl (by decide)
    have z19 : V3 13 = .int .u64 c.key := hφ 13 _ rfl (by decide)
    have K20 : Row w.heap.size w3 (V3 14) ((be 4 c.key)) := hφ 14 _ rfl (by decide)
    have z21 : V3 15 = .pointer (some ⟨b17_1, 4, none⟩) := hφ 15 _ rfl (by decide)
    have z22 : V3 16 = .pointer (some ⟨b17_1, 4, none⟩) := hφ 16 _ rfl (by decide)
    have z23 : V3 17 = .int .u64 c.lo := hφ 17 _ rfl (by decide)
    have K24 : Row w.heap.size w3 (V3 18) ((be 8 c.lo)) := hφ 18 _ rfl (by decide)
    have z25 : V3 19 = .pointer (some ⟨b17_1, 4, none⟩) := hφ 19 _ rfl (by decide)
    have z26 : V3 20 = .pointer (some ⟨b17_1, 5, none⟩) := hφ 20 _ rfl (by decide)
    have z27 : V3 21 = .int .u64 c.hi := hφ 21 _ rfl (by decide)
    have K28 : Row w.heap.size w3 (V3 22) ((be 8 c.hi)) := hφ 22 _ rfl (by decide)
    have z29 : V3 23 = .pointer (some ⟨b17_1, 6, none⟩) := hφ 23 _ rfl (by decide)
    have z30 : V3 24 = .slice A6 c.pub.length c6 := hφ 24 _ rfl (by decide)
    have K31 : Row w.heap.size w3 (V3 25) (be 2 (c.pub).length ++ c.pub) := hφ 25 _ rfl (by decide)
    have K32 : RowsB w3 (V3 26) [[(c.fr % 256), (c.tt % 256)], (be 4 c.tid), (be 4 c.key), (be 8 c.lo), (be 8 c.hi), be 2 (c.pub).length ++ c.pub] := hφ 26 _ rfl (by decide)
    have K33 : Row w.heap.size w3 (V3 27) c.said := hφ 27 _ rfl (by decide)
    have K2 : Row w.heap.size w3 (V3 28) c.said := hφ 28 _ rfl (by decide)
    simp only [z6, z7, z8, z9, z10, z11, z13, z14, z15, z17, z18, z19, z21, z22, z23, z25, z26, z27, z29, z30]
    clear hφ
    (try simp only [Exit.inBlock, Exit.then])
    repeat (refine wp_seq ?_)
    (try simp only [Exit.inBlock, Exit.then])
    refine wp_ret ?_
    (try simp only [Exit.inBlock, Exit.then])
    go_ret
    exact ⟨_, rfl, K2, HB3⟩
  · rw [if_neg h]
    go_enter Try.func17, Try.ntmps17
    have HBw : Below w.heap.size w w := Below.refl _ _
    (try simp only [Exit.inBlock, Exit.then])
    repeat (refine wp_seq ?_)
    refine rgs (B := w.heap.size) (w0 := w) [1, 2] [isBox w.heap.size [.int .i64 c.fr, .int .i64 c.tt, .int .u32 c.tid, .int .u32 c.key, .int .u64 c.lo, .int .u64 c.hi, .slice A6 c.pub.length c6, .slice A7 c.ct.length c7, .slice A8 c.sl.length c8, .slice A9 c.sig.length c9], isRow w.heap.size []] rfl (by decide) rfl HBw ?_ ?_ ?_
    · exact (stb_cons (stb_Box _ _) (stb_cons (stb_Row _ _) stb_nil))
    ·refine stepf_cons ?_ (stepf_cons ?_ stepf_nil)
     ·refine stp rfl rfl rfl rfl rfl fun a w' hB hM hoff hp K hK => ?_
      have e0 : a.tmps[0]? = some (.agg #[.int .i64 c.fr, .int .i64 c.tt, .int .u32 c.tid, .int .u32 c.key, .int .u64 c.lo, .int .u64 c.hi, .slice A6 c.pub.length c6, .slice A7 c.ct.length c7, .slice A8 c.sl.length c8, .slice A9 c.sig.length c9]) := (hoff 0 rfl).trans rfl
      have hu := Try.underlying28
      have hu2 := Try.underlying25
      refine op_val (v := .pointer (some ⟨w'.heap.size, 0, none⟩)) (w' := w'.alloc (.cells #[.int .i64 c.fr, .int .i64 c.tt, .int .u32 c.tid, .int .u32 c.key, .int .u64 c.lo, .int .u64 c.hi, .slice A6 c.pub.length c6, .slice A7 c.ct.length c7, .slice A8 c.sl.length c8, .slice A9 c.sig.length c9] 28)) (by first | (go_simp; done) | (go_simp; rfl)) (hK _ _ (below_then hB hB.size (below_alloc (Below.refl _ _) _)) (Mono.alloc _ _) ?_)
      exact ⟨_, rfl, hB.size, boxAt_alloc _ _ [.int .i64 c.fr, .int .i64 c.tt, .int .u32 c.tid, .int .u32 c.key, .int .u64 c.lo, .int .u64 c.hi, .slice A6 c.pub.length c6, .slice A7 c.ct.length c7, .slice A8 c.sl.length c8, .slice A9 c.sig.length c9]⟩
     ·refine stp rfl rfl rfl rfl rfl fun a w' hB hM hoff hp K hK => ?_
      exact op_val (by first | (go_simp; done) | (go_simp; rfl)) (hK _ _ hB (Mono.refl _) (Row.nil _ _))
    intro V1 w1 HB1 M1 hφ
    simp only [fillAll, Act.put, List.setIfInBounds_toArray, List.set_cons_zero, List.set_cons_succ]
    replace R6 := R6.mono M1
    replace R7 := R7.mono M1
    replace R8 := R8.mono M1
    replace R9 := R9.mono M1
    replace CV := CV.mono M1
    obtain ⟨b17_1, z1, hb1, C1⟩ := hφ 0 _ rfl (by decide)
    have K2 : Row w.heap.size w1 (V1 1) [] := hφ 1 _ rfl (by decide)
    simp only [z1]
    clear hφ
    (try simp only [Exit.inBlock, Exit.then])
    repeat (refine wp_seq ?_)
    refine rgs (B := w.heap.size) (w0 := w) [3, 4, 5] [isV (.agg #[.int .i64 c.fr, .int .i64 c.tt, .int .u32 c.tid, .int .u32 c.key, .int .u64 c.lo, .int .u64 c.hi, .slice A6 c.pub.length c6, .slice A7 c.ct.length c7, .slice A8 c.sl.length c8, .slice A9 c.sig.length c9]), isV (.bool false), isV (.bool true)] rfl (by decide) rfl HB1 ?_ ?_ ?_
    · exact (stb_cons (stb_V _) (stb_cons (stb_V _) (stb_cons (stb_V _) stb_nil)))
    ·refine stepf_cons ?_ (stepf_cons ?_ (stepf_cons ?_ stepf_nil))
     ·refine stp rfl rfl rfl rfl rfl fun a w' hB hM hoff hp K hK => ?_
      have e1 : a.tmps[1]? = some (.pointer (some ⟨b17_1, 0, none⟩)) := (hoff 1 rfl).trans rfl
      obtain ⟨d0, d1, d2, d3, d4, d5, d6, d7, d8, d9⟩ := (C1.mono hM).ten
      have hu := Try.underlying28
      have hu2 := Try.underlying25
      exact op_val (by first | (go_simp; done) | (go_simp; rfl)) (hK _ _ hB (Mono.refl _) rfl)
     ·refine stp rfl rfl rfl rfl rfl fun a w' hB hM hoff hp K hK => ?_
      obtain ⟨_, e3, rfl⟩ := hp 0 rfl 3 _ rfl rfl
      refine op_call Try.func31 (by kernel_rfl) rfl #[.agg #[.int .i64 c.fr, .int .i64 c.tt, .int .u32 c.tid, .int .u32 c.key, .int .u64 c.lo, .int .u64 c.hi, .slice A6 c.pub.length c6, .slice A7 c.ct.length c7, .slice A8 c.sl.length c8, .slice A9 c.sig.length c9]] rfl (by simp [ev e3]) (refSpoken_calls c _ (decide_eq_false h) _ _ (CV.mono hM)) ?_
      rintro e w1 ⟨u, rfl, hR, hb⟩
      exact ⟨u, rfl, hK _ _ (below_then hB hB.size hb) (Mono.of_below hb) hR⟩
     ·refine stp rfl rfl rfl rfl rfl fun a w' hB hM hoff hp K hK => ?_
      obtain ⟨_, e4, rfl⟩ := hp 1 rfl 4 _ rfl rfl
      exact op_val (by first | (go_simp; done) | (go_simp; rfl)) (hK _ _ hB (Mono.refl _) rfl)
    intro V2 w2 HB2 M2 hφ
    simp only [fillAll, Act.put, List.setIfInBounds_toArray, List.set_cons_zero, List.set_cons_succ]
    replace R6 := R6.mono M2
    replace R7 := R7.mono M2
    replace R8 := R8.mono M2
    replace R9 := R9.mono M2
    replace CV := CV.mono M2
    replace C1 := C1.mono M2
    replace K2 := K2.mono M2
    have z3 : V2 0 = .agg #[.int .i64 c.fr, .int .i64 c.tt, .int .u32 c.tid, .int .u32 c.key, .int .u64 c.lo, .int .u64 c.hi, .slice A6 c.pub.length c6, .slice A7 c.ct.length c7, .slice A8 c.sl.length c8, .slice A9 c.sig.length c9] := hφ 0 _ rfl (by decide)
    have z4 : V2 1 = .bool false := hφ 1 _ rfl (by decide)
    have z5 : V2 2 = .bool true := hφ 2 _ rfl (by decide)
    simp only [z3, z4, z5]
    clear hφ
    (try simp only [Exit.inBlock, Exit.then])
    repeat (refine wp_seq ?_)
    (try simp only [Exit.inBlock, Exit.then])
    refine wp_cond_true rfl ?_
    (try simp only [Exit.inBlock, Exit.then])
    repeat (refine wp_seq ?_)
    refine rgs (B := w.heap.size) (w0 := w) [2] [isRow w.heap.size []] rfl (by decide) rfl HB2 ?_ ?_ ?_
    · exact (stb_cons (stb_Row _ _) stb_nil)
    ·refine stepf_cons ?_ stepf_nil
     ·refine stp rfl rfl rfl rfl rfl fun a w' hB hM hoff hp K hK => ?_
      exact op_val (by first | (go_simp; done) | (go_simp; rfl)) (hK _ _ hB (Mono.refl _) (Row.nil _ _))
    intro V3 w3 HB3 M3 hφ
    simp only [fillAll, Act.put, List.setIfInBounds_toArray, List.set_cons_zero, List.set_cons_succ]
    replace R6 := R6.mono M3
    replace R7 := R7.mono M3
    replace R8 := R8.mono M3
    replace R9 := R9.mono M3
    replace CV := CV.mono M3
    replace C1 := C1.mono M3
    replace K2 := K2.mono M3
    have K2 : Row w.heap.size w3 (V3 0) [] := hφ 0 _ rfl (by decide)
    clear hφ
    (try simp only [Exit.inBlock, Exit.then])
    repeat (refine wp_seq ?_)
    (try simp only [Exit.inBlock, Exit.then])
    refine wp_ret ?_
    (try simp only [Exit.inBlock, Exit.then])
    go_ret
    exact ⟨_, rfl, K2, HB3⟩
theorem refSaid2_calls (c : Cp) (ho : c.Ok) (hs : c.pub.length < 65536) (hs2 : c.sl.length < 65536) (hs3 : c.ct.length < 65536) (hs4 : c.sig.length < 65536) (h : c.Spoken) (v : Value) (w : World) (hv : CapV 0 w v c) : Ret 17 #[v] w (isRow w.heap.size c.said) := by
  have := refSaid_calls c ho hs hs2 hs3 hs4 v w hv
  rw [if_pos h] at this
  exact this
set_option maxHeartbeats 1000000 in
set_option maxRecDepth 100000 in
theorem refWords_calls (c : Cp) (ho : c.Ok) (hs : c.pub.length < 65536) (hs2 : c.sl.length < 65536) (hs3 : c.ct.length < 65536) (hs4 : c.sig.length < 65536) (v : Value) (w : World) (hv : CapV 0 w v c) : Ret 18 #[v] w (isRow w.heap.size (if c.Worded then title ++ c.inner else [])) := by
  obtain ⟨_, _, _, _, rfl, ⟨A6, c6, rfl, l6, r6, _⟩, ⟨A7, c7, rfl, l7, r7, _⟩, ⟨A8, c8, rfl, l8, r8, _⟩, ⟨A9, c9, rfl, l9, r9, _⟩⟩ := hv
  have R6 : Row 0 w (.slice A6 c.pub.length c6) c.pub := Row.of_C r6 l6
  have R7 : Row 0 w (.slice A7 c.ct.length c7) c.ct := Row.of_C r7 l7
  have R8 : Row 0 w (.slice A8 c.sl.length c8) c.sl := Row.of_C r8 l8
  have R9 : Row 0 w (.slice A9 c.sig.length c9) c.sig := Row.of_C r9 l9
  have CV : CapV 0 w (.agg #[.int .i64 c.fr, .int .i64 c.tt, .int .u32 c.tid, .int .u32 c.key, .int .u64 c.lo, .int .u64 c.hi, .slice A6 c.pub.length c6, .slice A7 c.ct.length c7, .slice A8 c.sl.length c8, .slice A9 c.sig.length c9]) c := ⟨_, _, _, _, rfl, R6, R7, R8, R9⟩
  by_cases h : c.Worded
  · rw [if_pos h]
    go_enter Try.func18, Try.ntmps18
    have HBw : Below w.heap.size w w := Below.refl _ _
    (try simp only [Exit.inBlock, Exit.then])
    repeat (refine wp_seq ?_)
    refine rgs (B := w.heap.size) (w0 := w) [1, 2] [isBox w.heap.size [.int .i64 c.fr, .int .i64 c.tt, .int .u32 c.tid, .int .u32 c.key, .int .u64 c.lo, .int .u64 c.hi, .slice A6 c.pub.length c6, .slice A7 c.ct.length c7, .slice A8 c.sl.length c8, .slice A9 c.sig.length c9], isRow w.heap.size []] rfl (by decide) rfl HBw ?_ ?_ ?_
    · exact (stb_cons (stb_Box _ _) (stb_cons (stb_Row _ _) stb_nil))
    ·refine stepf_cons ?_ (stepf_cons ?_ stepf_nil)
     ·refine stp rfl rfl rfl rfl rfl fun a w' hB hM hoff hp K hK => ?_
      have e0 : a.tmps[0]? = some (.agg #[.int .i64 c.fr, .int .i64 c.tt, .int .u32 c.tid, .int .u32 c.key, .int .u64 c.lo, .int .u64 c.hi, .slice A6 c.pub.length c6, .slice A7 c.ct.length c7, .slice A8 c.sl.length c8, .slice A9 c.sig.length c9]) := (hoff 0 rfl).trans rfl
      have hu := Try.underlying28
      have hu2 := Try.underlying25
      refine op_val (v := .pointer (some ⟨w'.heap.size, 0, none⟩)) (w' := w'.alloc (.cells #[.int .i64 c.fr, .int .i64 c.tt, .int .u32 c.tid, .int .u32 c.key, .int .u64 c.lo, .int .u64 c.hi, .slice A6 c.pub.length c6, .slice A7 c.ct.length c7, .slice A8 c.sl.length c8, .slice A9 c.sig.length c9] 28)) (by first | (go_simp; done) | (go_simp; rfl)) (hK _ _ (below_then hB hB.size (below_alloc (Below.refl _ _) _)) (Mono.alloc _ _) ?_)
      exact ⟨_, rfl, hB.size, boxAt_alloc _ _ [.int .i64 c.fr, .int .i64 c.tt, .int .u32 c.tid, .int .u32 c.key, .int .u64 c.lo, .int .u64 c.hi, .slice A6 c.pub.length c6, .slice A7 c.ct.length c7, .slice A8 c.sl.length c8, .slice A9 c.sig.length c9]⟩
     ·refine stp rfl rfl rfl rfl rfl fun a w' hB hM hoff hp K hK => ?_
      exact op_val (by first | (go_simp; done) | (go_simp; rfl)) (hK _ _ hB (Mono.refl _) (Row.nil _ _))
    intro V1 w1 HB1 M1 hφ
    simp only [fillAll, Act.put, List.setIfInBounds_toArray, List.set_cons_zero, List.set_cons_succ]
    replace R6 := R6.mono M1
    replace R7 := R7.mono M1
    replace R8 := R8.mono M1
    replace R9 := R9.mono M1
    replace CV := CV.mono M1
    obtain ⟨b18_1, z1, hb1, C1⟩ := hφ 0 _ rfl (by decide)
    have K2 : Row w.heap.size w1 (V1 1) [] := hφ 1 _ rfl (by decide)
    simp only [z1]
    clear hφ
    (try simp only [Exit.inBlock, Exit.then])
    repeat (refine wp_seq ?_)
    refine rgs (B := w.heap.size) (w0 := w) [3, 4, 5] [isV (.agg #[.int .i64 c.fr, .int .i64 c.tt, .int .u32 c.tid, .int .u32 c.key, .int .u64 c.lo, .int .u64 c.hi, .slice A6 c.pub.length c6, .slice A7 c.ct.length c7, .slice A8 c.sl.length c8, .slice A9 c.sig.length c9]), isV (.bool true), isV (.bool false)] rfl (by decide) rfl HB1 ?_ ?_ ?_
    · exact (stb_cons (stb_V _) (stb_cons (stb_V _) (stb_cons (stb_V _) stb_nil)))
    ·refine stepf_cons ?_ (stepf_cons ?_ (stepf_cons ?_ stepf_nil))
     ·refine stp rfl rfl rfl rfl rfl fun a w' hB hM hoff hp K hK => ?_
      have e1 : a.tmps[1]? = some (.pointer (some ⟨b18_1, 0, none⟩)) := (hoff 1 rfl).trans rfl
      obtain ⟨d0, d1, d2, d3, d4, d5, d6, d7, d8, d9⟩ := (C1.mono hM).ten
      have hu := Try.underlying28
      have hu2 := Try.underlying25
      exact op_val (by first | (go_simp; done) | (go_simp; rfl)) (hK _ _ hB (Mono.refl _) rfl)
     ·refine stp rfl rfl rfl rfl rfl fun a w' hB hM hoff hp K hK => ?_
      obtain ⟨_, e3, rfl⟩ := hp 0 rfl 3 _ rfl rfl
      refine op_call Try.func24 (by kernel_rfl) rfl #[.agg #[.int .i64 c.fr, .int .i64 c.tt, .int .u32 c.tid, .int .u32 c.key, .int .u64 c.lo, .int .u64 c.hi, .slice A6 c.pub.length c6, .slice A7 c.ct.length c7, .slice A8 c.sl.length c8, .slice A9 c.sig.length c9]] rfl (by simp [ev e3]) (refWorded_calls c _ (decide_eq_true h) _ _ (CV.mono hM)) ?_
      rintro e w1 ⟨u, rfl, hR, hb⟩
      exact ⟨u, rfl, hK _ _ (below_then hB hB.size hb) (Mono.of_below hb) hR⟩
     ·refine stp rfl rfl rfl rfl rfl fun a w' hB hM hoff hp K hK => ?_
      obtain ⟨_, e4, rfl⟩ := hp 1 rfl 4 _ rfl rfl
      exact op_val (by first | (go_simp; done) | (go_simp; rfl)) (hK _ _ hB (Mono.refl _) rfl)
    intro V2 w2 HB2 M2 hφ
    simp only [fillAll, Act.put, List.setIfInBounds_toArray, List.set_cons_zero, List.set_cons_succ]
    replace R6 := R6.mono M2
    replace R7 := R7.mono M2
    replace R8 := R8.mono M2
    replace R9 := R9.mono M2
    replace CV := CV.mono M2
    replace C1 := C1.mono M2
    replace K2 := K2.mono M2
    have z3 : V2 0 = .agg #[.int .i64 c.fr, .int .i64 c.tt, .int .u32 c.tid, .int .u32 c.key, .int .u64 c.lo, .int .u64 c.hi, .slice A6 c.pub.length c6, .slice A7 c.ct.length c7, .slice A8 c.sl.length c8, .slice A9 c.sig.length c9] := hφ 0 _ rfl (by decide)
    have z4 : V2 1 = .bool true := hφ 1 _ rfl (by decide)
    have z5 : V2 2 = .bool false := hφ 2 _ rfl (by decide)
    simp only [z3, z4, z5]
    clear hφ
    (try simp only [Exit.inBlock, Exit.then])
    repeat (refine wp_seq ?_)
    (try simp only [Exit.inBlock, Exit.then])
    refine wp_cond_false rfl ?_
    refine wp_skip ?_
    (try simp only [Exit.inBlock, Exit.then])
    repeat (refine wp_seq ?_)
    refine rg (B := w.heap.size) (w0 := w) (by kernel_rfl) (by decide +kernel) [6, 7, 8, 9, 10, 11, 12, 13, 14, 15, 16, 2] [isLit w.heap.size [108, 105, 118, 101, 114, 121, 32, 99, 97, 112, 115, 117, 108, 101], isRow w.heap.size [108, 105, 118, 101, 114, 121, 32, 99, 97, 112, 115, 117, 108, 101], isV (.agg #[.int .i64 c.fr, .int .i64 c.tt, .int .u32 c.tid, .int .u32 c.key, .int .u64 c.lo, .int .u64 c.hi, .slice A6 c.pub.length c6, .slice A7 c.ct.length c7, .slice A8 c.sl.length c8, .slice A9 c.sig.length c9]), isRow w.heap.size c.said, isV (.pointer (some ⟨b18_1, 7, none⟩)), isV (.slice A7 c.ct.length c7), isV (.pointer (some ⟨b18_1, 8, none⟩)), isV (.slice A8 c.sl.length c8), isRow w.heap.size (be 2 (c.sl).length ++ c.sl), isRows [[108, 105, 118, 101, 114, 121, 32, 99, 97, 112, 115, 117, 108, 101], c.said, c.ct, be 2 (c.sl).length ++ c.sl], isRow w.heap.size (title ++ c.inner), isRow w.heap.size (title ++ c.inner)] rfl (by decide) rfl HB2 ?_ ?_ ?_
    · exact (stb_cons (stb_Lit _ _) (stb_cons (stb_Row _ _) (stb_cons (stb_V _) (stb_cons (stb_Row _ _) (stb_cons (stb_V _) (stb_cons (stb_V _) (stb_cons (stb_V _) (stb_cons (stb_V _) (stb_cons (stb_Row _ _) (stb_cons (stb_Rows _) (stb_cons (stb_Row _ _) (stb_cons (stb_Row _ _) stb_nil))))))))))))
    ·refine stepf_cons ?_ (stepf_cons ?_ (stepf_cons ?_ (stepf_cons ?_ (stepf_cons ?_ (stepf_cons ?_ (stepf_cons ?_ (stepf_cons ?_ (stepf_cons ?_ (stepf_cons ?_ (stepf_cons ?_ (stepf_cons ?_ stepf_nil)))))))))))
     ·refine stp rfl rfl rfl rfl rfl fun a w' hB hM hoff hp K hK => ?_
      refine op_val (v := .slice (some ⟨w'.heap.size, 0, none⟩) 14 14) (w' := w'.alloc (.cells #[.int .u8 108, .int .u8 105, .int .u8 118, .int .u8 101, .int .u8 114, .int .u8 121, .int .u8 32, .int .u8 99, .int .u8 97, .int .u8 112, .int .u8 115, .int .u8 117, .int .u8 108, .int .u8 101] 5)) (by first | (go_simp; done) | (go_simp; rfl)) (hK _ _ (below_then hB hB.size (below_alloc (Below.refl _ _) _)) (Mono.alloc _ _) ?_)
      exact isLit.lit (l := [108, 105, 118, 101, 114, 121, 32, 99, 97, 112, 115, 117, 108, 101]) hB.size (by simp)
     ·refine stp rfl rfl rfl rfl rfl fun a w' hB hM hoff hp K hK => ?_
      obtain ⟨v6, e6, h6⟩ := hp 0 rfl 6 _ rfl rfl
      obtain ⟨w2, hrun, hm, hR, hbl⟩ := run_lit h6 26 Try.underlying26 Try.underlying5
      exact op_val (v := v6) (w' := w2) (by first | (go_simp; done) | (go_simp; rfl)) (hK _ _ (hbl hB (Nat.le_refl _)) hm hR)
     ·refine stp rfl rfl rfl rfl rfl fun a w' hB hM hoff hp K hK => ?_
      have e1 : a.tmps[1]? = some (.pointer (some ⟨b18_1, 0, none⟩)) := (hoff 1 rfl).trans rfl
      obtain ⟨d0, d1, d2, d3, d4, d5, d6, d7, d8, d9⟩ := (C1.mono hM).ten
      have hu := Try.underlying28
      have hu2 := Try.underlying25
      exact op_val (by first | (go_simp; done) | (go_simp; rfl)) (hK _ _ hB (Mono.refl _) rfl)
     ·refine stp rfl rfl rfl rfl rfl fun a w' hB hM hoff hp K hK => ?_
      obtain ⟨_, e8, rfl⟩ := hp 2 rfl 8 _ rfl rfl
      refine op_call Try.func17 (by kernel_rfl) rfl #[.agg #[.int .i64 c.fr, .int .i64 c.tt, .int .u32 c.tid, .int .u32 c.key, .int .u64 c.lo, .int .u64 c.hi, .slice A6 c.pub.length c6, .slice A7 c.ct.length c7, .slice A8 c.sl.length c8, .slice A9 c.sig.length c9]] rfl (by simp [ev e8]) (refSaid2_calls c ho hs hs2 hs3 hs4 h.1 _ _ (CV.mono hM)) ?_
      rintro e w1 ⟨u, rfl, hR, hb⟩
      exact ⟨u, rfl, hK _ _ (below_then hB hB.size hb) (Mono.of_below hb) (hR.lower hB.size)⟩
     ·refine stp rfl rfl rfl rfl rfl fun a w' hB hM hoff hp K hK => ?_
      have e1 : a.tmps[1]? = some (.pointer (some ⟨b18_1, 0, none⟩)) := (hoff 1 rfl).trans rfl
      have hu := Try.underlying28
      exact op_val (by first | (go_simp; done) | (go_simp; rfl)) (hK _ _ hB (Mono.refl _) rfl)
     ·refine stp rfl rfl rfl rfl rfl fun a w' hB hM hoff hp K hK => ?_
      obtain ⟨_, e10, rfl⟩ := hp 4 rfl 10 _ rfl rfl
      have d7 := (C1.mono hM) 7 _ rfl
      exact op_val (by first | (go_simp; done) | (go_simp; rfl)) (hK _ _ hB (Mono.refl _) rfl)
     ·refine stp rfl rfl rfl rfl rfl fun a w' hB hM hoff hp K hK => ?_
      have e1 : a.tmps[1]? = some (.pointer (some ⟨b18_1, 0, none⟩)) := (hoff 1 rfl).trans rfl
      have hu := Try.underlying28
      exact op_val (by first | (go_simp; done) | (go_simp; rfl)) (hK _ _ hB (Mono.refl _) rfl)
     ·refine stp rfl rfl rfl rfl rfl fun a w' hB hM hoff hp K hK => ?_
      obtain ⟨_, e12, rfl⟩ := hp 6 rfl 12 _ rfl rfl
      have d8 := (C1.mono hM) 8 _ rfl
      exact op_val (by first | (go_simp; done) | (go_simp; rfl)) (hK _ _ hB (Mono.refl _) rfl)
     ·refine stp rfl rfl rfl rfl rfl fun a w' hB hM hoff hp K hK => ?_
      obtain ⟨_, e13, rfl⟩ := hp 7 rfl 13 _ rfl rfl
      refine op_call Try.func33 (by kernel_rfl) rfl #[.slice A8 c.sl.length c8] rfl (by simp [ev e13]) (text_calls _ (by omega) _ _ (R8.mono hM)) ?_
      rintro e w1 ⟨u, rfl, hR, hb⟩
      exact ⟨u, rfl, hK _ _ (below_then hB hB.size hb) (Mono.of_below hb) (hR.lower hB.size)⟩
     ·refine stp rfl rfl rfl rfl rfl fun a w' hB hM hoff hp K hK => ?_
      obtain ⟨v7, e7, h7⟩ := hp 1 rfl 7 _ rfl rfl
      obtain ⟨v9, e9, h9⟩ := hp 3 rfl 9 _ rfl rfl
      obtain ⟨_, e11, rfl⟩ := hp 5 rfl 11 _ rfl rfl
      obtain ⟨v14, e14, h14⟩ := hp 8 rfl 14 _ rfl rfl
      have k7 := h7.lower (Nat.zero_le _)
      obtain ⟨X7, y7, rfl, _, _, _⟩ := h7
      have k9 := h9.lower (Nat.zero_le _)
      obtain ⟨X9, y9, rfl, _, _, _⟩ := h9
      have k14 := h14.lower (Nat.zero_le _)
      obtain ⟨X14, y14, rfl, _, _, _⟩ := h14
      refine op_val (v := .slice (some ⟨w'.heap.size, 0, none⟩) 4 4) (w' := w'.alloc (.cells #[.slice X7 ([108, 105, 118, 101, 114, 121, 32, 99, 97, 112, 115, 117, 108, 101]).length y7, .slice X9 (c.said).length y9, .slice A7 c.ct.length c7, .slice X14 (be 2 (c.sl).length ++ c.sl).length y14] 26)) (by first | (go_simp; done) | (go_simp; rfl)) (hK _ _ (below_then hB hB.size (below_alloc (Below.refl _ _) _)) (Mono.alloc _ _) ?_)
      exact RowsB.lit (l := [[108, 105, 118, 101, 114, 121, 32, 99, 97, 112, 115, 117, 108, 101], c.said, c.ct, be 2 (c.sl).length ++ c.sl]) (vs := #[.slice X7 ([108, 105, 118, 101, 114, 121, 32, 99, 97, 112, 115, 117, 108, 101]).length y7, .slice X9 (c.said).length y9, .slice A7 c.ct.length c7, .slice X14 (be 2 (c.sl).length ++ c.sl).length y14]) (RowL.cons k7 (RowL.cons k9 (RowL.cons ((R7.mono hM).lower (Nat.zero_le _)) (RowL.cons k14 (RowL.nil _))))) (by simp)
     ·refine stp rfl rfl rfl rfl rfl fun a w' hB hM hoff hp K hK => ?_
      obtain ⟨v15, e15, h15⟩ := hp 9 rfl 15 _ rfl rfl
      refine op_call Try.func20 (by kernel_rfl) rfl #[v15] rfl (by simp [ev e15]) ((refJoin_calls _ (by simp) (by simp [be_length, said_length]; omega) _ _ h15).mono (fun e w' h => by simpa [title, Cp.inner, List.append_assoc] using h)) ?_
      rintro e w1 ⟨u, rfl, hR, hb⟩
      exact ⟨u, rfl, hK _ _ (below_then hB hB.size hb) (Mono.of_below hb) (hR.lower hB.size)⟩
     ·refine stp rfl rfl rfl rfl rfl fun a w' hB hM hoff hp K hK => ?_
      obtain ⟨v16, e16, h16⟩ := hp 10 rfl 16 _ rfl rfl
      exact op_val (by first | (go_simp; done) | (go_simp; rfl)) (hK _ _ hB (Mono.refl _) h16)
    intro V3 w3 HB3 M3 hφ
    simp only [fillAll, Act.put, List.setIfInBounds_toArray, List.set_cons_zero, List.set_cons_succ]
    replace R6 := R6.mono M3
    replace R7 := R7.mono M3
    replace R8 := R8.mono M3
    replace R9 := R9.mono M3
    replace CV := CV.mono M3
    replace C1 := C1.mono M3
    replace K2 := K2.mono M3
    have K7 : Row w.heap.size w3 (V3 1) [108, 105, 118, 101, 114, 121, 32, 99, 97, 112, 115, 117, 108, 101] := hφ 1 _ rfl (by decide)
    have z8 : V3 2 = .agg #[.int .i64 c.fr, .int .i64 c.tt, .int .u32 c.tid, .int .u32 c.key, .int .u64 c.lo, .int .u64 c.hi, .slice A6 c.pub.length c6, .slice A7 c.ct.length c7, .slice A8 c.sl.length c8, .slice A9 c.sig.length c9] := hφ 2 _ rfl (by decide)
    have K9 : Row w.heap.size w3 (V3 3) c.said := hφ 3 _ rfl (by decide)
    have z10 : V3 4 = .pointer (some ⟨b18_1, 7, none⟩) := hφ 4 _ rfl (by decide)
    have z11 : V3 5 = .slice A7 c.ct.length c7 := hφ 5 _ rfl (by decide)
    have z12 : V3 6 = .pointer (some ⟨b18_1, 8, none⟩) := hφ 6 _ rfl (by decide)
    have z13 : V3 7 = .slice A8 c.sl.length c8 := hφ 7 _ rfl (by decide)
    have K14 : Row w.heap.size w3 (V3 8) (be 2 (c.sl).length ++ c.sl) := hφ 8 _ rfl (by decide)
    have K15 : RowsB w3 (V3 9) [[108, 105, 118, 101, 114, 121, 32, 99, 97, 112, 115, 117, 108, 101], c.said, c.ct, be 2 (c.sl).length ++ c.sl] := hφ 9 _ rfl (by decide)
    have K16 : Row w.heap.size w3 (V3 10) (title ++ c.inner) := hφ 10 _ rfl (by decide)
    have K2 : Row w.heap.size w3 (V3 11) (title ++ c.inner) := hφ 11 _ rfl (by decide)
    simp only [z8, z10, z11, z12, z13]
    clear hφ
    (try simp only [Exit.inBlock, Exit.then])
    repeat (refine wp_seq ?_)
    (try simp only [Exit.inBlock, Exit.then])
    refine wp_ret ?_
    (try simp only [Exit.inBlock, Exit.then])
    go_ret
    exact ⟨_, rfl, K2, HB3⟩
  · rw [if_neg h]
    go_enter Try.func18, Try.ntmps18
    have HBw : Below w.heap.size w w := Below.refl _ _
    (try simp only [Exit.inBlock, Exit.then])
    repeat (refine wp_seq ?_)
    refine rgs (B := w.heap.size) (w0 := w) [1, 2] [isBox w.heap.size [.int .i64 c.fr, .int .i64 c.tt, .int .u32 c.tid, .int .u32 c.key, .int .u64 c.lo, .int .u64 c.hi, .slice A6 c.pub.length c6, .slice A7 c.ct.length c7, .slice A8 c.sl.length c8, .slice A9 c.sig.length c9], isRow w.heap.size []] rfl (by decide) rfl HBw ?_ ?_ ?_
    · exact (stb_cons (stb_Box _ _) (stb_cons (stb_Row _ _) stb_nil))
    ·refine stepf_cons ?_ (stepf_cons ?_ stepf_nil)
     ·refine stp rfl rfl rfl rfl rfl fun a w' hB hM hoff hp K hK => ?_
      have e0 : a.tmps[0]? = some (.agg #[.int .i64 c.fr, .int .i64 c.tt, .int .u32 c.tid, .int .u32 c.key, .int .u64 c.lo, .int .u64 c.hi, .slice A6 c.pub.length c6, .slice A7 c.ct.length c7, .slice A8 c.sl.length c8, .slice A9 c.sig.length c9]) := (hoff 0 rfl).trans rfl
      have hu := Try.underlying28
      have hu2 := Try.underlying25
      refine op_val (v := .pointer (some ⟨w'.heap.size, 0, none⟩)) (w' := w'.alloc (.cells #[.int .i64 c.fr, .int .i64 c.tt, .int .u32 c.tid, .int .u32 c.key, .int .u64 c.lo, .int .u64 c.hi, .slice A6 c.pub.length c6, .slice A7 c.ct.length c7, .slice A8 c.sl.length c8, .slice A9 c.sig.length c9] 28)) (by first | (go_simp; done) | (go_simp; rfl)) (hK _ _ (below_then hB hB.size (below_alloc (Below.refl _ _) _)) (Mono.alloc _ _) ?_)
      exact ⟨_, rfl, hB.size, boxAt_alloc _ _ [.int .i64 c.fr, .int .i64 c.tt, .int .u32 c.tid, .int .u32 c.key, .int .u64 c.lo, .int .u64 c.hi, .slice A6 c.pub.length c6, .slice A7 c.ct.length c7, .slice A8 c.sl.length c8, .slice A9 c.sig.length c9]⟩
     ·refine stp rfl rfl rfl rfl rfl fun a w' hB hM hoff hp K hK => ?_
      exact op_val (by first | (go_simp; done) | (go_simp; rfl)) (hK _ _ hB (Mono.refl _) (Row.nil _ _))
    intro V1 w1 HB1 M1 hφ
    simp only [fillAll, Act.put, List.setIfInBounds_toArray, List.set_cons_zero, List.set_cons_succ]
    replace R6 := R6.mono M1
    replace R7 := R7.mono M1
    replace R8 := R8.mono M1
    replace R9 := R9.mono M1
    replace CV := CV.mono M1
    obtain ⟨b18_1, z1, hb1, C1⟩ := hφ 0 _ rfl (by decide)
    have K2 : Row w.heap.size w1 (V1 1) [] := hφ 1 _ rfl (by decide)
    simp only [z1]
    clear hφ
    (try simp only [Exit.inBlock, Exit.then])
    repeat (refine wp_seq ?_)
    refine rgs (B := w.heap.size) (w0 := w) [3, 4, 5] [isV (.agg #[.int .i64 c.fr, .int .i64 c.tt, .int .u32 c.tid, .int .u32 c.key, .int .u64 c.lo, .int .u64 c.hi, .slice A6 c.pub.length c6, .slice A7 c.ct.length c7, .slice A8 c.sl.length c8, .slice A9 c.sig.length c9]), isV (.bool false), isV (.bool true)] rfl (by decide) rfl HB1 ?_ ?_ ?_
    · exact (stb_cons (stb_V _) (stb_cons (stb_V _) (stb_cons (stb_V _) stb_nil)))
    ·refine stepf_cons ?_ (stepf_cons ?_ (stepf_cons ?_ stepf_nil))
     ·refine stp rfl rfl rfl rfl rfl fun a w' hB hM hoff hp K hK => ?_
      have e1 : a.tmps[1]? = some (.pointer (some ⟨b18_1, 0, none⟩)) := (hoff 1 rfl).trans rfl
      obtain ⟨d0, d1, d2, d3, d4, d5, d6, d7, d8, d9⟩ := (C1.mono hM).ten
      have hu := Try.underlying28
      have hu2 := Try.underlying25
      exact op_val (by first | (go_simp; done) | (go_simp; rfl)) (hK _ _ hB (Mono.refl _) rfl)
     ·refine stp rfl rfl rfl rfl rfl fun a w' hB hM hoff hp K hK => ?_
      obtain ⟨_, e3, rfl⟩ := hp 0 rfl 3 _ rfl rfl
      refine op_call Try.func24 (by kernel_rfl) rfl #[.agg #[.int .i64 c.fr, .int .i64 c.tt, .int .u32 c.tid, .int .u32 c.key, .int .u64 c.lo, .int .u64 c.hi, .slice A6 c.pub.length c6, .slice A7 c.ct.length c7, .slice A8 c.sl.length c8, .slice A9 c.sig.length c9]] rfl (by simp [ev e3]) (refWorded_calls c _ (decide_eq_false h) _ _ (CV.mono hM)) ?_
      rintro e w1 ⟨u, rfl, hR, hb⟩
      exact ⟨u, rfl, hK _ _ (below_then hB hB.size hb) (Mono.of_below hb) hR⟩
     ·refine stp rfl rfl rfl rfl rfl fun a w' hB hM hoff hp K hK => ?_
      obtain ⟨_, e4, rfl⟩ := hp 1 rfl 4 _ rfl rfl
      exact op_val (by first | (go_simp; done) | (go_simp; rfl)) (hK _ _ hB (Mono.refl _) rfl)
    intro V2 w2 HB2 M2 hφ
    simp only [fillAll, Act.put, List.setIfInBounds_toArray, List.set_cons_zero, List.set_cons_succ]
    replace R6 := R6.mono M2
    replace R7 := R7.mono M2
    replace R8 := R8.mono M2
    replace R9 := R9.mono M2
    replace CV := CV.mono M2
    replace C1 := C1.mono M2
    replace K2 := K2.mono M2
    have z3 : V2 0 = .agg #[.int .i64 c.fr, .int .i64 c.tt, .int .u32 c.tid, .int .u32 c.key, .int .u64 c.lo, .int .u64 c.hi, .slice A6 c.pub.length c6, .slice A7 c.ct.length c7, .slice A8 c.sl.length c8, .slice A9 c.sig.length c9] := hφ 0 _ rfl (by decide)
    have z4 : V2 1 = .bool false := hφ 1 _ rfl (by decide)
    have z5 : V2 2 = .bool true := hφ 2 _ rfl (by decide)
    simp only [z3, z4, z5]
    clear hφ
    (try simp only [Exit.inBlock, Exit.then])
    repeat (refine wp_seq ?_)
    (try simp only [Exit.inBlock, Exit.then])
    refine wp_cond_true rfl ?_
    (try simp only [Exit.inBlock, Exit.then])
    repeat (refine wp_seq ?_)
    refine rgs (B := w.heap.size) (w0 := w) [2] [isRow w.heap.size []] rfl (by decide) rfl HB2 ?_ ?_ ?_
    · exact (stb_cons (stb_Row _ _) stb_nil)
    ·refine stepf_cons ?_ stepf_nil
     ·refine stp rfl rfl rfl rfl rfl fun a w' hB hM hoff hp K hK => ?_
      exact op_val (by first | (go_simp; done) | (go_simp; rfl)) (hK _ _ hB (Mono.refl _) (Row.nil _ _))
    intro V3 w3 HB3 M3 hφ
    simp only [fillAll, Act.put, List.setIfInBounds_toArray, List.set_cons_zero, List.set_cons_succ]
    replace R6 := R6.mono M3
    replace R7 := R7.mono M3
    replace R8 := R8.mono M3
    replace R9 := R9.mono M3
    replace CV := CV.mono M3
    replace C1 := C1.mono M3
    replace K2 := K2.mono M3
    have K2 : Row w.heap.size w3 (V3 0) [] := hφ 0 _ rfl (by decide)
    clear hφ
    (try simp only [Exit.inBlock, Exit.then])
    repeat (refine wp_seq ?_)
    (try simp only [Exit.inBlock, Exit.then])
    refine wp_ret ?_
    (try simp only [Exit.inBlock, Exit.then])
    go_ret
    exact ⟨_, rfl, K2, HB3⟩
end Go.Proofs.Ytgacaemgmgoiaaa.QLeaf
