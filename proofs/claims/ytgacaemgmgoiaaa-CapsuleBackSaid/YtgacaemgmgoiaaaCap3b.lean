import Derived.Test.YtgacaemgmgoiaaaCap2b

/- Contracts of Check, Put and Same, of the document's Put and Same, of the law's big and live. -/
namespace Go.Proofs.Ytgacaemgmgoiaaa.QLeaf
open Go.RowKit Go.Proofs.YtgacaemgmgoiaaaW.PrintWords Go.Proofs.YtgacaemgmgoiaaaW.PrintLast Go.Proofs.YtgacaemgmgoiaaaW.PrintMore Go.Proofs.YtgacaemgmgoiaaaW.Cm Go.Proofs.YtgacaemgmgoiaaaW.Rg
set_option linter.unusedVariables false
set_option linter.unusedSimpArgs false
def Cp.err (c : Cp) : Int := if c.May then 0 else 230
def Cp.putl (c : Cp) : List Int := if c.May then c.inner ++ c.sig else []
theorem may_err {c : Cp} (h : c.May) : c.err = 0 := if_pos h
theorem nmay_err {c : Cp} (h : ¬ c.May) : c.err = 230 := if_neg h

set_option maxHeartbeats 1000000 in
set_option maxRecDepth 100000 in
theorem check_calls (c : Cp) (ho : c.Ok) (hs : c.pub.length < 65536) (hs2 : c.sl.length < 65536) (hs3 : c.ct.length < 65536) (hs4 : c.sig.length < 65536) (v : Value) (w : World) (hv : CapV 0 w v c) : Ret 15 #[v] w (isV (.int .i64 c.err)) := by
  obtain ⟨_, _, _, _, rfl, ⟨A6, c6, rfl, l6, r6, _⟩, ⟨A7, c7, rfl, l7, r7, _⟩, ⟨A8, c8, rfl, l8, r8, _⟩, ⟨A9, c9, rfl, l9, r9, _⟩⟩ := hv
  have R6 : Row 0 w (.slice A6 c.pub.length c6) c.pub := Row.of_C r6 l6
  have R7 : Row 0 w (.slice A7 c.ct.length c7) c.ct := Row.of_C r7 l7
  have R8 : Row 0 w (.slice A8 c.sl.length c8) c.sl := Row.of_C r8 l8
  have R9 : Row 0 w (.slice A9 c.sig.length c9) c.sig := Row.of_C r9 l9
  have CV : CapV 0 w (.agg #[.int .i64 c.fr, .int .i64 c.tt, .int .u32 c.tid, .int .u32 c.key, .int .u64 c.lo, .int .u64 c.hi, .slice A6 c.pub.length c6, .slice A7 c.ct.length c7, .slice A8 c.sl.length c8, .slice A9 c.sig.length c9]) c := ⟨_, _, _, _, rfl, R6, R7, R8, R9⟩
  by_cases hw : c.Worded
  case neg =>
    rw [nmay_err (fun h => hw h.1)]
    go_enter Try.func15, Try.ntmps15
    have HBw : Below w.heap.size w w := Below.refl _ _
    (try simp only [Exit.inBlock, Exit.then])
    repeat (refine wp_seq ?_)
    refine rgs (B := w.heap.size) (w0 := w) [1, 2] [isBox w.heap.size [.int .i64 c.fr, .int .i64 c.tt, .int .u32 c.tid, .int .u32 c.key, .int .u64 c.lo, .int .u64 c.hi, .slice A6 c.pub.length c6, .slice A7 c.ct.length c7, .slice A8 c.sl.length c8, .slice A9 c.sig.length c9], isV (.int .i64 0)] rfl (by decide) rfl HBw ?_ ?_ ?_
    · exact (stb_cons (stb_Box _ _) (stb_cons (stb_V _) stb_nil))
    ·refine stepf_cons ?_ (stepf_cons ?_ stepf_nil)
     ·refine stp rfl rfl rfl rfl rfl fun a w' hB hM hoff hp K hK => ?_
      have e0 : a.tmps[0]? = some (.agg #[.int .i64 c.fr, .int .i64 c.tt, .int .u32 c.tid, .int .u32 c.key, .int .u64 c.lo, .int .u64 c.hi, .slice A6 c.pub.length c6, .slice A7 c.ct.length c7, .slice A8 c.sl.length c8, .slice A9 c.sig.length c9]) := (hoff 0 rfl).trans rfl
      have hu := Try.underlying28
      have hu2 := Try.underlying25
      refine op_val (v := .pointer (some ⟨w'.heap.size, 0, none⟩)) (w' := w'.alloc (.cells #[.int .i64 c.fr, .int .i64 c.tt, .int .u32 c.tid, .int .u32 c.key, .int .u64 c.lo, .int .u64 c.hi, .slice A6 c.pub.length c6, .slice A7 c.ct.length c7, .slice A8 c.sl.length c8, .slice A9 c.sig.length c9] 28)) (by first | (go_simp; done) | (go_simp; rfl)) (hK _ _ (below_then hB hB.size (below_alloc (Below.refl _ _) _)) (Mono.alloc _ _) ?_)
      exact ⟨_, rfl, hB.size, boxAt_alloc _ _ [.int .i64 c.fr, .int .i64 c.tt, .int .u32 c.tid, .int .u32 c.key, .int .u64 c.lo, .int .u64 c.hi, .slice A6 c.pub.length c6, .slice A7 c.ct.length c7, .slice A8 c.sl.length c8, .slice A9 c.sig.length c9]⟩
     ·refine stp rfl rfl rfl rfl rfl fun a w' hB hM hoff hp K hK => ?_
      exact op_val (by first | (go_simp; done) | (go_simp; rfl)) (hK _ _ hB (Mono.refl _) rfl)
    intro V1 w1 HB1 M1 hφ
    simp only [fillAll, Act.put, List.setIfInBounds_toArray, List.set_cons_zero, List.set_cons_succ]
    replace R6 := R6.mono M1
    replace R7 := R7.mono M1
    replace R8 := R8.mono M1
    replace R9 := R9.mono M1
    replace CV := CV.mono M1
    obtain ⟨b15_1, z1, hb1, C1⟩ := hφ 0 _ rfl (by decide)
    have z2 : V1 1 = .int .i64 0 := hφ 1 _ rfl (by decide)
    simp only [z1, z2]
    clear hφ
    (try simp only [Exit.inBlock, Exit.then])
    repeat (refine wp_seq ?_)
    refine rgs (B := w.heap.size) (w0 := w) [3, 4, 5, 6, 7, 8, 9, 10, 11] [isV (.agg #[.int .i64 c.fr, .int .i64 c.tt, .int .u32 c.tid, .int .u32 c.key, .int .u64 c.lo, .int .u64 c.hi, .slice A6 c.pub.length c6, .slice A7 c.ct.length c7, .slice A8 c.sl.length c8, .slice A9 c.sig.length c9]), isV (.bool false), isV (.bool true), isV (.bool true), isV (undef), isV (undef), isV (undef), isV (undef), isV (.bool true)] rfl (by decide) rfl HB1 ?_ ?_ ?_
    · exact (stb_cons (stb_V _) (stb_cons (stb_V _) (stb_cons (stb_V _) (stb_cons (stb_V _) (stb_cons (stb_V _) (stb_cons (stb_V _) (stb_cons (stb_V _) (stb_cons (stb_V _) (stb_cons (stb_V _) stb_nil)))))))))
    ·refine stepf_cons ?_ (stepf_cons ?_ (stepf_cons ?_ (stepf_cons ?_ (stepf_cons ?_ (stepf_cons ?_ (stepf_cons ?_ (stepf_cons ?_ (stepf_cons ?_ stepf_nil))))))))
     ·refine stp rfl rfl rfl rfl rfl fun a w' hB hM hoff hp K hK => ?_
      have e1 : a.tmps[1]? = some (.pointer (some ⟨b15_1, 0, none⟩)) := (hoff 1 rfl).trans rfl
      obtain ⟨d0, d1, d2, d3, d4, d5, d6, d7, d8, d9⟩ := (C1.mono hM).ten
      have hu := Try.underlying28
      have hu2 := Try.underlying25
      exact op_val (by first | (go_simp; done) | (go_simp; rfl)) (hK _ _ hB (Mono.refl _) rfl)
     ·refine stp rfl rfl rfl rfl rfl fun a w' hB hM hoff hp K hK => ?_
      obtain ⟨_, e3, rfl⟩ := hp 0 rfl 3 _ rfl rfl
      refine op_call Try.func25 (by kernel_rfl) rfl #[.agg #[.int .i64 c.fr, .int .i64 c.tt, .int .u32 c.tid, .int .u32 c.key, .int .u64 c.lo, .int .u64 c.hi, .slice A6 c.pub.length c6, .slice A7 c.ct.length c7, .slice A8 c.sl.length c8, .slice A9 c.sig.length c9]] rfl (by simp [ev e3]) (worded_calls c hs2 _ (decide_eq_false hw) _ _ (CV.mono hM)) ?_
      rintro e w1 ⟨u, rfl, hR, hb⟩
      exact ⟨u, rfl, hK _ _ (below_then hB hB.size hb) (Mono.of_below hb) hR⟩
     ·refine stp rfl rfl rfl rfl rfl fun a w' hB hM hoff hp K hK => ?_
      obtain ⟨_, e4, rfl⟩ := hp 1 rfl 4 _ rfl rfl
      exact op_val (by first | (go_simp; done) | (go_simp; rfl)) (hK _ _ hB (Mono.refl _) rfl)
     ·refine stp rfl rfl rfl rfl rfl fun a w' hB hM hoff hp K hK => ?_
      obtain ⟨_, e5, rfl⟩ := hp 2 rfl 5 _ rfl rfl
      exact op_val (by first | (go_simp; done) | (go_simp; rfl)) (hK _ _ hB (Mono.refl _) rfl)
     ·exact stpn 3 rfl rfl rfl rfl rfl rfl rfl rfl rfl (by simp)
     ·exact stpn 3 rfl rfl rfl rfl rfl rfl rfl rfl rfl (by simp)
     ·exact stpn 3 rfl rfl rfl rfl rfl rfl rfl rfl rfl (by simp)
     ·exact stpn 3 rfl rfl rfl rfl rfl rfl rfl rfl rfl (by simp)
     ·refine stp rfl rfl rfl rfl rfl fun a w' hB hM hoff hp K hK => ?_
      obtain ⟨_, e6, rfl⟩ := hp 3 rfl 6 _ rfl rfl
      exact op_val (by first | (go_simp; done) | (go_simp; rfl)) (hK _ _ hB (Mono.refl _) rfl)
    intro V2 w2 HB2 M2 hφ
    simp only [fillAll, Act.put, List.setIfInBounds_toArray, List.set_cons_zero, List.set_cons_succ]
    replace R6 := R6.mono M2
    replace R7 := R7.mono M2
    replace R8 := R8.mono M2
    replace R9 := R9.mono M2
    replace CV := CV.mono M2
    replace C1 := C1.mono M2
    have z3 : V2 0 = .agg #[.int .i64 c.fr, .int .i64 c.tt, .int .u32 c.tid, .int .u32 c.key, .int .u64 c.lo, .int .u64 c.hi, .slice A6 c.pub.length c6, .slice A7 c.ct.length c7, .slice A8 c.sl.length c8, .slice A9 c.sig.length c9] := hφ 0 _ rfl (by decide)
    have z4 : V2 1 = .bool false := hφ 1 _ rfl (by decide)
    have z5 : V2 2 = .bool true := hφ 2 _ rfl (by decide)
    have z6 : V2 3 = .bool true := hφ 3 _ rfl (by decide)
    have z7 : V2 4 = undef := hφ 4 _ rfl (by decide)
    have z8 : V2 5 = undef := hφ 5 _ rfl (by decide)
    have z9 : V2 6 = undef := hφ 6 _ rfl (by decide)
    have z10 : V2 7 = undef := hφ 7 _ rfl (by decide)
    have z11 : V2 8 = .bool true := hφ 8 _ rfl (by decide)
    simp only [z3, z4, z5, z6, z7, z8, z9, z10, z11]
    clear hφ
    (try simp only [Exit.inBlock, Exit.then])
    repeat (refine wp_seq ?_)
    (try simp only [Exit.inBlock, Exit.then])
    refine wp_cond_true rfl ?_
    (try simp only [Exit.inBlock, Exit.then])
    repeat (refine wp_seq ?_)
    refine rgs (B := w.heap.size) (w0 := w) [2] [isV (.int .i64 230)] rfl (by decide) rfl HB2 ?_ ?_ ?_
    · exact (stb_cons (stb_V _) stb_nil)
    ·refine stepf_cons ?_ stepf_nil
     ·refine stp rfl rfl rfl rfl rfl fun a w' hB hM hoff hp K hK => ?_
      exact op_val (by first | (go_simp; done) | (go_simp; rfl)) (hK _ _ hB (Mono.refl _) rfl)
    intro V3 w3 HB3 M3 hφ
    simp only [fillAll, Act.put, List.setIfInBounds_toArray, List.set_cons_zero, List.set_cons_succ]
    replace R6 := R6.mono M3
    replace R7 := R7.mono M3
    replace R8 := R8.mono M3
    replace R9 := R9.mono M3
    replace CV := CV.mono M3
    replace C1 := C1.mono M3
    have z2 : V3 0 = .int .i64 230 := hφ 0 _ rfl (by decide)
    simp only [z2]
    clear hφ
    (try simp only [Exit.inBlock, Exit.then])
    repeat (refine wp_seq ?_)
    (try simp only [Exit.inBlock, Exit.then])
    refine wp_ret ?_
    (try simp only [Exit.inBlock, Exit.then])
    go_ret
    exact ⟨_, rfl, rfl, HB3⟩
  by_cases hg : c.sig.length = 3309
  case neg =>
    rw [nmay_err (fun h => hg h.2)]
    go_enter Try.func15, Try.ntmps15
    have HBw : Below w.heap.size w w := Below.refl _ _
    (try simp only [Exit.inBlock, Exit.then])
    repeat (refine wp_seq ?_)
    refine rgs (B := w.heap.size) (w0 := w) [1, 2] [isBox w.heap.size [.int .i64 c.fr, .int .i64 c.tt, .int .u32 c.tid, .int .u32 c.key, .int .u64 c.lo, .int .u64 c.hi, .slice A6 c.pub.length c6, .slice A7 c.ct.length c7, .slice A8 c.sl.length c8, .slice A9 c.sig.length c9], isV (.int .i64 0)] rfl (by decide) rfl HBw ?_ ?_ ?_
    · exact (stb_cons (stb_Box _ _) (stb_cons (stb_V _) stb_nil))
    ·refine stepf_cons ?_ (stepf_cons ?_ stepf_nil)
     ·refine stp rfl rfl rfl rfl rfl fun a w' hB hM hoff hp K hK => ?_
      have e0 : a.tmps[0]? = some (.agg #[.int .i64 c.fr, .int .i64 c.tt, .int .u32 c.tid, .int .u32 c.key, .int .u64 c.lo, .int .u64 c.hi, .slice A6 c.pub.length c6, .slice A7 c.ct.length c7, .slice A8 c.sl.length c8, .slice A9 c.sig.length c9]) := (hoff 0 rfl).trans rfl
      have hu := Try.underlying28
      have hu2 := Try.underlying25
      refine op_val (v := .pointer (some ⟨w'.heap.size, 0, none⟩)) (w' := w'.alloc (.cells #[.int .i64 c.fr, .int .i64 c.tt, .int .u32 c.tid, .int .u32 c.key, .int .u64 c.lo, .int .u64 c.hi, .slice A6 c.pub.length c6, .slice A7 c.ct.length c7, .slice A8 c.sl.length c8, .slice A9 c.sig.length c9] 28)) (by first | (go_simp; done) | (go_simp; rfl)) (hK _ _ (below_then hB hB.size (below_alloc (Below.refl _ _) _)) (Mono.alloc _ _) ?_)
      exact ⟨_, rfl, hB.size, boxAt_alloc _ _ [.int .i64 c.fr, .int .i64 c.tt, .int .u32 c.tid, .int .u32 c.key, .int .u64 c.lo, .int .u64 c.hi, .slice A6 c.pub.length c6, .slice A7 c.ct.length c7, .slice A8 c.sl.length c8, .slice A9 c.sig.length c9]⟩
     ·refine stp rfl rfl rfl rfl rfl fun a w' hB hM hoff hp K hK => ?_
      exact op_val (by first | (go_simp; done) | (go_simp; rfl)) (hK _ _ hB (Mono.refl _) rfl)
    intro V1 w1 HB1 M1 hφ
    simp only [fillAll, Act.put, List.setIfInBounds_toArray, List.set_cons_zero, List.set_cons_succ]
    replace R6 := R6.mono M1
    replace R7 := R7.mono M1
    replace R8 := R8.mono M1
    replace R9 := R9.mono M1
    replace CV := CV.mono M1
    obtain ⟨b15_1, z1, hb1, C1⟩ := hφ 0 _ rfl (by decide)
    have z2 : V1 1 = .int .i64 0 := hφ 1 _ rfl (by decide)
    simp only [z1, z2]
    clear hφ
    (try simp only [Exit.inBlock, Exit.then])
    repeat (refine wp_seq ?_)
    refine rgs (B := w.heap.size) (w0 := w) [3, 4, 5, 6, 7, 8, 9, 10, 11] [isV (.agg #[.int .i64 c.fr, .int .i64 c.tt, .int .u32 c.tid, .int .u32 c.key, .int .u64 c.lo, .int .u64 c.hi, .slice A6 c.pub.length c6, .slice A7 c.ct.length c7, .slice A8 c.sl.length c8, .slice A9 c.sig.length c9]), isV (.bool true), isV (.bool false), isV (.bool false), isV (.pointer (some ⟨b15_1, 9, none⟩)), isV (.slice A9 c.sig.length c9), isV (.int .i64 c.sig.length), isV (.bool true), isV (.bool true)] rfl (by decide) rfl HB1 ?_ ?_ ?_
    · exact (stb_cons (stb_V _) (stb_cons (stb_V _) (stb_cons (stb_V _) (stb_cons (stb_V _) (stb_cons (stb_V _) (stb_cons (stb_V _) (stb_cons (stb_V _) (stb_cons (stb_V _) (stb_cons (stb_V _) stb_nil)))))))))
    ·refine stepf_cons ?_ (stepf_cons ?_ (stepf_cons ?_ (stepf_cons ?_ (stepf_cons ?_ (stepf_cons ?_ (stepf_cons ?_ (stepf_cons ?_ (stepf_cons ?_ stepf_nil))))))))
     ·refine stp rfl rfl rfl rfl rfl fun a w' hB hM hoff hp K hK => ?_
      have e1 : a.tmps[1]? = some (.pointer (some ⟨b15_1, 0, none⟩)) := (hoff 1 rfl).trans rfl
      obtain ⟨d0, d1, d2, d3, d4, d5, d6, d7, d8, d9⟩ := (C1.mono hM).ten
      have hu := Try.underlying28
      have hu2 := Try.underlying25
      exact op_val (by first | (go_simp; done) | (go_simp; rfl)) (hK _ _ hB (Mono.refl _) rfl)
     ·refine stp rfl rfl rfl rfl rfl fun a w' hB hM hoff hp K hK => ?_
      obtain ⟨_, e3, rfl⟩ := hp 0 rfl 3 _ rfl rfl
      refine op_call Try.func25 (by kernel_rfl) rfl #[.agg #[.int .i64 c.fr, .int .i64 c.tt, .int .u32 c.tid, .int .u32 c.key, .int .u64 c.lo, .int .u64 c.hi, .slice A6 c.pub.length c6, .slice A7 c.ct.length c7, .slice A8 c.sl.length c8, .slice A9 c.sig.length c9]] rfl (by simp [ev e3]) (worded_calls c hs2 _ (decide_eq_true hw) _ _ (CV.mono hM)) ?_
      rintro e w1 ⟨u, rfl, hR, hb⟩
      exact ⟨u, rfl, hK _ _ (below_then hB hB.size hb) (Mono.of_below hb) hR⟩
     ·refine stp rfl rfl rfl rfl rfl fun a w' hB hM hoff hp K hK => ?_
      obtain ⟨_, e4, rfl⟩ := hp 1 rfl 4 _ rfl rfl
      exact op_val (by first | (go_simp; done) | (go_simp; rfl)) (hK _ _ hB (Mono.refl _) rfl)
     ·refine stp rfl rfl rfl rfl rfl fun a w' hB hM hoff hp K hK => ?_
      obtain ⟨_, e5, rfl⟩ := hp 2 rfl 5 _ rfl rfl
      exact op_val (by first | (go_simp; done) | (go_simp; rfl)) (hK _ _ hB (Mono.refl _) rfl)
     ·refine stpy 3 rfl rfl rfl rfl rfl rfl rfl rfl rfl fun a w' hB hM hoff hp K hK => ?_
      have e1 : a.tmps[1]? = some (.pointer (some ⟨b15_1, 0, none⟩)) := (hoff 1 rfl).trans rfl
      have hu := Try.underlying28
      exact op_val (by first | (go_simp; done) | (go_simp; rfl)) (hK _ _ hB (Mono.refl _) rfl)
     ·refine stpy 3 rfl rfl rfl rfl rfl rfl rfl rfl rfl fun a w' hB hM hoff hp K hK => ?_
      obtain ⟨_, e7, rfl⟩ := hp 4 rfl 7 _ rfl rfl
      have d9 := (C1.mono hM) 9 _ rfl
      exact op_val (by first | (go_simp; done) | (go_simp; rfl)) (hK _ _ hB (Mono.refl _) rfl)
     ·refine stpy 3 rfl rfl rfl rfl rfl rfl rfl rfl rfl fun a w' hB hM hoff hp K hK => ?_
      obtain ⟨_, e8, rfl⟩ := hp 5 rfl 8 _ rfl rfl
      exact op_val (by first | (go_simp; done) | (go_simp; rfl)) (hK _ _ hB (Mono.refl _) rfl)
     ·refine stpy 3 rfl rfl rfl rfl rfl rfl rfl rfl rfl fun a w' hB hM hoff hp K hK => ?_
      obtain ⟨_, e9, rfl⟩ := hp 6 rfl 9 _ rfl rfl
      have q1 : ((c.sig.length : Int) != 3309) = true := by simp; omega
      exact op_val (by first | (go_simp; done) | (go_simp; rfl)) (hK _ _ hB (Mono.refl _) rfl)
     ·refine stp rfl rfl rfl rfl rfl fun a w' hB hM hoff hp K hK => ?_
      obtain ⟨_, e6, rfl⟩ := hp 3 rfl 6 _ rfl rfl
      obtain ⟨_, e10, rfl⟩ := hp 7 rfl 10 _ rfl rfl
      exact op_val (by first | (go_simp; done) | (go_simp; rfl)) (hK _ _ hB (Mono.refl _) rfl)
    intro V2 w2 HB2 M2 hφ
    simp only [fillAll, Act.put, List.setIfInBounds_toArray, List.set_cons_zero, List.set_cons_succ]
    replace R6 := R6.mono M2
    replace R7 := R7.mono M2
    replace R8 := R8.mono M2
    replace R9 := R9.mono M2
    replace CV := CV.mono M2
    replace C1 := C1.mono M2
    have z3 : V2 0 = .agg #[.int .i64 c.fr, .int .i64 c.tt, .int .u32 c.tid, .int .u32 c.key, .int .u64 c.lo, .int .u64 c.hi, .slice A6 c.pub.length c6, .slice A7 c.ct.length c7, .slice A8 c.sl.length c8, .slice A9 c.sig.length c9] := hφ 0 _ rfl (by decide)
    have z4 : V2 1 = .bool true := hφ 1 _ rfl (by decide)
    have z5 : V2 2 = .bool false := hφ 2 _ rfl (by decide)
    have z6 : V2 3 = .bool false := hφ 3 _ rfl (by decide)
    have z7 : V2 4 = .pointer (some ⟨b15_1, 9, none⟩) := hφ 4 _ rfl (by decide)
    have z8 : V2 5 = .slice A9 c.sig.length c9 := hφ 5 _ rfl (by decide)
    have z9 : V2 6 = .int .i64 c.sig.length := hφ 6 _ rfl (by decide)
    have z10 : V2 7 = .bool true := hφ 7 _ rfl (by decide)
    have z11 : V2 8 = .bool true := hφ 8 _ rfl (by decide)
    simp only [z3, z4, z5, z6, z7, z8, z9, z10, z11]
    clear hφ
    (try simp only [Exit.inBlock, Exit.then])
    repeat (refine wp_seq ?_)
    (try simp only [Exit.inBlock, Exit.then])
    refine wp_cond_true rfl ?_
    (try simp only [Exit.inBlock, Exit.then])
    repeat (refine wp_seq ?_)
    refine rgs (B := w.heap.size) (w0 := w) [2] [isV (.int .i64 230)] rfl (by decide) rfl HB2 ?_ ?_ ?_
    · exact (stb_cons (stb_V _) stb_nil)
    ·refine stepf_cons ?_ stepf_nil
     ·refine stp rfl rfl rfl rfl rfl fun a w' hB hM hoff hp K hK => ?_
      exact op_val (by first | (go_simp; done) | (go_simp; rfl)) (hK _ _ hB (Mono.refl _) rfl)
    intro V3 w3 HB3 M3 hφ
    simp only [fillAll, Act.put, List.setIfInBounds_toArray, List.set_cons_zero, List.set_cons_succ]
    replace R6 := R6.mono M3
    replace R7 := R7.mono M3
    replace R8 := R8.mono M3
    replace R9 := R9.mono M3
    replace CV := CV.mono M3
    replace C1 := C1.mono M3
    have z2 : V3 0 = .int .i64 230 := hφ 0 _ rfl (by decide)
    simp only [z2]
    clear hφ
    (try simp only [Exit.inBlock, Exit.then])
    repeat (refine wp_seq ?_)
    (try simp only [Exit.inBlock, Exit.then])
    refine wp_ret ?_
    (try simp only [Exit.inBlock, Exit.then])
    go_ret
    exact ⟨_, rfl, rfl, HB3⟩
  case pos =>
    rw [may_err ⟨hw, hg⟩]
    go_enter Try.func15, Try.ntmps15
    have HBw : Below w.heap.size w w := Below.refl _ _
    (try simp only [Exit.inBlock, Exit.then])
    repeat (refine wp_seq ?_)
    refine rgs (B := w.heap.size) (w0 := w) [1, 2] [isBox w.heap.size [.int .i64 c.fr, .int .i64 c.tt, .int .u32 c.tid, .int .u32 c.key, .int .u64 c.lo, .int .u64 c.hi, .slice A6 c.pub.length c6, .slice A7 c.ct.length c7, .slice A8 c.sl.length c8, .slice A9 c.sig.length c9], isV (.int .i64 0)] rfl (by decide) rfl HBw ?_ ?_ ?_
    · exact (stb_cons (stb_Box _ _) (stb_cons (stb_V _) stb_nil))
    ·refine stepf_cons ?_ (stepf_cons ?_ stepf_nil)
     ·refine stp rfl rfl rfl rfl rfl fun a w' hB hM hoff hp K hK => ?_
      have e0 : a.tmps[0]? = some (.agg #[.int .i64 c.fr, .int .i64 c.tt, .int .u32 c.tid, .int .u32 c.key, .int .u64 c.lo, .int .u64 c.hi, .slice A6 c.pub.length c6, .slice A7 c.ct.length c7, .slice A8 c.sl.length c8, .slice A9 c.sig.length c9]) := (hoff 0 rfl).trans rfl
      have hu := Try.underlying28
      have hu2 := Try.underlying25
      refine op_val (v := .pointer (some ⟨w'.heap.size, 0, none⟩)) (w' := w'.alloc (.cells #[.int .i64 c.fr, .int .i64 c.tt, .int .u32 c.tid, .int .u32 c.key, .int .u64 c.lo, .int .u64 c.hi, .slice A6 c.pub.length c6, .slice A7 c.ct.length c7, .slice A8 c.sl.length c8, .slice A9 c.sig.length c9] 28)) (by first | (go_simp; done) | (go_simp; rfl)) (hK _ _ (below_then hB hB.size (below_alloc (Below.refl _ _) _)) (Mono.alloc _ _) ?_)
      exact ⟨_, rfl, hB.size, boxAt_alloc _ _ [.int .i64 c.fr, .int .i64 c.tt, .int .u32 c.tid, .int .u32 c.key, .int .u64 c.lo, .int .u64 c.hi, .slice A6 c.pub.length c6, .slice A7 c.ct.length c7, .slice A8 c.sl.length c8, .slice A9 c.sig.length c9]⟩
     ·refine stp rfl rfl rfl rfl rfl fun a w' hB hM hoff hp K hK => ?_
      exact op_val (by first | (go_simp; done) | (go_simp; rfl)) (hK _ _ hB (Mono.refl _) rfl)
    intro V1 w1 HB1 M1 hφ
    simp only [fillAll, Act.put, List.setIfInBounds_toArray, List.set_cons_zero, List.set_cons_succ]
    replace R6 := R6.mono M1
    replace R7 := R7.mono M1
    replace R8 := R8.mono M1
    replace R9 := R9.mono M1
    replace CV := CV.mono M1
    obtain ⟨b15_1, z1, hb1, C1⟩ := hφ 0 _ rfl (by decide)
    have z2 : V1 1 = .int .i64 0 := hφ 1 _ rfl (by decide)
    simp only [z1, z2]
    clear hφ
    (try simp only [Exit.inBlock, Exit.then])
    repeat (refine wp_seq ?_)
    refine rgs (B := w.heap.size) (w0 := w) [3, 4, 5, 6, 7, 8, 9, 10, 11] [isV (.agg #[.int .i64 c.fr, .int .i64 c.tt, .int .u32 c.tid, .int .u32 c.key, .int .u64 c.lo, .int .u64 c.hi, .slice A6 c.pub.length c6, .slice A7 c.ct.length c7, .slice A8 c.sl.length c8, .slice A9 c.sig.length c9]), isV (.bool true), isV (.bool false), isV (.bool false), isV (.pointer (some ⟨b15_1, 9, none⟩)), isV (.slice A9 c.sig.length c9), isV (.int .i64 c.sig.length), isV (.bool false), isV (.bool false)] rfl (by decide) rfl HB1 ?_ ?_ ?_
    · exact (stb_cons (stb_V _) (stb_cons (stb_V _) (stb_cons (stb_V _) (stb_cons (stb_V _) (stb_cons (stb_V _) (stb_cons (stb_V _) (stb_cons (stb_V _) (stb_cons (stb_V _) (stb_cons (stb_V _) stb_nil)))))))))
    ·refine stepf_cons ?_ (stepf_cons ?_ (stepf_cons ?_ (stepf_cons ?_ (stepf_cons ?_ (stepf_cons ?_ (stepf_cons ?_ (stepf_cons ?_ (stepf_cons ?_ stepf_nil))))))))
     ·refine stp rfl rfl rfl rfl rfl fun a w' hB hM hoff hp K hK => ?_
      have e1 : a.tmps[1]? = some (.pointer (some ⟨b15_1, 0, none⟩)) := (hoff 1 rfl).trans rfl
      obtain ⟨d0, d1, d2, d3, d4, d5, d6, d7, d8, d9⟩ := (C1.mono hM).ten
      have hu := Try.underlying28
      have hu2 := Try.underlying25
      exact op_val (by first | (go_simp; done) | (go_simp; rfl)) (hK _ _ hB (Mono.refl _) rfl)
     ·refine stp rfl rfl rfl rfl rfl fun a w' hB hM hoff hp K hK => ?_
      obtain ⟨_, e3, rfl⟩ := hp 0 rfl 3 _ rfl rfl
      refine op_call Try.func25 (by kernel_rfl) rfl #[.agg #[.int .i64 c.fr, .int .i64 c.tt, .int .u32 c.tid, .int .u32 c.key, .int .u64 c.lo, .int .u64 c.hi, .slice A6 c.pub.length c6, .slice A7 c.ct.length c7, .slice A8 c.sl.length c8, .slice A9 c.sig.length c9]] rfl (by simp [ev e3]) (worded_calls c hs2 _ (decide_eq_true hw) _ _ (CV.mono hM)) ?_
      rintro e w1 ⟨u, rfl, hR, hb⟩
      exact ⟨u, rfl, hK _ _ (below_then hB hB.size hb) (Mono.of_below hb) hR⟩
     ·refine stp rfl rfl rfl rfl rfl fun a w' hB hM hoff hp K hK => ?_
      obtain ⟨_, e4, rfl⟩ := hp 1 rfl 4 _ rfl rfl
      exact op_val (by first | (go_simp; done) | (go_simp; rfl)) (hK _ _ hB (Mono.refl _) rfl)
     ·refine stp rfl rfl rfl rfl rfl fun a w' hB hM hoff hp K hK => ?_
      obtain ⟨_, e5, rfl⟩ := hp 2 rfl 5 _ rfl rfl
      exact op_val (by first | (go_simp; done) | (go_simp; rfl)) (hK _ _ hB (Mono.refl _) rfl)
     ·refine stpy 3 rfl rfl rfl rfl rfl rfl rfl rfl rfl fun a w' hB hM hoff hp K hK => ?_
      have e1 : a.tmps[1]? = some (.pointer (some ⟨b15_1, 0, none⟩)) := (hoff 1 rfl).trans rfl
      have hu := Try.underlying28
      exact op_val (by first | (go_simp; done) | (go_simp; rfl)) (hK _ _ hB (Mono.refl _) rfl)
     ·refine stpy 3 rfl rfl rfl rfl rfl rfl rfl rfl rfl fun a w' hB hM hoff hp K hK => ?_
      obtain ⟨_, e7, rfl⟩ := hp 4 rfl 7 _ rfl rfl
      have d9 := (C1.mono hM) 9 _ rfl
      exact op_val (by first | (go_simp; done) | (go_simp; rfl)) (hK _ _ hB (Mono.refl _) rfl)
     ·refine stpy 3 rfl rfl rfl rfl rfl rfl rfl rfl rfl fun a w' hB hM hoff hp K hK => ?_
      obtain ⟨_, e8, rfl⟩ := hp 5 rfl 8 _ rfl rfl
      exact op_val (by first | (go_simp; done) | (go_simp; rfl)) (hK _ _ hB (Mono.refl _) rfl)
     ·refine stpy 3 rfl rfl rfl rfl rfl rfl rfl rfl rfl fun a w' hB hM hoff hp K hK => ?_
      obtain ⟨_, e9, rfl⟩ := hp 6 rfl 9 _ rfl rfl
      have q1 : ((c.sig.length : Int) != 3309) = false := by simp; omega
      exact op_val (by first | (go_simp; done) | (go_simp; rfl)) (hK _ _ hB (Mono.refl _) rfl)
     ·refine stp rfl rfl rfl rfl rfl fun a w' hB hM hoff hp K hK => ?_
      obtain ⟨_, e6, rfl⟩ := hp 3 rfl 6 _ rfl rfl
      obtain ⟨_, e10, rfl⟩ := hp 7 rfl 10 _ rfl rfl
      exact op_val (by first | (go_simp; done) | (go_simp; rfl)) (hK _ _ hB (Mono.refl _) rfl)
    intro V2 w2 HB2 M2 hφ
    simp only [fillAll, Act.put, List.setIfInBounds_toArray, List.set_cons_zero, List.set_cons_succ]
    replace R6 := R6.mono M2
    replace R7 := R7.mono M2
    replace R8 := R8.mono M2
    replace R9 := R9.mono M2
    replace CV := CV.mono M2
    replace C1 := C1.mono M2
    have z3 : V2 0 = .agg #[.int .i64 c.fr, .int .i64 c.tt, .int .u32 c.tid, .int .u32 c.key, .int .u64 c.lo, .int .u64 c.hi, .slice A6 c.pub.length c6, .slice A7 c.ct.length c7, .slice A8 c.sl.length c8, .slice A9 c.sig.length c9] := hφ 0 _ rfl (by decide)
    have z4 : V2 1 = .bool true := hφ 1 _ rfl (by decide)
    have z5 : V2 2 = .bool false := hφ 2 _ rfl (by decide)
    have z6 : V2 3 = .bool false := hφ 3 _ rfl (by decide)
    have z7 : V2 4 = .pointer (some ⟨b15_1, 9, none⟩) := hφ 4 _ rfl (by decide)
    have z8 : V2 5 = .slice A9 c.sig.length c9 := hφ 5 _ rfl (by decide)
    have z9 : V2 6 = .int .i64 c.sig.length := hφ 6 _ rfl (by decide)
    have z10 : V2 7 = .bool false := hφ 7 _ rfl (by decide)
    have z11 : V2 8 = .bool false := hφ 8 _ rfl (by decide)
    simp only [z3, z4, z5, z6, z7, z8, z9, z10, z11]
    clear hφ
    (try simp only [Exit.inBlock, Exit.then])
    repeat (refine wp_seq ?_)
    (try simp only [Exit.inBlock, Exit.then])
    refine wp_cond_false rfl ?_
    refine wp_skip ?_
    (try simp only [Exit.inBlock, Exit.then])
    repeat (refine wp_seq ?_)
    refine rgs (B := w.heap.size) (w0 := w) [2] [isV (.int .i64 0)] rfl (by decide) rfl HB2 ?_ ?_ ?_
    · exact (stb_cons (stb_V _) stb_nil)
    ·refine stepf_cons ?_ stepf_nil
     ·refine stp rfl rfl rfl rfl rfl fun a w' hB hM hoff hp K hK => ?_
      exact op_val (by first | (go_simp; done) | (go_simp; rfl)) (hK _ _ hB (Mono.refl _) rfl)
    intro V3 w3 HB3 M3 hφ
    simp only [fillAll, Act.put, List.setIfInBounds_toArray, List.set_cons_zero, List.set_cons_succ]
    replace R6 := R6.mono M3
    replace R7 := R7.mono M3
    replace R8 := R8.mono M3
    replace R9 := R9.mono M3
    replace CV := CV.mono M3
    replace C1 := C1.mono M3
    have z2 : V3 0 = .int .i64 0 := hφ 0 _ rfl (by decide)
    simp only [z2]
    clear hφ
    (try simp only [Exit.inBlock, Exit.then])
    repeat (refine wp_seq ?_)
    (try simp only [Exit.inBlock, Exit.then])
    refine wp_ret ?_
    (try simp only [Exit.inBlock, Exit.then])
    go_ret
    exact ⟨_, rfl, rfl, HB3⟩
set_option maxHeartbeats 1000000 in
set_option maxRecDepth 100000 in
theorem put_calls (c : Cp) (ho : c.Ok) (hs : c.pub.length < 65536) (hs2 : c.sl.length < 65536) (hs3 : c.ct.length < 65536) (hs4 : c.sig.length < 65536) (v : Value) (w : World) (hv : CapV 0 w v c) : Ret 13 #[v] w (isTup w.heap.size c.putl c.err) := by
  obtain ⟨_, _, _, _, rfl, ⟨A6, c6, rfl, l6, r6, _⟩, ⟨A7, c7, rfl, l7, r7, _⟩, ⟨A8, c8, rfl, l8, r8, _⟩, ⟨A9, c9, rfl, l9, r9, _⟩⟩ := hv
  have R6 : Row 0 w (.slice A6 c.pub.length c6) c.pub := Row.of_C r6 l6
  have R7 : Row 0 w (.slice A7 c.ct.length c7) c.ct := Row.of_C r7 l7
  have R8 : Row 0 w (.slice A8 c.sl.length c8) c.sl := Row.of_C r8 l8
  have R9 : Row 0 w (.slice A9 c.sig.length c9) c.sig := Row.of_C r9 l9
  have CV : CapV 0 w (.agg #[.int .i64 c.fr, .int .i64 c.tt, .int .u32 c.tid, .int .u32 c.key, .int .u64 c.lo, .int .u64 c.hi, .slice A6 c.pub.length c6, .slice A7 c.ct.length c7, .slice A8 c.sl.length c8, .slice A9 c.sig.length c9]) c := ⟨_, _, _, _, rfl, R6, R7, R8, R9⟩
  by_cases h : c.May
  · rw [may_err h, show c.putl = c.inner ++ c.sig from if_pos h]
    go_enter Try.func13, Try.ntmps13
    have HBw : Below w.heap.size w w := Below.refl _ _
    (try simp only [Exit.inBlock, Exit.then])
    repeat (refine wp_seq ?_)
    refine rgs (B := w.heap.size) (w0 := w) [1, 2, 3] [isBox w.heap.size [.int .i64 c.fr, .int .i64 c.tt, .int .u32 c.tid, .int .u32 c.key, .int .u64 c.lo, .int .u64 c.hi, .slice A6 c.pub.length c6, .slice A7 c.ct.length c7, .slice A8 c.sl.length c8, .slice A9 c.sig.length c9], isRow w.heap.size [], isV (.int .i64 0)] rfl (by decide) rfl HBw ?_ ?_ ?_
    · exact (stb_cons (stb_Box _ _) (stb_cons (stb_Row _ _) (stb_cons (stb_V _) stb_nil)))
    ·refine stepf_cons ?_ (stepf_cons ?_ (stepf_cons ?_ stepf_nil))
     ·refine stp rfl rfl rfl rfl rfl fun a w' hB hM hoff hp K hK => ?_
      have e0 : a.tmps[0]? = some (.agg #[.int .i64 c.fr, .int .i64 c.tt, .int .u32 c.tid, .int .u32 c.key, .int .u64 c.lo, .int .u64 c.hi, .slice A6 c.pub.length c6, .slice A7 c.ct.length c7, .slice A8 c.sl.length c8, .slice A9 c.sig.length c9]) := (hoff 0 rfl).trans rfl
      have hu := Try.underlying28
      have hu2 := Try.underlying25
      refine op_val (v := .pointer (some ⟨w'.heap.size, 0, none⟩)) (w' := w'.alloc (.cells #[.int .i64 c.fr, .int .i64 c.tt, .int .u32 c.tid, .int .u32 c.key, .int .u64 c.lo, .int .u64 c.hi, .slice A6 c.pub.length c6, .slice A7 c.ct.length c7, .slice A8 c.sl.length c8, .slice A9 c.sig.length c9] 28)) (by first | (go_simp; done) | (go_simp; rfl)) (hK _ _ (below_then hB hB.size (below_alloc (Below.refl _ _) _)) (Mono.alloc _ _) ?_)
      exact ⟨_, rfl, hB.size, boxAt_alloc _ _ [.int .i64 c.fr, .int .i64 c.tt, .int .u32 c.tid, .int .u32 c.key, .int .u64 c.lo, .int .u64 c.hi, .slice A6 c.pub.length c6, .slice A7 c.ct.length c7, .slice A8 c.sl.length c8, .slice A9 c.sig.length c9]⟩
     ·refine stp rfl rfl rfl rfl rfl fun a w' hB hM hoff hp K hK => ?_
      exact op_val (by first | (go_simp; done) | (go_simp; rfl)) (hK _ _ hB (Mono.refl _) (Row.nil _ _))
     ·refine stp rfl rfl rfl rfl rfl fun a w' hB hM hoff hp K hK => ?_
      exact op_val (by first | (go_simp; done) | (go_simp; rfl)) (hK _ _ hB (Mono.refl _) rfl)
    intro V1 w1 HB1 M1 hφ
    simp only [fillAll, Act.put, List.setIfInBounds_toArray, List.set_cons_zero, List.set_cons_succ]
    replace R6 := R6.mono M1
    replace R7 := R7.mono M1
    replace R8 := R8.mono M1
    replace R9 := R9.mono M1
    replace CV := CV.mono M1
    obtain ⟨b13_1, z1, hb1, C1⟩ := hφ 0 _ rfl (by decide)
    have K2 : Row w.heap.size w1 (V1 1) [] := hφ 1 _ rfl (by decide)
    have z3 : V1 2 = .int .i64 0 := hφ 2 _ rfl (by decide)
    simp only [z1, z3]
    clear hφ
    (try simp only [Exit.inBlock, Exit.then])
    repeat (refine wp_seq ?_)
    refine rgs (B := w.heap.size) (w0 := w) [5, 6, 4] [isV (.agg #[.int .i64 c.fr, .int .i64 c.tt, .int .u32 c.tid, .int .u32 c.key, .int .u64 c.lo, .int .u64 c.hi, .slice A6 c.pub.length c6, .slice A7 c.ct.length c7, .slice A8 c.sl.length c8, .slice A9 c.sig.length c9]), isV (.int .i64 0), isV (.int .i64 0)] rfl (by decide) rfl HB1 ?_ ?_ ?_
    · exact (stb_cons (stb_V _) (stb_cons (stb_V _) (stb_cons (stb_V _) stb_nil)))
    ·refine stepf_cons ?_ (stepf_cons ?_ (stepf_cons ?_ stepf_nil))
     ·refine stp rfl rfl rfl rfl rfl fun a w' hB hM hoff hp K hK => ?_
      have e1 : a.tmps[1]? = some (.pointer (some ⟨b13_1, 0, none⟩)) := (hoff 1 rfl).trans rfl
      obtain ⟨d0, d1, d2, d3, d4, d5, d6, d7, d8, d9⟩ := (C1.mono hM).ten
      have hu := Try.underlying28
      have hu2 := Try.underlying25
      exact op_val (by first | (go_simp; done) | (go_simp; rfl)) (hK _ _ hB (Mono.refl _) rfl)
     ·refine stp rfl rfl rfl rfl rfl fun a w' hB hM hoff hp K hK => ?_
      obtain ⟨_, e5, rfl⟩ := hp 0 rfl 5 _ rfl rfl
      refine op_call Try.func15 (by kernel_rfl) rfl #[.agg #[.int .i64 c.fr, .int .i64 c.tt, .int .u32 c.tid, .int .u32 c.key, .int .u64 c.lo, .int .u64 c.hi, .slice A6 c.pub.length c6, .slice A7 c.ct.length c7, .slice A8 c.sl.length c8, .slice A9 c.sig.length c9]] rfl (by simp [ev e5]) ((check_calls c ho hs hs2 hs3 hs4 _ _ (CV.mono hM)).mono (fun e w' h3 => by rw [may_err h] at h3; exact h3)) ?_
      rintro e w1 ⟨u, rfl, hR, hb⟩
      exact ⟨u, rfl, hK _ _ (below_then hB hB.size hb) (Mono.of_below hb) hR⟩
     ·refine stp rfl rfl rfl rfl rfl fun a w' hB hM hoff hp K hK => ?_
      obtain ⟨_, e6, rfl⟩ := hp 1 rfl 6 _ rfl rfl
      exact op_val (by first | (go_simp; done) | (go_simp; rfl)) (hK _ _ hB (Mono.refl _) rfl)
    intro V2 w2 HB2 M2 hφ
    simp only [fillAll, Act.put, List.setIfInBounds_toArray, List.set_cons_zero, List.set_cons_succ]
    replace R6 := R6.mono M2
    replace R7 := R7.mono M2
    replace R8 := R8.mono M2
    replace R9 := R9.mono M2
    replace CV := CV.mono M2
    replace C1 := C1.mono M2
    replace K2 := K2.mono M2
    have z5 : V2 0 = .agg #[.int .i64 c.fr, .int .i64 c.tt, .int .u32 c.tid, .int .u32 c.key, .int .u64 c.lo, .int .u64 c.hi, .slice A6 c.pub.length c6, .slice A7 c.ct.length c7, .slice A8 c.sl.length c8, .slice A9 c.sig.length c9] := hφ 0 _ rfl (by decide)
    have z6 : V2 1 = .int .i64 0 := hφ 1 _ rfl (by decide)
    have z4 : V2 2 = .int .i64 0 := hφ 2 _ rfl (by decide)
    simp only [z5, z6, z4]
    clear hφ
    (try simp only [Exit.inBlock, Exit.then])
    repeat (refine wp_seq ?_)
    refine rgs (B := w.heap.size) (w0 := w) [7, 8] [isV (.int .i64 0), isV (.bool false)] rfl (by decide) rfl HB2 ?_ ?_ ?_
    · exact (stb_cons (stb_V _) (stb_cons (stb_V _) stb_nil))
    ·refine stepf_cons ?_ (stepf_cons ?_ stepf_nil)
     ·refine stp rfl rfl rfl rfl rfl fun a w' hB hM hoff hp K hK => ?_
      have e4 : a.tmps[4]? = some (.int .i64 0) := (hoff 4 rfl).trans rfl
      exact op_val (by first | (go_simp; done) | (go_simp; rfl)) (hK _ _ hB (Mono.refl _) rfl)
     ·refine stp rfl rfl rfl rfl rfl fun a w' hB hM hoff hp K hK => ?_
      obtain ⟨_, e7, rfl⟩ := hp 0 rfl 7 _ rfl rfl
      exact op_val (by first | (go_simp; done) | (go_simp; rfl)) (hK _ _ hB (Mono.refl _) rfl)
    intro V3 w3 HB3 M3 hφ
    simp only [fillAll, Act.put, List.setIfInBounds_toArray, List.set_cons_zero, List.set_cons_succ]
    replace R6 := R6.mono M3
    replace R7 := R7.mono M3
    replace R8 := R8.mono M3
    replace R9 := R9.mono M3
    replace CV := CV.mono M3
    replace C1 := C1.mono M3
    replace K2 := K2.mono M3
    have z7 : V3 0 = .int .i64 0 := hφ 0 _ rfl (by decide)
    have z8 : V3 1 = .bool false := hφ 1 _ rfl (by decide)
    simp only [z7, z8]
    clear hφ
    (try simp only [Exit.inBlock, Exit.then])
    repeat (refine wp_seq ?_)
    (try simp only [Exit.inBlock, Exit.then])
    refine wp_cond_false rfl ?_
    refine wp_skip ?_
    (try simp only [Exit.inBlock, Exit.then])
    repeat (refine wp_seq ?_)
    refine rg (B := w.heap.size) (w0 := w) (by kernel_rfl) (by decide +kernel) [10, 11, 12, 13, 14, 15, 2, 3] [isV (.agg #[.int .i64 c.fr, .int .i64 c.tt, .int .u32 c.tid, .int .u32 c.key, .int .u64 c.lo, .int .u64 c.hi, .slice A6 c.pub.length c6, .slice A7 c.ct.length c7, .slice A8 c.sl.length c8, .slice A9 c.sig.length c9]), isRow w.heap.size c.inner, isV (.pointer (some ⟨b13_1, 9, none⟩)), isV (.slice A9 c.sig.length c9), isRows [c.inner, c.sig], isRow w.heap.size (c.inner ++ c.sig), isRow w.heap.size (c.inner ++ c.sig), isV (.int .i64 0)] rfl (by decide) rfl HB3 ?_ ?_ ?_
    · exact (stb_cons (stb_V _) (stb_cons (stb_Row _ _) (stb_cons (stb_V _) (stb_cons (stb_V _) (stb_cons (stb_Rows _) (stb_cons (stb_Row _ _) (stb_cons (stb_Row _ _) (stb_cons (stb_V _) stb_nil))))))))
    ·refine stepf_cons ?_ (stepf_cons ?_ (stepf_cons ?_ (stepf_cons ?_ (stepf_cons ?_ (stepf_cons ?_ (stepf_cons ?_ (stepf_cons ?_ stepf_nil)))))))
     ·refine stp rfl rfl rfl rfl rfl fun a w' hB hM hoff hp K hK => ?_
      have e1 : a.tmps[1]? = some (.pointer (some ⟨b13_1, 0, none⟩)) := (hoff 1 rfl).trans rfl
      obtain ⟨d0, d1, d2, d3, d4, d5, d6, d7, d8, d9⟩ := (C1.mono hM).ten
      have hu := Try.underlying28
      have hu2 := Try.underlying25
      exact op_val (by first | (go_simp; done) | (go_simp; rfl)) (hK _ _ hB (Mono.refl _) rfl)
     ·refine stp rfl rfl rfl rfl rfl fun a w' hB hM hoff hp K hK => ?_
      obtain ⟨_, e10, rfl⟩ := hp 0 rfl 10 _ rfl rfl
      refine op_call Try.func27 (by kernel_rfl) rfl #[.agg #[.int .i64 c.fr, .int .i64 c.tt, .int .u32 c.tid, .int .u32 c.key, .int .u64 c.lo, .int .u64 c.hi, .slice A6 c.pub.length c6, .slice A7 c.ct.length c7, .slice A8 c.sl.length c8, .slice A9 c.sig.length c9]] rfl (by simp [ev e10]) (inner_calls c ho hs hs2 hs3 hs4 _ _ (CV.mono hM)) ?_
      rintro e w1 ⟨u, rfl, hR, hb⟩
      exact ⟨u, rfl, hK _ _ (below_then hB hB.size hb) (Mono.of_below hb) (hR.lower hB.size)⟩
     ·refine stp rfl rfl rfl rfl rfl fun a w' hB hM hoff hp K hK => ?_
      have e1 : a.tmps[1]? = some (.pointer (some ⟨b13_1, 0, none⟩)) := (hoff 1 rfl).trans rfl
      have hu := Try.underlying28
      exact op_val (by first | (go_simp; done) | (go_simp; rfl)) (hK _ _ hB (Mono.refl _) rfl)
     ·refine stp rfl rfl rfl rfl rfl fun a w' hB hM hoff hp K hK => ?_
      obtain ⟨_, e12, rfl⟩ := hp 2 rfl 12 _ rfl rfl
      have d9 := (C1.mono hM) 9 _ rfl
      exact op_val (by first | (go_simp; done) | (go_simp; rfl)) (hK _ _ hB (Mono.refl _) rfl)
     ·refine stp rfl rfl rfl rfl rfl fun a w' hB hM hoff hp K hK => ?_
      obtain ⟨v11, e11, h11⟩ := hp 1 rfl 11 _ rfl rfl
      obtain ⟨_, e13, rfl⟩ := hp 3 rfl 13 _ rfl rfl
      have k11 := h11.lower (Nat.zero_le _)
      obtain ⟨X11, y11, rfl, _, _, _⟩ := h11
      refine op_val (v := .slice (some ⟨w'.heap.size, 0, none⟩) 2 2) (w' := w'.alloc (.cells #[.slice X11 (c.inner).length y11, .slice A9 c.sig.length c9] 26)) (by first | (go_simp; done) | (go_simp; rfl)) (hK _ _ (below_then hB hB.size (below_alloc (Below.refl _ _) _)) (Mono.alloc _ _) ?_)
      exact RowsB.lit (l := [c.inner, c.sig]) (vs := #[.slice X11 (c.inner).length y11, .slice A9 c.sig.length c9]) (RowL.cons k11 (RowL.cons ((R9.mono hM).lower (Nat.zero_le _)) (RowL.nil _))) (by simp)
     ·refine stp rfl rfl rfl rfl rfl fun a w' hB hM hoff hp K hK => ?_
      obtain ⟨v14, e14, h14⟩ := hp 4 rfl 14 _ rfl rfl
      refine op_call Try.func26 (by kernel_rfl) rfl #[v14] rfl (by simp [ev e14]) ((join_calls _ (by simp) (by simp [inner_length]; omega) _ _ h14).mono (fun e w' h => by simpa [List.append_assoc] using h)) ?_
      rintro e w1 ⟨u, rfl, hR, hb⟩
      exact ⟨u, rfl, hK _ _ (below_then hB hB.size hb) (Mono.of_below hb) (hR.lower hB.size)⟩
     ·refine stp rfl rfl rfl rfl rfl fun a w' hB hM hoff hp K hK => ?_
      obtain ⟨v15, e15, h15⟩ := hp 5 rfl 15 _ rfl rfl
      exact op_val (by first | (go_simp; done) | (go_simp; rfl)) (hK _ _ hB (Mono.refl _) h15)
     ·refine stp rfl rfl rfl rfl rfl fun a w' hB hM hoff hp K hK => ?_
      exact op_val (by first | (go_simp; done) | (go_simp; rfl)) (hK _ _ hB (Mono.refl _) rfl)
    intro V4 w4 HB4 M4 hφ
    simp only [fillAll, Act.put, List.setIfInBounds_toArray, List.set_cons_zero, List.set_cons_succ]
    replace R6 := R6.mono M4
    replace R7 := R7.mono M4
    replace R8 := R8.mono M4
    replace R9 := R9.mono M4
    replace CV := CV.mono M4
    replace C1 := C1.mono M4
    replace K2 := K2.mono M4
    have z10 : V4 0 = .agg #[.int .i64 c.fr, .int .i64 c.tt, .int .u32 c.tid, .int .u32 c.key, .int .u64 c.lo, .int .u64 c.hi, .slice A6 c.pub.length c6, .slice A7 c.ct.length c7, .slice A8 c.sl.length c8, .slice A9 c.sig.length c9] := hφ 0 _ rfl (by decide)
    have K11 : Row w.heap.size w4 (V4 1) c.inner := hφ 1 _ rfl (by decide)
    have z12 : V4 2 = .pointer (some ⟨b13_1, 9, none⟩) := hφ 2 _ rfl (by decide)
    have z13 : V4 3 = .slice A9 c.sig.length c9 := hφ 3 _ rfl (by decide)
    have K14 : RowsB w4 (V4 4) [c.inner, c.sig] := hφ 4 _ rfl (by decide)
    have K15 : Row w.heap.size w4 (V4 5) (c.inner ++ c.sig) := hφ 5 _ rfl (by decide)
    have K2 : Row w.heap.size w4 (V4 6) (c.inner ++ c.sig) := hφ 6 _ rfl (by decide)
    have z3 : V4 7 = .int .i64 0 := hφ 7 _ rfl (by decide)
    simp only [z10, z12, z13, z3]
    clear hφ
    (try simp only [Exit.inBlock, Exit.then])
    repeat (refine wp_seq ?_)
    (try simp only [Exit.inBlock, Exit.then])
    refine wp_ret ?_
    (try simp only [Exit.inBlock, Exit.then])
    go_ret2
    exact ⟨_, rfl, ⟨_, rfl, K2⟩, HB4⟩
  · rw [nmay_err h, show c.putl = [] from if_neg h]
    go_enter Try.func13, Try.ntmps13
    have HBw : Below w.heap.size w w := Below.refl _ _
    (try simp only [Exit.inBlock, Exit.then])
    repeat (refine wp_seq ?_)
    refine rgs (B := w.heap.size) (w0 := w) [1, 2, 3] [isBox w.heap.size [.int .i64 c.fr, .int .i64 c.tt, .int .u32 c.tid, .int .u32 c.key, .int .u64 c.lo, .int .u64 c.hi, .slice A6 c.pub.length c6, .slice A7 c.ct.length c7, .slice A8 c.sl.length c8, .slice A9 c.sig.length c9], isRow w.heap.size [], isV (.int .i64 0)] rfl (by decide) rfl HBw ?_ ?_ ?_
    · exact (stb_cons (stb_Box _ _) (stb_cons (stb_Row _ _) (stb_cons (stb_V _) stb_nil)))
    ·refine stepf_cons ?_ (stepf_cons ?_ (stepf_cons ?_ stepf_nil))
     ·refine stp rfl rfl rfl rfl rfl fun a w' hB hM hoff hp K hK => ?_
      have e0 : a.tmps[0]? = some (.agg #[.int .i64 c.fr, .int .i64 c.tt, .int .u32 c.tid, .int .u32 c.key, .int .u64 c.lo, .int .u64 c.hi, .slice A6 c.pub.length c6, .slice A7 c.ct.length c7, .slice A8 c.sl.length c8, .slice A9 c.sig.length c9]) := (hoff 0 rfl).trans rfl
      have hu := Try.underlying28
      have hu2 := Try.underlying25
      refine op_val (v := .pointer (some ⟨w'.heap.size, 0, none⟩)) (w' := w'.alloc (.cells #[.int .i64 c.fr, .int .i64 c.tt, .int .u32 c.tid, .int .u32 c.key, .int .u64 c.lo, .int .u64 c.hi, .slice A6 c.pub.length c6, .slice A7 c.ct.length c7, .slice A8 c.sl.length c8, .slice A9 c.sig.length c9] 28)) (by first | (go_simp; done) | (go_simp; rfl)) (hK _ _ (below_then hB hB.size (below_alloc (Below.refl _ _) _)) (Mono.alloc _ _) ?_)
      exact ⟨_, rfl, hB.size, boxAt_alloc _ _ [.int .i64 c.fr, .int .i64 c.tt, .int .u32 c.tid, .int .u32 c.key, .int .u64 c.lo, .int .u64 c.hi, .slice A6 c.pub.length c6, .slice A7 c.ct.length c7, .slice A8 c.sl.length c8, .slice A9 c.sig.length c9]⟩
     ·refine stp rfl rfl rfl rfl rfl fun a w' hB hM hoff hp K hK => ?_
      exact op_val (by first | (go_simp; done) | (go_simp; rfl)) (hK _ _ hB (Mono.refl _) (Row.nil _ _))
     ·refine stp rfl rfl rfl rfl rfl fun a w' hB hM hoff hp K hK => ?_
      exact op_val (by first | (go_simp; done) | (go_simp; rfl)) (hK _ _ hB (Mono.refl _) rfl)
    intro V1 w1 HB1 M1 hφ
    simp only [fillAll, Act.put, List.setIfInBounds_toArray, List.set_cons_zero, List.set_cons_succ]
    replace R6 := R6.mono M1
    replace R7 := R7.mono M1
    replace R8 := R8.mono M1
    replace R9 := R9.mono M1
    replace CV := CV.mono M1
    obtain ⟨b13_1, z1, hb1, C1⟩ := hφ 0 _ rfl (by decide)
    have K2 : Row w.heap.size w1 (V1 1) [] := hφ 1 _ rfl (by decide)
    have z3 : V1 2 = .int .i64 0 := hφ 2 _ rfl (by decide)
    simp only [z1, z3]
    clear hφ
    (try simp only [Exit.inBlock, Exit.then])
    repeat (refine wp_seq ?_)
    refine rgs (B := w.heap.size) (w0 := w) [5, 6, 4] [isV (.agg #[.int .i64 c.fr, .int .i64 c.tt, .int .u32 c.tid, .int .u32 c.key, .int .u64 c.lo, .int .u64 c.hi, .slice A6 c.pub.length c6, .slice A7 c.ct.length c7, .slice A8 c.sl.length c8, .slice A9 c.sig.length c9]), isV (.int .i64 230), isV (.int .i64 230)] rfl (by decide) rfl HB1 ?_ ?_ ?_
    · exact (stb_cons (stb_V _) (stb_cons (stb_V _) (stb_cons (stb_V _) stb_nil)))
    ·refine stepf_cons ?_ (stepf_cons ?_ (stepf_cons ?_ stepf_nil))
     ·refine stp rfl rfl rfl rfl rfl fun a w' hB hM hoff hp K hK => ?_
      have e1 : a.tmps[1]? = some (.pointer (some ⟨b13_1, 0, none⟩)) := (hoff 1 rfl).trans rfl
      obtain ⟨d0, d1, d2, d3, d4, d5, d6, d7, d8, d9⟩ := (C1.mono hM).ten
      have hu := Try.underlying28
      have hu2 := Try.underlying25
      exact op_val (by first | (go_simp; done) | (go_simp; rfl)) (hK _ _ hB (Mono.refl _) rfl)
     ·refine stp rfl rfl rfl rfl rfl fun a w' hB hM hoff hp K hK => ?_
      obtain ⟨_, e5, rfl⟩ := hp 0 rfl 5 _ rfl rfl
      refine op_call Try.func15 (by kernel_rfl) rfl #[.agg #[.int .i64 c.fr, .int .i64 c.tt, .int .u32 c.tid, .int .u32 c.key, .int .u64 c.lo, .int .u64 c.hi, .slice A6 c.pub.length c6, .slice A7 c.ct.length c7, .slice A8 c.sl.length c8, .slice A9 c.sig.length c9]] rfl (by simp [ev e5]) ((check_calls c ho hs hs2 hs3 hs4 _ _ (CV.mono hM)).mono (fun e w' h3 => by rw [nmay_err h] at h3; exact h3)) ?_
      rintro e w1 ⟨u, rfl, hR, hb⟩
      exact ⟨u, rfl, hK _ _ (below_then hB hB.size hb) (Mono.of_below hb) hR⟩
     ·refine stp rfl rfl rfl rfl rfl fun a w' hB hM hoff hp K hK => ?_
      obtain ⟨_, e6, rfl⟩ := hp 1 rfl 6 _ rfl rfl
      exact op_val (by first | (go_simp; done) | (go_simp; rfl)) (hK _ _ hB (Mono.refl _) rfl)
    intro V2 w2 HB2 M2 hφ
    simp only [fillAll, Act.put, List.setIfInBounds_toArray, List.set_cons_zero, List.set_cons_succ]
    replace R6 := R6.mono M2
    replace R7 := R7.mono M2
    replace R8 := R8.mono M2
    replace R9 := R9.mono M2
    replace CV := CV.mono M2
    replace C1 := C1.mono M2
    replace K2 := K2.mono M2
    have z5 : V2 0 = .agg #[.int .i64 c.fr, .int .i64 c.tt, .int .u32 c.tid, .int .u32 c.key, .int .u64 c.lo, .int .u64 c.hi, .slice A6 c.pub.length c6, .slice A7 c.ct.length c7, .slice A8 c.sl.length c8, .slice A9 c.sig.length c9] := hφ 0 _ rfl (by decide)
    have z6 : V2 1 = .int .i64 230 := hφ 1 _ rfl (by decide)
    have z4 : V2 2 = .int .i64 230 := hφ 2 _ rfl (by decide)
    simp only [z5, z6, z4]
    clear hφ
    (try simp only [Exit.inBlock, Exit.then])
    repeat (refine wp_seq ?_)
    refine rgs (B := w.heap.size) (w0 := w) [7, 8] [isV (.int .i64 230), isV (.bool true)] rfl (by decide) rfl HB2 ?_ ?_ ?_
    · exact (stb_cons (stb_V _) (stb_cons (stb_V _) stb_nil))
    ·refine stepf_cons ?_ (stepf_cons ?_ stepf_nil)
     ·refine stp rfl rfl rfl rfl rfl fun a w' hB hM hoff hp K hK => ?_
      have e4 : a.tmps[4]? = some (.int .i64 230) := (hoff 4 rfl).trans rfl
      exact op_val (by first | (go_simp; done) | (go_simp; rfl)) (hK _ _ hB (Mono.refl _) rfl)
     ·refine stp rfl rfl rfl rfl rfl fun a w' hB hM hoff hp K hK => ?_
      obtain ⟨_, e7, rfl⟩ := hp 0 rfl 7 _ rfl rfl
      exact op_val (by first | (go_simp; done) | (go_simp; rfl)) (hK _ _ hB (Mono.refl _) rfl)
    intro V3 w3 HB3 M3 hφ
    simp only [fillAll, Act.put, List.setIfInBounds_toArray, List.set_cons_zero, List.set_cons_succ]
    replace R6 := R6.mono M3
    replace R7 := R7.mono M3
    replace R8 := R8.mono M3
    replace R9 := R9.mono M3
    replace CV := CV.mono M3
    replace C1 := C1.mono M3
    replace K2 := K2.mono M3
    have z7 : V3 0 = .int .i64 230 := hφ 0 _ rfl (by decide)
    have z8 : V3 1 = .bool true := hφ 1 _ rfl (by decide)
    simp only [z7, z8]
    clear hφ
    (try simp only [Exit.inBlock, Exit.then])
    repeat (refine wp_seq ?_)
    (try simp only [Exit.inBlock, Exit.then])
    refine wp_cond_true rfl ?_
    (try simp only [Exit.inBlock, Exit.then])
    repeat (refine wp_seq ?_)
    refine rgs (B := w.heap.size) (w0 := w) [9, 2, 3] [isV (.int .i64 230), isRow w.heap.size [], isV (.int .i64 230)] rfl (by decide) rfl HB3 ?_ ?_ ?_
    · exact (stb_cons (stb_V _) (stb_cons (stb_Row _ _) (stb_cons (stb_V _) stb_nil)))
    ·refine stepf_cons ?_ (stepf_cons ?_ (stepf_cons ?_ stepf_nil))
     ·refine stp rfl rfl rfl rfl rfl fun a w' hB hM hoff hp K hK => ?_
      have e4 : a.tmps[4]? = some (.int .i64 230) := (hoff 4 rfl).trans rfl
      exact op_val (by first | (go_simp; done) | (go_simp; rfl)) (hK _ _ hB (Mono.refl _) rfl)
     ·refine stp rfl rfl rfl rfl rfl fun a w' hB hM hoff hp K hK => ?_
      exact op_val (by first | (go_simp; done) | (go_simp; rfl)) (hK _ _ hB (Mono.refl _) (Row.nil _ _))
     ·refine stp rfl rfl rfl rfl rfl fun a w' hB hM hoff hp K hK => ?_
      obtain ⟨_, e9, rfl⟩ := hp 0 rfl 9 _ rfl rfl
      exact op_val (by first | (go_simp; done) | (go_simp; rfl)) (hK _ _ hB (Mono.refl _) rfl)
    intro V4 w4 HB4 M4 hφ
    simp only [fillAll, Act.put, List.setIfInBounds_toArray, List.set_cons_zero, List.set_cons_succ]
    replace R6 := R6.mono M4
    replace R7 := R7.mono M4
    replace R8 := R8.mono M4
    replace R9 := R9.mono M4
    replace CV := CV.mono M4
    replace C1 := C1.mono M4
    replace K2 := K2.mono M4
    have z9 : V4 0 = .int .i64 230 := hφ 0 _ rfl (by decide)
    have K2 : Row w.heap.size w4 (V4 1) [] := hφ 1 _ rfl (by decide)
    have z3 : V4 2 = .int .i64 230 := hφ 2 _ rfl (by decide)
    simp only [z9, z3]
    clear hφ
    (try simp only [Exit.inBlock, Exit.then])
    repeat (refine wp_seq ?_)
    (try simp only [Exit.inBlock, Exit.then])
    refine wp_ret ?_
    (try simp only [Exit.inBlock, Exit.then])
    go_ret2
    exact ⟨_, rfl, ⟨_, rfl, K2⟩, HB4⟩
theorem big_calls (c : Cp) (b : Bool) (hb : decide (9000 < c.pub.length ∨ 9000 < c.ct.length ∨ 9000 < c.sl.length ∨ 9000 < c.sig.length) = b) (v : Value) (w : World) (hv : CapV 0 w v c) : Ret 8 #[v] w (isV (.bool b)) := by
  obtain ⟨_, _, _, _, rfl, ⟨A6, c6, rfl, l6, r6, _⟩, ⟨A7, c7, rfl, l7, r7, _⟩, ⟨A8, c8, rfl, l8, r8, _⟩, ⟨A9, c9, rfl, l9, r9, _⟩⟩ := hv
  refine (liverylaw23_big.calls c.fr c.tt c.tid c.key c.lo c.hi _ _ _ _ _ _ _ _ _ _ _ _ b w r6 l6 r7 l7 r8 l8 r9 l9 ?_).mono fun e w' ⟨he, hB⟩ => ⟨_, he, rfl, hB⟩
  subst hb
  unfold liverylaw23_big.f
  by_cases h1 : 9000 < c.pub.length
  · rw [if_pos (by omega)]; simp [h1]
  rw [if_neg (by omega)]
  by_cases h2 : 9000 < c.ct.length
  · rw [if_pos (by omega)]; simp [h2]
  rw [if_neg (by omega)]
  by_cases h3 : 9000 < c.sl.length
  · rw [if_pos (by omega)]; simp [h3]
  rw [if_neg (by omega)]
  simp only [h1, h2, h3, false_or, Option.some.injEq, decide_eq_decide]
  omega

end Go.Proofs.Ytgacaemgmgoiaaa.QLeaf
