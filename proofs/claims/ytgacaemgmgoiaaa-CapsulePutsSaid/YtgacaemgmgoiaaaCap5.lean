import Derived.Test.YtgacaemgmgoiaaaCap4
import Derived.Test.YtgacaemgmgoiaaaCapR3

/- The law CapsulePuts: true, whatever the two capsules are. -/
namespace Go.Proofs.Ytgacaemgmgoiaaa.QLeaf
open Go.RowKit Go.Proofs.YtgacaemgmgoiaaaW.PrintWords Go.Proofs.YtgacaemgmgoiaaaW.PrintLast Go.Proofs.YtgacaemgmgoiaaaW.PrintMore Go.Proofs.YtgacaemgmgoiaaaW.Cm Go.Proofs.YtgacaemgmgoiaaaW.Rg
set_option linter.unusedVariables false
set_option linter.unusedSimpArgs false
theorem said_byt (c : Cp) (hc : c.Ok) : Byt c.said := byt_app (byt_cons (mod_byte _).1 (mod_byte _).2 (byt_cons (mod_byte _).1 (mod_byte _).2 byt_nil)) (byt_app (be_byt _ _) (byt_app (be_byt _ _) (byt_app (be_byt _ _) (byt_app (be_byt _ _) (byt_app (be_byt _ _) hc.pub)))))
theorem putl_byt (c : Cp) (hc : c.Ok) : Byt c.putl := by
  unfold Cp.putl
  split
  · exact byt_app (inner_byt c hc) hc.sig
  · exact byt_nil
theorem Said_byt (c : Cp) (hc : c.Ok) : Byt (if c.Spoken then c.said else []) := by
  split
  · exact said_byt c hc
  · exact byt_nil
theorem Words_byt (c : Cp) (hc : c.Ok) : Byt (if c.Worded then title ++ c.inner else []) := by
  split
  · exact byt_app title_byt (inner_byt c hc)
  · exact byt_nil

set_option maxHeartbeats 2000000 in
set_option maxRecDepth 100000 in
theorem puts_big (c d : Cp) (ho : c.Ok) (hd : d.Ok) (v v2 : Value) (w : World) (hv : CapV 0 w v c) (hw : CapV 0 w v2 d) (hc : (9000 < c.pub.length ∨ 9000 < c.ct.length ∨ 9000 < c.sl.length ∨ 9000 < c.sig.length)) : Ret 4 #[v, v2] w (isV (.bool true)) := by
  obtain ⟨_, _, _, _, rfl, ⟨A6, c6, rfl, l6, r6, _⟩, ⟨A7, c7, rfl, l7, r7, _⟩, ⟨A8, c8, rfl, l8, r8, _⟩, ⟨A9, c9, rfl, l9, r9, _⟩⟩ := hv
  have R6 : Row 0 w (.slice A6 c.pub.length c6) c.pub := Row.of_C r6 l6
  have R7 : Row 0 w (.slice A7 c.ct.length c7) c.ct := Row.of_C r7 l7
  have R8 : Row 0 w (.slice A8 c.sl.length c8) c.sl := Row.of_C r8 l8
  have R9 : Row 0 w (.slice A9 c.sig.length c9) c.sig := Row.of_C r9 l9
  have CV : CapV 0 w (.agg #[.int .i64 c.fr, .int .i64 c.tt, .int .u32 c.tid, .int .u32 c.key, .int .u64 c.lo, .int .u64 c.hi, .slice A6 c.pub.length c6, .slice A7 c.ct.length c7, .slice A8 c.sl.length c8, .slice A9 c.sig.length c9]) c := ⟨_, _, _, _, rfl, R6, R7, R8, R9⟩
  obtain ⟨_, _, _, _, rfl, ⟨dA6, dc6, rfl, dl6, dr6, _⟩, ⟨dA7, dc7, rfl, dl7, dr7, _⟩, ⟨dA8, dc8, rfl, dl8, dr8, _⟩, ⟨dA9, dc9, rfl, dl9, dr9, _⟩⟩ := hw
  have dR6 : Row 0 w (.slice dA6 d.pub.length dc6) d.pub := Row.of_C dr6 dl6
  have dR7 : Row 0 w (.slice dA7 d.ct.length dc7) d.ct := Row.of_C dr7 dl7
  have dR8 : Row 0 w (.slice dA8 d.sl.length dc8) d.sl := Row.of_C dr8 dl8
  have dR9 : Row 0 w (.slice dA9 d.sig.length dc9) d.sig := Row.of_C dr9 dl9
  have dCV : CapV 0 w (.agg #[.int .i64 d.fr, .int .i64 d.tt, .int .u32 d.tid, .int .u32 d.key, .int .u64 d.lo, .int .u64 d.hi, .slice dA6 d.pub.length dc6, .slice dA7 d.ct.length dc7, .slice dA8 d.sl.length dc8, .slice dA9 d.sig.length dc9]) d := ⟨_, _, _, _, rfl, dR6, dR7, dR8, dR9⟩
  go_enter Try.func4, Try.ntmps4
  have HBw : Below w.heap.size w w := Below.refl _ _
  (try simp only [Exit.inBlock, Exit.then])
  repeat (refine wp_seq ?_)
  refine rgs (B := w.heap.size) (w0 := w) [2, 3, 4] [isBox w.heap.size [.int .i64 c.fr, .int .i64 c.tt, .int .u32 c.tid, .int .u32 c.key, .int .u64 c.lo, .int .u64 c.hi, .slice A6 c.pub.length c6, .slice A7 c.ct.length c7, .slice A8 c.sl.length c8, .slice A9 c.sig.length c9], isBox w.heap.size [.int .i64 d.fr, .int .i64 d.tt, .int .u32 d.tid, .int .u32 d.key, .int .u64 d.lo, .int .u64 d.hi, .slice dA6 d.pub.length dc6, .slice dA7 d.ct.length dc7, .slice dA8 d.sl.length dc8, .slice dA9 d.sig.length dc9], isV (.bool false)] rfl (by decide) rfl HBw ?_ ?_ ?_
  · exact (stb_cons (stb_Box _ _) (stb_cons (stb_Box _ _) (stb_cons (stb_V _) stb_nil)))
  ·refine stepf_cons ?_ (stepf_cons ?_ (stepf_cons ?_ stepf_nil))
   ·refine stp rfl rfl rfl rfl rfl fun a w' hB hM hoff hp K hK => ?_
    have e0 : a.tmps[0]? = some (.agg #[.int .i64 c.fr, .int .i64 c.tt, .int .u32 c.tid, .int .u32 c.key, .int .u64 c.lo, .int .u64 c.hi, .slice A6 c.pub.length c6, .slice A7 c.ct.length c7, .slice A8 c.sl.length c8, .slice A9 c.sig.length c9]) := (hoff 0 rfl).trans rfl
    have hu := Try.underlying28
    have hu2 := Try.underlying25
    refine op_val (v := .pointer (some ⟨w'.heap.size, 0, none⟩)) (w' := w'.alloc (.cells #[.int .i64 c.fr, .int .i64 c.tt, .int .u32 c.tid, .int .u32 c.key, .int .u64 c.lo, .int .u64 c.hi, .slice A6 c.pub.length c6, .slice A7 c.ct.length c7, .slice A8 c.sl.length c8, .slice A9 c.sig.length c9] 28)) (by first | (go_simp; done) | (go_simp; rfl)) (hK _ _ (below_then hB hB.size (below_alloc (Below.refl _ _) _)) (Mono.alloc _ _) ?_)
    exact ⟨_, rfl, hB.size, boxAt_alloc _ _ [.int .i64 c.fr, .int .i64 c.tt, .int .u32 c.tid, .int .u32 c.key, .int .u64 c.lo, .int .u64 c.hi, .slice A6 c.pub.length c6, .slice A7 c.ct.length c7, .slice A8 c.sl.length c8, .slice A9 c.sig.length c9]⟩
   ·refine stp rfl rfl rfl rfl rfl fun a w' hB hM hoff hp K hK => ?_
    have e1 : a.tmps[1]? = some (.agg #[.int .i64 d.fr, .int .i64 d.tt, .int .u32 d.tid, .int .u32 d.key, .int .u64 d.lo, .int .u64 d.hi, .slice dA6 d.pub.length dc6, .slice dA7 d.ct.length dc7, .slice dA8 d.sl.length dc8, .slice dA9 d.sig.length dc9]) := (hoff 1 rfl).trans rfl
    have hu := Try.underlying28
    have hu2 := Try.underlying25
    refine op_val (v := .pointer (some ⟨w'.heap.size, 0, none⟩)) (w' := w'.alloc (.cells #[.int .i64 d.fr, .int .i64 d.tt, .int .u32 d.tid, .int .u32 d.key, .int .u64 d.lo, .int .u64 d.hi, .slice dA6 d.pub.length dc6, .slice dA7 d.ct.length dc7, .slice dA8 d.sl.length dc8, .slice dA9 d.sig.length dc9] 28)) (by first | (go_simp; done) | (go_simp; rfl)) (hK _ _ (below_then hB hB.size (below_alloc (Below.refl _ _) _)) (Mono.alloc _ _) ?_)
    exact ⟨_, rfl, hB.size, boxAt_alloc _ _ [.int .i64 d.fr, .int .i64 d.tt, .int .u32 d.tid, .int .u32 d.key, .int .u64 d.lo, .int .u64 d.hi, .slice dA6 d.pub.length dc6, .slice dA7 d.ct.length dc7, .slice dA8 d.sl.length dc8, .slice dA9 d.sig.length dc9]⟩
   ·refine stp rfl rfl rfl rfl rfl fun a w' hB hM hoff hp K hK => ?_
    exact op_val (by first | (go_simp; done) | (go_simp; rfl)) (hK _ _ hB (Mono.refl _) rfl)
  intro V1 w1 HB1 M1 hφ
  simp only [fillAll, Act.put, List.setIfInBounds_toArray, List.set_cons_zero, List.set_cons_succ]
  replace R6 := R6.mono M1
  replace R7 := R7.mono M1
  replace R8 := R8.mono M1
  replace R9 := R9.mono M1
  replace CV := CV.mono M1
  replace dR6 := dR6.mono M1
  replace dR7 := dR7.mono M1
  replace dR8 := dR8.mono M1
  replace dR9 := dR9.mono M1
  replace dCV := dCV.mono M1
  obtain ⟨b4_2, z2, hb2, C2⟩ := hφ 0 _ rfl (by decide)
  obtain ⟨b4_3, z3, hb3, C3⟩ := hφ 1 _ rfl (by decide)
  have z4 : V1 2 = .bool false := hφ 2 _ rfl (by decide)
  simp only [z2, z3, z4]
  clear hφ
  (try simp only [Exit.inBlock, Exit.then])
  repeat (refine wp_seq ?_)
  refine rgs (B := w.heap.size) (w0 := w) [9, 10, 11, 12, 13, 14, 15, 16, 17, 18] [isV (.bool true), isV (.bool false), isV (.bool false), isV (.agg #[.int .i64 c.fr, .int .i64 c.tt, .int .u32 c.tid, .int .u32 c.key, .int .u64 c.lo, .int .u64 c.hi, .slice A6 c.pub.length c6, .slice A7 c.ct.length c7, .slice A8 c.sl.length c8, .slice A9 c.sig.length c9]), isV (.bool true), isV (.bool true), isV (.bool true), isV (undef), isV (undef), isV (.bool true)] rfl (by decide) rfl HB1 ?_ ?_ ?_
  · exact (stb_cons (stb_V _) (stb_cons (stb_V _) (stb_cons (stb_V _) (stb_cons (stb_V _) (stb_cons (stb_V _) (stb_cons (stb_V _) (stb_cons (stb_V _) (stb_cons (stb_V _) (stb_cons (stb_V _) (stb_cons (stb_V _) stb_nil))))))))))
  ·refine stepf_cons ?_ (stepf_cons ?_ (stepf_cons ?_ (stepf_cons ?_ (stepf_cons ?_ (stepf_cons ?_ (stepf_cons ?_ (stepf_cons ?_ (stepf_cons ?_ (stepf_cons ?_ stepf_nil)))))))))
   ·refine stp rfl rfl rfl rfl rfl fun a w' hB hM hoff hp K hK => ?_
    refine op_call Try.func7 (by kernel_rfl) rfl #[] rfl (by simp []) (live_calls _) ?_
    rintro e w1 ⟨u, rfl, hR, hb⟩
    exact ⟨u, rfl, hK _ _ (below_then hB hB.size hb) (Mono.of_below hb) hR⟩
   ·refine stp rfl rfl rfl rfl rfl fun a w' hB hM hoff hp K hK => ?_
    obtain ⟨_, e9, rfl⟩ := hp 0 rfl 9 _ rfl rfl
    exact op_val (by first | (go_simp; done) | (go_simp; rfl)) (hK _ _ hB (Mono.refl _) rfl)
   ·refine stp rfl rfl rfl rfl rfl fun a w' hB hM hoff hp K hK => ?_
    obtain ⟨_, e10, rfl⟩ := hp 1 rfl 10 _ rfl rfl
    exact op_val (by first | (go_simp; done) | (go_simp; rfl)) (hK _ _ hB (Mono.refl _) rfl)
   ·refine stpy 2 rfl rfl rfl rfl rfl rfl rfl rfl rfl fun a w' hB hM hoff hp K hK => ?_
    have e2 : a.tmps[2]? = some (.pointer (some ⟨b4_2, 0, none⟩)) := (hoff 2 rfl).trans rfl
    obtain ⟨d0, d1, d2, d3, d4, d5, d6, d7, d8, d9⟩ := (C2.mono hM).ten
    have hu := Try.underlying28
    have hu2 := Try.underlying25
    exact op_val (by first | (go_simp; done) | (go_simp; rfl)) (hK _ _ hB (Mono.refl _) rfl)
   ·refine stpy 2 rfl rfl rfl rfl rfl rfl rfl rfl rfl fun a w' hB hM hoff hp K hK => ?_
    obtain ⟨_, e12, rfl⟩ := hp 3 rfl 12 _ rfl rfl
    refine op_call Try.func8 (by kernel_rfl) rfl #[.agg #[.int .i64 c.fr, .int .i64 c.tt, .int .u32 c.tid, .int .u32 c.key, .int .u64 c.lo, .int .u64 c.hi, .slice A6 c.pub.length c6, .slice A7 c.ct.length c7, .slice A8 c.sl.length c8, .slice A9 c.sig.length c9]] rfl (by simp [ev e12]) (big_calls c _ (decide_eq_true hc) _ _ (CV.mono hM)) ?_
    rintro e w1 ⟨u, rfl, hR, hb⟩
    exact ⟨u, rfl, hK _ _ (below_then hB hB.size hb) (Mono.of_below hb) hR⟩
   ·refine stp rfl rfl rfl rfl rfl fun a w' hB hM hoff hp K hK => ?_
    obtain ⟨_, e11, rfl⟩ := hp 2 rfl 11 _ rfl rfl
    obtain ⟨_, e13, rfl⟩ := hp 4 rfl 13 _ rfl rfl
    exact op_val (by first | (go_simp; done) | (go_simp; rfl)) (hK _ _ hB (Mono.refl _) rfl)
   ·refine stp rfl rfl rfl rfl rfl fun a w' hB hM hoff hp K hK => ?_
    obtain ⟨_, e14, rfl⟩ := hp 5 rfl 14 _ rfl rfl
    exact op_val (by first | (go_simp; done) | (go_simp; rfl)) (hK _ _ hB (Mono.refl _) rfl)
   ·exact stpn 6 rfl rfl rfl rfl rfl rfl rfl rfl rfl (by simp)
   ·exact stpn 6 rfl rfl rfl rfl rfl rfl rfl rfl rfl (by simp)
   ·refine stp rfl rfl rfl rfl rfl fun a w' hB hM hoff hp K hK => ?_
    obtain ⟨_, e15, rfl⟩ := hp 6 rfl 15 _ rfl rfl
    exact op_val (by first | (go_simp; done) | (go_simp; rfl)) (hK _ _ hB (Mono.refl _) rfl)
  intro V2 w2 HB2 M2 hφ
  simp only [fillAll, Act.put, List.setIfInBounds_toArray, List.set_cons_zero, List.set_cons_succ]
  replace R6 := R6.mono M2
  replace R7 := R7.mono M2
  replace R8 := R8.mono M2
  replace R9 := R9.mono M2
  replace CV := CV.mono M2
  replace dR6 := dR6.mono M2
  replace dR7 := dR7.mono M2
  replace dR8 := dR8.mono M2
  replace dR9 := dR9.mono M2
  replace dCV := dCV.mono M2
  replace C2 := C2.mono M2
  replace C3 := C3.mono M2
  have z9 : V2 0 = .bool true := hφ 0 _ rfl (by decide)
  have z10 : V2 1 = .bool false := hφ 1 _ rfl (by decide)
  have z11 : V2 2 = .bool false := hφ 2 _ rfl (by decide)
  have z12 : V2 3 = .agg #[.int .i64 c.fr, .int .i64 c.tt, .int .u32 c.tid, .int .u32 c.key, .int .u64 c.lo, .int .u64 c.hi, .slice A6 c.pub.length c6, .slice A7 c.ct.length c7, .slice A8 c.sl.length c8, .slice A9 c.sig.length c9] := hφ 3 _ rfl (by decide)
  have z13 : V2 4 = .bool true := hφ 4 _ rfl (by decide)
  have z14 : V2 5 = .bool true := hφ 5 _ rfl (by decide)
  have z15 : V2 6 = .bool true := hφ 6 _ rfl (by decide)
  have z16 : V2 7 = undef := hφ 7 _ rfl (by decide)
  have z17 : V2 8 = undef := hφ 8 _ rfl (by decide)
  have z18 : V2 9 = .bool true := hφ 9 _ rfl (by decide)
  simp only [z9, z10, z11, z12, z13, z14, z15, z16, z17, z18]
  clear hφ
  (try simp only [Exit.inBlock, Exit.then])
  repeat (refine wp_seq ?_)
  (try simp only [Exit.inBlock, Exit.then])
  refine wp_cond_true rfl ?_
  (try simp only [Exit.inBlock, Exit.then])
  repeat (refine wp_seq ?_)
  refine rgs (B := w.heap.size) (w0 := w) [19, 4] [isV (.bool true), isV (.bool true)] rfl (by decide) rfl HB2 ?_ ?_ ?_
  · exact (stb_cons (stb_V _) (stb_cons (stb_V _) stb_nil))
  ·refine stepf_cons ?_ (stepf_cons ?_ stepf_nil)
   ·refine stp rfl rfl rfl rfl rfl fun a w' hB hM hoff hp K hK => ?_
    refine op_call Try.func7 (by kernel_rfl) rfl #[] rfl (by simp []) (live_calls _) ?_
    rintro e w1 ⟨u, rfl, hR, hb⟩
    exact ⟨u, rfl, hK _ _ (below_then hB hB.size hb) (Mono.of_below hb) hR⟩
   ·refine stp rfl rfl rfl rfl rfl fun a w' hB hM hoff hp K hK => ?_
    obtain ⟨_, e19, rfl⟩ := hp 0 rfl 19 _ rfl rfl
    exact op_val (by first | (go_simp; done) | (go_simp; rfl)) (hK _ _ hB (Mono.refl _) rfl)
  intro V3 w3 HB3 M3 hφ
  simp only [fillAll, Act.put, List.setIfInBounds_toArray, List.set_cons_zero, List.set_cons_succ]
  replace R6 := R6.mono M3
  replace R7 := R7.mono M3
  replace R8 := R8.mono M3
  replace R9 := R9.mono M3
  replace CV := CV.mono M3
  replace dR6 := dR6.mono M3
  replace dR7 := dR7.mono M3
  replace dR8 := dR8.mono M3
  replace dR9 := dR9.mono M3
  replace dCV := dCV.mono M3
  replace C2 := C2.mono M3
  replace C3 := C3.mono M3
  have z19 : V3 0 = .bool true := hφ 0 _ rfl (by decide)
  have z4 : V3 1 = .bool true := hφ 1 _ rfl (by decide)
  simp only [z19, z4]
  clear hφ
  (try simp only [Exit.inBlock, Exit.then])
  repeat (refine wp_seq ?_)
  (try simp only [Exit.inBlock, Exit.then])
  refine wp_ret ?_
  (try simp only [Exit.inBlock, Exit.then])
  go_ret
  exact ⟨_, rfl, rfl, HB3⟩
set_option maxHeartbeats 2000000 in
set_option maxRecDepth 100000 in
theorem puts_bigd (c d : Cp) (ho : c.Ok) (hdo : d.Ok) (v v2 : Value) (w : World) (hv : CapV 0 w v c) (hw : CapV 0 w v2 d) (hc : ¬ (9000 < c.pub.length ∨ 9000 < c.ct.length ∨ 9000 < c.sl.length ∨ 9000 < c.sig.length)) (hd : (9000 < d.pub.length ∨ 9000 < d.ct.length ∨ 9000 < d.sl.length ∨ 9000 < d.sig.length)) : Ret 4 #[v, v2] w (isV (.bool true)) := by
  obtain ⟨_, _, _, _, rfl, ⟨A6, c6, rfl, l6, r6, _⟩, ⟨A7, c7, rfl, l7, r7, _⟩, ⟨A8, c8, rfl, l8, r8, _⟩, ⟨A9, c9, rfl, l9, r9, _⟩⟩ := hv
  have R6 : Row 0 w (.slice A6 c.pub.length c6) c.pub := Row.of_C r6 l6
  have R7 : Row 0 w (.slice A7 c.ct.length c7) c.ct := Row.of_C r7 l7
  have R8 : Row 0 w (.slice A8 c.sl.length c8) c.sl := Row.of_C r8 l8
  have R9 : Row 0 w (.slice A9 c.sig.length c9) c.sig := Row.of_C r9 l9
  have CV : CapV 0 w (.agg #[.int .i64 c.fr, .int .i64 c.tt, .int .u32 c.tid, .int .u32 c.key, .int .u64 c.lo, .int .u64 c.hi, .slice A6 c.pub.length c6, .slice A7 c.ct.length c7, .slice A8 c.sl.length c8, .slice A9 c.sig.length c9]) c := ⟨_, _, _, _, rfl, R6, R7, R8, R9⟩
  obtain ⟨_, _, _, _, rfl, ⟨dA6, dc6, rfl, dl6, dr6, _⟩, ⟨dA7, dc7, rfl, dl7, dr7, _⟩, ⟨dA8, dc8, rfl, dl8, dr8, _⟩, ⟨dA9, dc9, rfl, dl9, dr9, _⟩⟩ := hw
  have dR6 : Row 0 w (.slice dA6 d.pub.length dc6) d.pub := Row.of_C dr6 dl6
  have dR7 : Row 0 w (.slice dA7 d.ct.length dc7) d.ct := Row.of_C dr7 dl7
  have dR8 : Row 0 w (.slice dA8 d.sl.length dc8) d.sl := Row.of_C dr8 dl8
  have dR9 : Row 0 w (.slice dA9 d.sig.length dc9) d.sig := Row.of_C dr9 dl9
  have dCV : CapV 0 w (.agg #[.int .i64 d.fr, .int .i64 d.tt, .int .u32 d.tid, .int .u32 d.key, .int .u64 d.lo, .int .u64 d.hi, .slice dA6 d.pub.length dc6, .slice dA7 d.ct.length dc7, .slice dA8 d.sl.length dc8, .slice dA9 d.sig.length dc9]) d := ⟨_, _, _, _, rfl, dR6, dR7, dR8, dR9⟩
  go_enter Try.func4, Try.ntmps4
  have HBw : Below w.heap.size w w := Below.refl _ _
  (try simp only [Exit.inBlock, Exit.then])
  repeat (refine wp_seq ?_)
  refine rgs (B := w.heap.size) (w0 := w) [2, 3, 4] [isBox w.heap.size [.int .i64 c.fr, .int .i64 c.tt, .int .u32 c.tid, .int .u32 c.key, .int .u64 c.lo, .int .u64 c.hi, .slice A6 c.pub.length c6, .slice A7 c.ct.length c7, .slice A8 c.sl.length c8, .slice A9 c.sig.length c9], isBox w.heap.size [.int .i64 d.fr, .int .i64 d.tt, .int .u32 d.tid, .int .u32 d.key, .int .u64 d.lo, .int .u64 d.hi, .slice dA6 d.pub.length dc6, .slice dA7 d.ct.length dc7, .slice dA8 d.sl.length dc8, .slice dA9 d.sig.length dc9], isV (.bool false)] rfl (by decide) rfl HBw ?_ ?_ ?_
  · exact (stb_cons (stb_Box _ _) (stb_cons (stb_Box _ _) (stb_cons (stb_V _) stb_nil)))
  ·refine stepf_cons ?_ (stepf_cons ?_ (stepf_cons ?_ stepf_nil))
   ·refine stp rfl rfl rfl rfl rfl fun a w' hB hM hoff hp K hK => ?_
    have e0 : a.tmps[0]? = some (.agg #[.int .i64 c.fr, .int .i64 c.tt, .int .u32 c.tid, .int .u32 c.key, .int .u64 c.lo, .int .u64 c.hi, .slice A6 c.pub.length c6, .slice A7 c.ct.length c7, .slice A8 c.sl.length c8, .slice A9 c.sig.length c9]) := (hoff 0 rfl).trans rfl
    have hu := Try.underlying28
    have hu2 := Try.underlying25
    refine op_val (v := .pointer (some ⟨w'.heap.size, 0, none⟩)) (w' := w'.alloc (.cells #[.int .i64 c.fr, .int .i64 c.tt, .int .u32 c.tid, .int .u32 c.key, .int .u64 c.lo, .int .u64 c.hi, .slice A6 c.pub.length c6, .slice A7 c.ct.length c7, .slice A8 c.sl.length c8, .slice A9 c.sig.length c9] 28)) (by first | (go_simp; done) | (go_simp; rfl)) (hK _ _ (below_then hB hB.size (below_alloc (Below.refl _ _) _)) (Mono.alloc _ _) ?_)
    exact ⟨_, rfl, hB.size, boxAt_alloc _ _ [.int .i64 c.fr, .int .i64 c.tt, .int .u32 c.tid, .int .u32 c.key, .int .u64 c.lo, .int .u64 c.hi, .slice A6 c.pub.length c6, .slice A7 c.ct.length c7, .slice A8 c.sl.length c8, .slice A9 c.sig.length c9]⟩
   ·refine stp rfl rfl rfl rfl rfl fun a w' hB hM hoff hp K hK => ?_
    have e1 : a.tmps[1]? = some (.agg #[.int .i64 d.fr, .int .i64 d.tt, .int .u32 d.tid, .int .u32 d.key, .int .u64 d.lo, .int .u64 d.hi, .slice dA6 d.pub.length dc6, .slice dA7 d.ct.length dc7, .slice dA8 d.sl.length dc8, .slice dA9 d.sig.length dc9]) := (hoff 1 rfl).trans rfl
    have hu := Try.underlying28
    have hu2 := Try.underlying25
    refine op_val (v := .pointer (some ⟨w'.heap.size, 0, none⟩)) (w' := w'.alloc (.cells #[.int .i64 d.fr, .int .i64 d.tt, .int .u32 d.tid, .int .u32 d.key, .int .u64 d.lo, .int .u64 d.hi, .slice dA6 d.pub.length dc6, .slice dA7 d.ct.length dc7, .slice dA8 d.sl.length dc8, .slice dA9 d.sig.length dc9] 28)) (by first | (go_simp; done) | (go_simp; rfl)) (hK _ _ (below_then hB hB.size (below_alloc (Below.refl _ _) _)) (Mono.alloc _ _) ?_)
    exact ⟨_, rfl, hB.size, boxAt_alloc _ _ [.int .i64 d.fr, .int .i64 d.tt, .int .u32 d.tid, .int .u32 d.key, .int .u64 d.lo, .int .u64 d.hi, .slice dA6 d.pub.length dc6, .slice dA7 d.ct.length dc7, .slice dA8 d.sl.length dc8, .slice dA9 d.sig.length dc9]⟩
   ·refine stp rfl rfl rfl rfl rfl fun a w' hB hM hoff hp K hK => ?_
    exact op_val (by first | (go_simp; done) | (go_simp; rfl)) (hK _ _ hB (Mono.refl _) rfl)
  intro V1 w1 HB1 M1 hφ
  simp only [fillAll, Act.put, List.setIfInBounds_toArray, List.set_cons_zero, List.set_cons_succ]
  replace R6 := R6.mono M1
  replace R7 := R7.mono M1
  replace R8 := R8.mono M1
  replace R9 := R9.mono M1
  replace CV := CV.mono M1
  replace dR6 := dR6.mono M1
  replace dR7 := dR7.mono M1
  replace dR8 := dR8.mono M1
  replace dR9 := dR9.mono M1
  replace dCV := dCV.mono M1
  obtain ⟨b4_2, z2, hb2, C2⟩ := hφ 0 _ rfl (by decide)
  obtain ⟨b4_3, z3, hb3, C3⟩ := hφ 1 _ rfl (by decide)
  have z4 : V1 2 = .bool false := hφ 2 _ rfl (by decide)
  simp only [z2, z3, z4]
  clear hφ
  (try simp only [Exit.inBlock, Exit.then])
  repeat (refine wp_seq ?_)
  refine rgs (B := w.heap.size) (w0 := w) [9, 10, 11, 12, 13, 14, 15, 16, 17, 18] [isV (.bool true), isV (.bool false), isV (.bool false), isV (.agg #[.int .i64 c.fr, .int .i64 c.tt, .int .u32 c.tid, .int .u32 c.key, .int .u64 c.lo, .int .u64 c.hi, .slice A6 c.pub.length c6, .slice A7 c.ct.length c7, .slice A8 c.sl.length c8, .slice A9 c.sig.length c9]), isV (.bool false), isV (.bool false), isV (.bool false), isV (.agg #[.int .i64 d.fr, .int .i64 d.tt, .int .u32 d.tid, .int .u32 d.key, .int .u64 d.lo, .int .u64 d.hi, .slice dA6 d.pub.length dc6, .slice dA7 d.ct.length dc7, .slice dA8 d.sl.length dc8, .slice dA9 d.sig.length dc9]), isV (.bool true), isV (.bool true)] rfl (by decide) rfl HB1 ?_ ?_ ?_
  · exact (stb_cons (stb_V _) (stb_cons (stb_V _) (stb_cons (stb_V _) (stb_cons (stb_V _) (stb_cons (stb_V _) (stb_cons (stb_V _) (stb_cons (stb_V _) (stb_cons (stb_V _) (stb_cons (stb_V _) (stb_cons (stb_V _) stb_nil))))))))))
  ·refine stepf_cons ?_ (stepf_cons ?_ (stepf_cons ?_ (stepf_cons ?_ (stepf_cons ?_ (stepf_cons ?_ (stepf_cons ?_ (stepf_cons ?_ (stepf_cons ?_ (stepf_cons ?_ stepf_nil)))))))))
   ·refine stp rfl rfl rfl rfl rfl fun a w' hB hM hoff hp K hK => ?_
    refine op_call Try.func7 (by kernel_rfl) rfl #[] rfl (by simp []) (live_calls _) ?_
    rintro e w1 ⟨u, rfl, hR, hb⟩
    exact ⟨u, rfl, hK _ _ (below_then hB hB.size hb) (Mono.of_below hb) hR⟩
   ·refine stp rfl rfl rfl rfl rfl fun a w' hB hM hoff hp K hK => ?_
    obtain ⟨_, e9, rfl⟩ := hp 0 rfl 9 _ rfl rfl
    exact op_val (by first | (go_simp; done) | (go_simp; rfl)) (hK _ _ hB (Mono.refl _) rfl)
   ·refine stp rfl rfl rfl rfl rfl fun a w' hB hM hoff hp K hK => ?_
    obtain ⟨_, e10, rfl⟩ := hp 1 rfl 10 _ rfl rfl
    exact op_val (by first | (go_simp; done) | (go_simp; rfl)) (hK _ _ hB (Mono.refl _) rfl)
   ·refine stpy 2 rfl rfl rfl rfl rfl rfl rfl rfl rfl fun a w' hB hM hoff hp K hK => ?_
    have e2 : a.tmps[2]? = some (.pointer (some ⟨b4_2, 0, none⟩)) := (hoff 2 rfl).trans rfl
    obtain ⟨d0, d1, d2, d3, d4, d5, d6, d7, d8, d9⟩ := (C2.mono hM).ten
    have hu := Try.underlying28
    have hu2 := Try.underlying25
    exact op_val (by first | (go_simp; done) | (go_simp; rfl)) (hK _ _ hB (Mono.refl _) rfl)
   ·refine stpy 2 rfl rfl rfl rfl rfl rfl rfl rfl rfl fun a w' hB hM hoff hp K hK => ?_
    obtain ⟨_, e12, rfl⟩ := hp 3 rfl 12 _ rfl rfl
    refine op_call Try.func8 (by kernel_rfl) rfl #[.agg #[.int .i64 c.fr, .int .i64 c.tt, .int .u32 c.tid, .int .u32 c.key, .int .u64 c.lo, .int .u64 c.hi, .slice A6 c.pub.length c6, .slice A7 c.ct.length c7, .slice A8 c.sl.length c8, .slice A9 c.sig.length c9]] rfl (by simp [ev e12]) (big_calls c _ (decide_eq_false hc) _ _ (CV.mono hM)) ?_
    rintro e w1 ⟨u, rfl, hR, hb⟩
    exact ⟨u, rfl, hK _ _ (below_then hB hB.size hb) (Mono.of_below hb) hR⟩
   ·refine stp rfl rfl rfl rfl rfl fun a w' hB hM hoff hp K hK => ?_
    obtain ⟨_, e11, rfl⟩ := hp 2 rfl 11 _ rfl rfl
    obtain ⟨_, e13, rfl⟩ := hp 4 rfl 13 _ rfl rfl
    exact op_val (by first | (go_simp; done) | (go_simp; rfl)) (hK _ _ hB (Mono.refl _) rfl)
   ·refine stp rfl rfl rfl rfl rfl fun a w' hB hM hoff hp K hK => ?_
    obtain ⟨_, e14, rfl⟩ := hp 5 rfl 14 _ rfl rfl
    exact op_val (by first | (go_simp; done) | (go_simp; rfl)) (hK _ _ hB (Mono.refl _) rfl)
   ·refine stpy 6 rfl rfl rfl rfl rfl rfl rfl rfl rfl fun a w' hB hM hoff hp K hK => ?_
    have e3 : a.tmps[3]? = some (.pointer (some ⟨b4_3, 0, none⟩)) := (hoff 3 rfl).trans rfl
    obtain ⟨d0, d1, d2, d3, d4, d5, d6, d7, d8, d9⟩ := (C3.mono hM).ten
    have hu := Try.underlying28
    have hu2 := Try.underlying25
    exact op_val (by first | (go_simp; done) | (go_simp; rfl)) (hK _ _ hB (Mono.refl _) rfl)
   ·refine stpy 6 rfl rfl rfl rfl rfl rfl rfl rfl rfl fun a w' hB hM hoff hp K hK => ?_
    obtain ⟨_, e16, rfl⟩ := hp 7 rfl 16 _ rfl rfl
    refine op_call Try.func8 (by kernel_rfl) rfl #[.agg #[.int .i64 d.fr, .int .i64 d.tt, .int .u32 d.tid, .int .u32 d.key, .int .u64 d.lo, .int .u64 d.hi, .slice dA6 d.pub.length dc6, .slice dA7 d.ct.length dc7, .slice dA8 d.sl.length dc8, .slice dA9 d.sig.length dc9]] rfl (by simp [ev e16]) (big_calls d _ (decide_eq_true hd) _ _ (dCV.mono hM)) ?_
    rintro e w1 ⟨u, rfl, hR, hb⟩
    exact ⟨u, rfl, hK _ _ (below_then hB hB.size hb) (Mono.of_below hb) hR⟩
   ·refine stp rfl rfl rfl rfl rfl fun a w' hB hM hoff hp K hK => ?_
    obtain ⟨_, e15, rfl⟩ := hp 6 rfl 15 _ rfl rfl
    obtain ⟨_, e17, rfl⟩ := hp 8 rfl 17 _ rfl rfl
    exact op_val (by first | (go_simp; done) | (go_simp; rfl)) (hK _ _ hB (Mono.refl _) rfl)
  intro V2 w2 HB2 M2 hφ
  simp only [fillAll, Act.put, List.setIfInBounds_toArray, List.set_cons_zero, List.set_cons_succ]
  replace R6 := R6.mono M2
  replace R7 := R7.mono M2
  replace R8 := R8.mono M2
  replace R9 := R9.mono M2
  replace CV := CV.mono M2
  replace dR6 := dR6.mono M2
  replace dR7 := dR7.mono M2
  replace dR8 := dR8.mono M2
  replace dR9 := dR9.mono M2
  replace dCV := dCV.mono M2
  replace C2 := C2.mono M2
  replace C3 := C3.mono M2
  have z9 : V2 0 = .bool true := hφ 0 _ rfl (by decide)
  have z10 : V2 1 = .bool false := hφ 1 _ rfl (by decide)
  have z11 : V2 2 = .bool false := hφ 2 _ rfl (by decide)
  have z12 : V2 3 = .agg #[.int .i64 c.fr, .int .i64 c.tt, .int .u32 c.tid, .int .u32 c.key, .int .u64 c.lo, .int .u64 c.hi, .slice A6 c.pub.length c6, .slice A7 c.ct.length c7, .slice A8 c.sl.length c8, .slice A9 c.sig.length c9] := hφ 3 _ rfl (by decide)
  have z13 : V2 4 = .bool false := hφ 4 _ rfl (by decide)
  have z14 : V2 5 = .bool false := hφ 5 _ rfl (by decide)
  have z15 : V2 6 = .bool false := hφ 6 _ rfl (by decide)
  have z16 : V2 7 = .agg #[.int .i64 d.fr, .int .i64 d.tt, .int .u32 d.tid, .int .u32 d.key, .int .u64 d.lo, .int .u64 d.hi, .slice dA6 d.pub.length dc6, .slice dA7 d.ct.length dc7, .slice dA8 d.sl.length dc8, .slice dA9 d.sig.length dc9] := hφ 7 _ rfl (by decide)
  have z17 : V2 8 = .bool true := hφ 8 _ rfl (by decide)
  have z18 : V2 9 = .bool true := hφ 9 _ rfl (by decide)
  simp only [z9, z10, z11, z12, z13, z14, z15, z16, z17, z18]
  clear hφ
  (try simp only [Exit.inBlock, Exit.then])
  repeat (refine wp_seq ?_)
  (try simp only [Exit.inBlock, Exit.then])
  refine wp_cond_true rfl ?_
  (try simp only [Exit.inBlock, Exit.then])
  repeat (refine wp_seq ?_)
  refine rgs (B := w.heap.size) (w0 := w) [19, 4] [isV (.bool true), isV (.bool true)] rfl (by decide) rfl HB2 ?_ ?_ ?_
  · exact (stb_cons (stb_V _) (stb_cons (stb_V _) stb_nil))
  ·refine stepf_cons ?_ (stepf_cons ?_ stepf_nil)
   ·refine stp rfl rfl rfl rfl rfl fun a w' hB hM hoff hp K hK => ?_
    refine op_call Try.func7 (by kernel_rfl) rfl #[] rfl (by simp []) (live_calls _) ?_
    rintro e w1 ⟨u, rfl, hR, hb⟩
    exact ⟨u, rfl, hK _ _ (below_then hB hB.size hb) (Mono.of_below hb) hR⟩
   ·refine stp rfl rfl rfl rfl rfl fun a w' hB hM hoff hp K hK => ?_
    obtain ⟨_, e19, rfl⟩ := hp 0 rfl 19 _ rfl rfl
    exact op_val (by first | (go_simp; done) | (go_simp; rfl)) (hK _ _ hB (Mono.refl _) rfl)
  intro V3 w3 HB3 M3 hφ
  simp only [fillAll, Act.put, List.setIfInBounds_toArray, List.set_cons_zero, List.set_cons_succ]
  replace R6 := R6.mono M3
  replace R7 := R7.mono M3
  replace R8 := R8.mono M3
  replace R9 := R9.mono M3
  replace CV := CV.mono M3
  replace dR6 := dR6.mono M3
  replace dR7 := dR7.mono M3
  replace dR8 := dR8.mono M3
  replace dR9 := dR9.mono M3
  replace dCV := dCV.mono M3
  replace C2 := C2.mono M3
  replace C3 := C3.mono M3
  have z19 : V3 0 = .bool true := hφ 0 _ rfl (by decide)
  have z4 : V3 1 = .bool true := hφ 1 _ rfl (by decide)
  simp only [z19, z4]
  clear hφ
  (try simp only [Exit.inBlock, Exit.then])
  repeat (refine wp_seq ?_)
  (try simp only [Exit.inBlock, Exit.then])
  refine wp_ret ?_
  (try simp only [Exit.inBlock, Exit.then])
  go_ret
  exact ⟨_, rfl, rfl, HB3⟩
set_option maxHeartbeats 2000000 in
set_option maxRecDepth 100000 in
theorem puts_may (c d : Cp) (ho : c.Ok) (hd : d.Ok) (v v2 : Value) (w : World) (hv : CapV 0 w v c) (hw : CapV 0 w v2 d) (hc : ¬ (9000 < c.pub.length ∨ 9000 < c.ct.length ∨ 9000 < c.sl.length ∨ 9000 < c.sig.length)) (hdb : ¬ (9000 < d.pub.length ∨ 9000 < d.ct.length ∨ 9000 < d.sl.length ∨ 9000 < d.sig.length)) (h : c.May) : Ret 4 #[v, v2] w (isV (.bool true)) := by
  obtain ⟨_, _, _, _, rfl, ⟨A6, c6, rfl, l6, r6, _⟩, ⟨A7, c7, rfl, l7, r7, _⟩, ⟨A8, c8, rfl, l8, r8, _⟩, ⟨A9, c9, rfl, l9, r9, _⟩⟩ := hv
  have R6 : Row 0 w (.slice A6 c.pub.length c6) c.pub := Row.of_C r6 l6
  have R7 : Row 0 w (.slice A7 c.ct.length c7) c.ct := Row.of_C r7 l7
  have R8 : Row 0 w (.slice A8 c.sl.length c8) c.sl := Row.of_C r8 l8
  have R9 : Row 0 w (.slice A9 c.sig.length c9) c.sig := Row.of_C r9 l9
  have CV : CapV 0 w (.agg #[.int .i64 c.fr, .int .i64 c.tt, .int .u32 c.tid, .int .u32 c.key, .int .u64 c.lo, .int .u64 c.hi, .slice A6 c.pub.length c6, .slice A7 c.ct.length c7, .slice A8 c.sl.length c8, .slice A9 c.sig.length c9]) c := ⟨_, _, _, _, rfl, R6, R7, R8, R9⟩
  obtain ⟨_, _, _, _, rfl, ⟨dA6, dc6, rfl, dl6, dr6, _⟩, ⟨dA7, dc7, rfl, dl7, dr7, _⟩, ⟨dA8, dc8, rfl, dl8, dr8, _⟩, ⟨dA9, dc9, rfl, dl9, dr9, _⟩⟩ := hw
  have dR6 : Row 0 w (.slice dA6 d.pub.length dc6) d.pub := Row.of_C dr6 dl6
  have dR7 : Row 0 w (.slice dA7 d.ct.length dc7) d.ct := Row.of_C dr7 dl7
  have dR8 : Row 0 w (.slice dA8 d.sl.length dc8) d.sl := Row.of_C dr8 dl8
  have dR9 : Row 0 w (.slice dA9 d.sig.length dc9) d.sig := Row.of_C dr9 dl9
  have dCV : CapV 0 w (.agg #[.int .i64 d.fr, .int .i64 d.tt, .int .u32 d.tid, .int .u32 d.key, .int .u64 d.lo, .int .u64 d.hi, .slice dA6 d.pub.length dc6, .slice dA7 d.ct.length dc7, .slice dA8 d.sl.length dc8, .slice dA9 d.sig.length dc9]) d := ⟨_, _, _, _, rfl, dR6, dR7, dR8, dR9⟩
  have hs : c.pub.length < 65536 := by omega
  have hs2 : c.sl.length < 65536 := by omega
  have hs3 : c.ct.length < 65536 := by omega
  have hs4 : c.sig.length < 65536 := by omega
  have h6 : c.pub.length < 10000 := by omega
  have h7 : c.ct.length < 10000 := by omega
  have h8 : c.sl.length < 10000 := by omega
  have h9 : c.sig.length < 10000 := by omega
  go_enter Try.func4, Try.ntmps4
  have HBw : Below w.heap.size w w := Below.refl _ _
  (try simp only [Exit.inBlock, Exit.then])
  repeat (refine wp_seq ?_)
  refine rgs (B := w.heap.size) (w0 := w) [2, 3, 4] [isBox w.heap.size [.int .i64 c.fr, .int .i64 c.tt, .int .u32 c.tid, .int .u32 c.key, .int .u64 c.lo, .int .u64 c.hi, .slice A6 c.pub.length c6, .slice A7 c.ct.length c7, .slice A8 c.sl.length c8, .slice A9 c.sig.length c9], isBox w.heap.size [.int .i64 d.fr, .int .i64 d.tt, .int .u32 d.tid, .int .u32 d.key, .int .u64 d.lo, .int .u64 d.hi, .slice dA6 d.pub.length dc6, .slice dA7 d.ct.length dc7, .slice dA8 d.sl.length dc8, .slice dA9 d.sig.length dc9], isV (.bool false)] rfl (by decide) rfl HBw ?_ ?_ ?_
  · exact (stb_cons (stb_Box _ _) (stb_cons (stb_Box _ _) (stb_cons (stb_V _) stb_nil)))
  ·refine stepf_cons ?_ (stepf_cons ?_ (stepf_cons ?_ stepf_nil))
   ·refine stp rfl rfl rfl rfl rfl fun a w' hB hM hoff hp K hK => ?_
    have e0 : a.tmps[0]? = some (.agg #[.int .i64 c.fr, .int .i64 c.tt, .int .u32 c.tid, .int .u32 c.key, .int .u64 c.lo, .int .u64 c.hi, .slice A6 c.pub.length c6, .slice A7 c.ct.length c7, .slice A8 c.sl.length c8, .slice A9 c.sig.length c9]) := (hoff 0 rfl).trans rfl
    have hu := Try.underlying28
    have hu2 := Try.underlying25
    refine op_val (v := .pointer (some ⟨w'.heap.size, 0, none⟩)) (w' := w'.alloc (.cells #[.int .i64 c.fr, .int .i64 c.tt, .int .u32 c.tid, .int .u32 c.key, .int .u64 c.lo, .int .u64 c.hi, .slice A6 c.pub.length c6, .slice A7 c.ct.length c7, .slice A8 c.sl.length c8, .slice A9 c.sig.length c9] 28)) (by first | (go_simp; done) | (go_simp; rfl)) (hK _ _ (below_then hB hB.size (below_alloc (Below.refl _ _) _)) (Mono.alloc _ _) ?_)
    exact ⟨_, rfl, hB.size, boxAt_alloc _ _ [.int .i64 c.fr, .int .i64 c.tt, .int .u32 c.tid, .int .u32 c.key, .int .u64 c.lo, .int .u64 c.hi, .slice A6 c.pub.length c6, .slice A7 c.ct.length c7, .slice A8 c.sl.length c8, .slice A9 c.sig.length c9]⟩
   ·refine stp rfl rfl rfl rfl rfl fun a w' hB hM hoff hp K hK => ?_
    have e1 : a.tmps[1]? = some (.agg #[.int .i64 d.fr, .int .i64 d.tt, .int .u32 d.tid, .int .u32 d.key, .int .u64 d.lo, .int .u64 d.hi, .slice dA6 d.pub.length dc6, .slice dA7 d.ct.length dc7, .slice dA8 d.sl.length dc8, .slice dA9 d.sig.length dc9]) := (hoff 1 rfl).trans rfl
    have hu := Try.underlying28
    have hu2 := Try.underlying25
    refine op_val (v := .pointer (some ⟨w'.heap.size, 0, none⟩)) (w' := w'.alloc (.cells #[.int .i64 d.fr, .int .i64 d.tt, .int .u32 d.tid, .int .u32 d.key, .int .u64 d.lo, .int .u64 d.hi, .slice dA6 d.pub.length dc6, .slice dA7 d.ct.length dc7, .slice dA8 d.sl.length dc8, .slice dA9 d.sig.length dc9] 28)) (by first | (go_simp; done) | (go_simp; rfl)) (hK _ _ (below_then hB hB.size (below_alloc (Below.refl _ _) _)) (Mono.alloc _ _) ?_)
    exact ⟨_, rfl, hB.size, boxAt_alloc _ _ [.int .i64 d.fr, .int .i64 d.tt, .int .u32 d.tid, .int .u32 d.key, .int .u64 d.lo, .int .u64 d.hi, .slice dA6 d.pub.length dc6, .slice dA7 d.ct.length dc7, .slice dA8 d.sl.length dc8, .slice dA9 d.sig.length dc9]⟩
   ·refine stp rfl rfl rfl rfl rfl fun a w' hB hM hoff hp K hK => ?_
    exact op_val (by first | (go_simp; done) | (go_simp; rfl)) (hK _ _ hB (Mono.refl _) rfl)
  intro V1 w1 HB1 M1 hφ
  simp only [fillAll, Act.put, List.setIfInBounds_toArray, List.set_cons_zero, List.set_cons_succ]
  replace R6 := R6.mono M1
  replace R7 := R7.mono M1
  replace R8 := R8.mono M1
  replace R9 := R9.mono M1
  replace CV := CV.mono M1
  replace dR6 := dR6.mono M1
  replace dR7 := dR7.mono M1
  replace dR8 := dR8.mono M1
  replace dR9 := dR9.mono M1
  replace dCV := dCV.mono M1
  obtain ⟨b4_2, z2, hb2, C2⟩ := hφ 0 _ rfl (by decide)
  obtain ⟨b4_3, z3, hb3, C3⟩ := hφ 1 _ rfl (by decide)
  have z4 : V1 2 = .bool false := hφ 2 _ rfl (by decide)
  simp only [z2, z3, z4]
  clear hφ
  (try simp only [Exit.inBlock, Exit.then])
  repeat (refine wp_seq ?_)
  refine rgs (B := w.heap.size) (w0 := w) [9, 10, 11, 12, 13, 14, 15, 16, 17, 18] [isV (.bool true), isV (.bool false), isV (.bool false), isV (.agg #[.int .i64 c.fr, .int .i64 c.tt, .int .u32 c.tid, .int .u32 c.key, .int .u64 c.lo, .int .u64 c.hi, .slice A6 c.pub.length c6, .slice A7 c.ct.length c7, .slice A8 c.sl.length c8, .slice A9 c.sig.length c9]), isV (.bool false), isV (.bool false), isV (.bool false), isV (.agg #[.int .i64 d.fr, .int .i64 d.tt, .int .u32 d.tid, .int .u32 d.key, .int .u64 d.lo, .int .u64 d.hi, .slice dA6 d.pub.length dc6, .slice dA7 d.ct.length dc7, .slice dA8 d.sl.length dc8, .slice dA9 d.sig.length dc9]), isV (.bool false), isV (.bool false)] rfl (by decide) rfl HB1 ?_ ?_ ?_
  · exact (stb_cons (stb_V _) (stb_cons (stb_V _) (stb_cons (stb_V _) (stb_cons (stb_V _) (stb_cons (stb_V _) (stb_cons (stb_V _) (stb_cons (stb_V _) (stb_cons (stb_V _) (stb_cons (stb_V _) (stb_cons (stb_V _) stb_nil))))))))))
  ·refine stepf_cons ?_ (stepf_cons ?_ (stepf_cons ?_ (stepf_cons ?_ (stepf_cons ?_ (stepf_cons ?_ (stepf_cons ?_ (stepf_cons ?_ (stepf_cons ?_ (stepf_cons ?_ stepf_nil)))))))))
   ·refine stp rfl rfl rfl rfl rfl fun a w' hB hM hoff hp K hK => ?_
    refine op_call Try.func7 (by kernel_rfl) rfl #[] rfl (by simp []) (live_calls _) ?_
    rintro e w1 ⟨u, rfl, hR, hb⟩
    exact ⟨u, rfl, hK _ _ (below_then hB hB.size hb) (Mono.of_below hb) hR⟩
   ·refine stp rfl rfl rfl rfl rfl fun a w' hB hM hoff hp K hK => ?_
    obtain ⟨_, e9, rfl⟩ := hp 0 rfl 9 _ rfl rfl
    exact op_val (by first | (go_simp; done) | (go_simp; rfl)) (hK _ _ hB (Mono.refl _) rfl)
   ·refine stp rfl rfl rfl rfl rfl fun a w' hB hM hoff hp K hK => ?_
    obtain ⟨_, e10, rfl⟩ := hp 1 rfl 10 _ rfl rfl
    exact op_val (by first | (go_simp; done) | (go_simp; rfl)) (hK _ _ hB (Mono.refl _) rfl)
   ·refine stpy 2 rfl rfl rfl rfl rfl rfl rfl rfl rfl fun a w' hB hM hoff hp K hK => ?_
    have e2 : a.tmps[2]? = some (.pointer (some ⟨b4_2, 0, none⟩)) := (hoff 2 rfl).trans rfl
    obtain ⟨d0, d1, d2, d3, d4, d5, d6, d7, d8, d9⟩ := (C2.mono hM).ten
    have hu := Try.underlying28
    have hu2 := Try.underlying25
    exact op_val (by first | (go_simp; done) | (go_simp; rfl)) (hK _ _ hB (Mono.refl _) rfl)
   ·refine stpy 2 rfl rfl rfl rfl rfl rfl rfl rfl rfl fun a w' hB hM hoff hp K hK => ?_
    obtain ⟨_, e12, rfl⟩ := hp 3 rfl 12 _ rfl rfl
    refine op_call Try.func8 (by kernel_rfl) rfl #[.agg #[.int .i64 c.fr, .int .i64 c.tt, .int .u32 c.tid, .int .u32 c.key, .int .u64 c.lo, .int .u64 c.hi, .slice A6 c.pub.length c6, .slice A7 c.ct.length c7, .slice A8 c.sl.length c8, .slice A9 c.sig.length c9]] rfl (by simp [ev e12]) (big_calls c _ (decide_eq_false hc) _ _ (CV.mono hM)) ?_
    rintro e w1 ⟨u, rfl, hR, hb⟩
    exact ⟨u, rfl, hK _ _ (below_then hB hB.size hb) (Mono.of_below hb) hR⟩
   ·refine stp rfl rfl rfl rfl rfl fun a w' hB hM hoff hp K hK => ?_
    obtain ⟨_, e11, rfl⟩ := hp 2 rfl 11 _ rfl rfl
    obtain ⟨_, e13, rfl⟩ := hp 4 rfl 13 _ rfl rfl
    exact op_val (by first | (go_simp; done) | (go_simp; rfl)) (hK _ _ hB (Mono.refl _) rfl)
   ·refine stp rfl rfl rfl rfl rfl fun a w' hB hM hoff hp K hK => ?_
    obtain ⟨_, e14, rfl⟩ := hp 5 rfl 14 _ rfl rfl
    exact op_val (by first | (go_simp; done) | (go_simp; rfl)) (hK _ _ hB (Mono.refl _) rfl)
   ·refine stpy 6 rfl rfl rfl rfl rfl rfl rfl rfl rfl fun a w' hB hM hoff hp K hK => ?_
    have e3 : a.tmps[3]? = some (.pointer (some ⟨b4_3, 0, none⟩)) := (hoff 3 rfl).trans rfl
    obtain ⟨d0, d1, d2, d3, d4, d5, d6, d7, d8, d9⟩ := (C3.mono hM).ten
    have hu := Try.underlying28
    have hu2 := Try.underlying25
    exact op_val (by first | (go_simp; done) | (go_simp; rfl)) (hK _ _ hB (Mono.refl _) rfl)
   ·refine stpy 6 rfl rfl rfl rfl rfl rfl rfl rfl rfl fun a w' hB hM hoff hp K hK => ?_
    obtain ⟨_, e16, rfl⟩ := hp 7 rfl 16 _ rfl rfl
    refine op_call Try.func8 (by kernel_rfl) rfl #[.agg #[.int .i64 d.fr, .int .i64 d.tt, .int .u32 d.tid, .int .u32 d.key, .int .u64 d.lo, .int .u64 d.hi, .slice dA6 d.pub.length dc6, .slice dA7 d.ct.length dc7, .slice dA8 d.sl.length dc8, .slice dA9 d.sig.length dc9]] rfl (by simp [ev e16]) (big_calls d _ (decide_eq_false hdb) _ _ (dCV.mono hM)) ?_
    rintro e w1 ⟨u, rfl, hR, hb⟩
    exact ⟨u, rfl, hK _ _ (below_then hB hB.size hb) (Mono.of_below hb) hR⟩
   ·refine stp rfl rfl rfl rfl rfl fun a w' hB hM hoff hp K hK => ?_
    obtain ⟨_, e15, rfl⟩ := hp 6 rfl 15 _ rfl rfl
    obtain ⟨_, e17, rfl⟩ := hp 8 rfl 17 _ rfl rfl
    exact op_val (by first | (go_simp; done) | (go_simp; rfl)) (hK _ _ hB (Mono.refl _) rfl)
  intro V2 w2 HB2 M2 hφ
  simp only [fillAll, Act.put, List.setIfInBounds_toArray, List.set_cons_zero, List.set_cons_succ]
  replace R6 := R6.mono M2
  replace R7 := R7.mono M2
  replace R8 := R8.mono M2
  replace R9 := R9.mono M2
  replace CV := CV.mono M2
  replace dR6 := dR6.mono M2
  replace dR7 := dR7.mono M2
  replace dR8 := dR8.mono M2
  replace dR9 := dR9.mono M2
  replace dCV := dCV.mono M2
  replace C2 := C2.mono M2
  replace C3 := C3.mono M2
  have z9 : V2 0 = .bool true := hφ 0 _ rfl (by decide)
  have z10 : V2 1 = .bool false := hφ 1 _ rfl (by decide)
  have z11 : V2 2 = .bool false := hφ 2 _ rfl (by decide)
  have z12 : V2 3 = .agg #[.int .i64 c.fr, .int .i64 c.tt, .int .u32 c.tid, .int .u32 c.key, .int .u64 c.lo, .int .u64 c.hi, .slice A6 c.pub.length c6, .slice A7 c.ct.length c7, .slice A8 c.sl.length c8, .slice A9 c.sig.length c9] := hφ 3 _ rfl (by decide)
  have z13 : V2 4 = .bool false := hφ 4 _ rfl (by decide)
  have z14 : V2 5 = .bool false := hφ 5 _ rfl (by decide)
  have z15 : V2 6 = .bool false := hφ 6 _ rfl (by decide)
  have z16 : V2 7 = .agg #[.int .i64 d.fr, .int .i64 d.tt, .int .u32 d.tid, .int .u32 d.key, .int .u64 d.lo, .int .u64 d.hi, .slice dA6 d.pub.length dc6, .slice dA7 d.ct.length dc7, .slice dA8 d.sl.length dc8, .slice dA9 d.sig.length dc9] := hφ 7 _ rfl (by decide)
  have z17 : V2 8 = .bool false := hφ 8 _ rfl (by decide)
  have z18 : V2 9 = .bool false := hφ 9 _ rfl (by decide)
  simp only [z9, z10, z11, z12, z13, z14, z15, z16, z17, z18]
  clear hφ
  (try simp only [Exit.inBlock, Exit.then])
  repeat (refine wp_seq ?_)
  (try simp only [Exit.inBlock, Exit.then])
  refine wp_cond_false rfl ?_
  refine wp_skip ?_
  (try simp only [Exit.inBlock, Exit.then])
  repeat (refine wp_seq ?_)
  refine rgs (B := w.heap.size) (w0 := w) [21, 22, 20, 23, 24, 5, 6] [isV (.agg #[.int .i64 c.fr, .int .i64 c.tt, .int .u32 c.tid, .int .u32 c.key, .int .u64 c.lo, .int .u64 c.hi, .slice A6 c.pub.length c6, .slice A7 c.ct.length c7, .slice A8 c.sl.length c8, .slice A9 c.sig.length c9]), isTup w.heap.size c.putl 0, isTup w.heap.size c.putl 0, isRow w.heap.size c.putl, isV (.int .i64 0), isRow w.heap.size c.putl, isV (.int .i64 0)] rfl (by decide) rfl HB2 ?_ ?_ ?_
  · exact (stb_cons (stb_V _) (stb_cons (stb_Tup _ _ _) (stb_cons (stb_Tup _ _ _) (stb_cons (stb_Row _ _) (stb_cons (stb_V _) (stb_cons (stb_Row _ _) (stb_cons (stb_V _) stb_nil)))))))
  ·refine stepf_cons ?_ (stepf_cons ?_ (stepf_cons ?_ (stepf_cons ?_ (stepf_cons ?_ (stepf_cons ?_ (stepf_cons ?_ stepf_nil))))))
   ·refine stp rfl rfl rfl rfl rfl fun a w' hB hM hoff hp K hK => ?_
    have e2 : a.tmps[2]? = some (.pointer (some ⟨b4_2, 0, none⟩)) := (hoff 2 rfl).trans rfl
    obtain ⟨d0, d1, d2, d3, d4, d5, d6, d7, d8, d9⟩ := (C2.mono hM).ten
    have hu := Try.underlying28
    have hu2 := Try.underlying25
    exact op_val (by first | (go_simp; done) | (go_simp; rfl)) (hK _ _ hB (Mono.refl _) rfl)
   ·refine stp rfl rfl rfl rfl rfl fun a w' hB hM hoff hp K hK => ?_
    obtain ⟨_, e21, rfl⟩ := hp 0 rfl 21 _ rfl rfl
    refine op_call Try.func13 (by kernel_rfl) rfl #[.agg #[.int .i64 c.fr, .int .i64 c.tt, .int .u32 c.tid, .int .u32 c.key, .int .u64 c.lo, .int .u64 c.hi, .slice A6 c.pub.length c6, .slice A7 c.ct.length c7, .slice A8 c.sl.length c8, .slice A9 c.sig.length c9]] rfl (by simp [ev e21]) ((put_calls c ho hs hs2 hs3 hs4 _ _ (CV.mono hM)).mono (fun e w' h3 => by rw [may_err h] at h3; exact h3)) ?_
    rintro e w1 ⟨u, rfl, hR, hb⟩
    exact ⟨u, rfl, hK _ _ (below_then hB hB.size hb) (Mono.of_below hb) (let ⟨u, h1, h2⟩ := hR; ⟨u, h1, h2.lower hB.size⟩)⟩
   ·refine stp rfl rfl rfl rfl rfl fun a w' hB hM hoff hp K hK => ?_
    obtain ⟨v22, e22, h22⟩ := hp 1 rfl 22 _ rfl rfl
    exact op_val (by first | (go_simp; done) | (go_simp; rfl)) (hK _ _ hB (Mono.refl _) h22)
   ·refine stp rfl rfl rfl rfl rfl fun a w' hB hM hoff hp K hK => ?_
    obtain ⟨v20, e20, h20⟩ := hp 2 rfl 20 _ rfl rfl
    obtain ⟨u, ev, hR⟩ := h20
    subst ev
    exact op_val (by first | (go_simp; done) | (go_simp; rfl)) (hK _ _ hB (Mono.refl _) hR)
   ·refine stp rfl rfl rfl rfl rfl fun a w' hB hM hoff hp K hK => ?_
    obtain ⟨v20, e20, h20⟩ := hp 2 rfl 20 _ rfl rfl
    obtain ⟨u, ev, hR⟩ := h20
    subst ev
    exact op_val (by first | (go_simp; done) | (go_simp; rfl)) (hK _ _ hB (Mono.refl _) rfl)
   ·refine stp rfl rfl rfl rfl rfl fun a w' hB hM hoff hp K hK => ?_
    obtain ⟨v23, e23, h23⟩ := hp 3 rfl 23 _ rfl rfl
    exact op_val (by first | (go_simp; done) | (go_simp; rfl)) (hK _ _ hB (Mono.refl _) h23)
   ·refine stp rfl rfl rfl rfl rfl fun a w' hB hM hoff hp K hK => ?_
    obtain ⟨_, e24, rfl⟩ := hp 4 rfl 24 _ rfl rfl
    exact op_val (by first | (go_simp; done) | (go_simp; rfl)) (hK _ _ hB (Mono.refl _) rfl)
  intro V3 w3 HB3 M3 hφ
  simp only [fillAll, Act.put, List.setIfInBounds_toArray, List.set_cons_zero, List.set_cons_succ]
  replace R6 := R6.mono M3
  replace R7 := R7.mono M3
  replace R8 := R8.mono M3
  replace R9 := R9.mono M3
  replace CV := CV.mono M3
  replace dR6 := dR6.mono M3
  replace dR7 := dR7.mono M3
  replace dR8 := dR8.mono M3
  replace dR9 := dR9.mono M3
  replace dCV := dCV.mono M3
  replace C2 := C2.mono M3
  replace C3 := C3.mono M3
  have z21 : V3 0 = .agg #[.int .i64 c.fr, .int .i64 c.tt, .int .u32 c.tid, .int .u32 c.key, .int .u64 c.lo, .int .u64 c.hi, .slice A6 c.pub.length c6, .slice A7 c.ct.length c7, .slice A8 c.sl.length c8, .slice A9 c.sig.length c9] := hφ 0 _ rfl (by decide)
  have K22 : isTup w.heap.size c.putl 0 (V3 1) w3 := hφ 1 _ rfl (by decide)
  have K20 : isTup w.heap.size c.putl 0 (V3 2) w3 := hφ 2 _ rfl (by decide)
  have K23 : Row w.heap.size w3 (V3 3) c.putl := hφ 3 _ rfl (by decide)
  have z24 : V3 4 = .int .i64 0 := hφ 4 _ rfl (by decide)
  have K5 : Row w.heap.size w3 (V3 5) c.putl := hφ 5 _ rfl (by decide)
  have z6 : V3 6 = .int .i64 0 := hφ 6 _ rfl (by decide)
  simp only [z21, z24, z6]
  clear hφ
  (try simp only [Exit.inBlock, Exit.then])
  repeat (refine wp_seq ?_)
  refine rgs (B := w.heap.size) (w0 := w) [26, 27, 25, 28, 29, 7, 8] [isV (.agg #[.int .i64 c.fr, .int .i64 c.tt, .int .u32 c.tid, .int .u32 c.key, .int .u64 c.lo, .int .u64 c.hi, .slice A6 c.pub.length c6, .slice A7 c.ct.length c7, .slice A8 c.sl.length c8, .slice A9 c.sig.length c9]), isTup w.heap.size c.putl 0, isTup w.heap.size c.putl 0, isRow w.heap.size c.putl, isV (.int .i64 0), isRow w.heap.size c.putl, isV (.int .i64 0)] rfl (by decide) rfl HB3 ?_ ?_ ?_
  · exact (stb_cons (stb_V _) (stb_cons (stb_Tup _ _ _) (stb_cons (stb_Tup _ _ _) (stb_cons (stb_Row _ _) (stb_cons (stb_V _) (stb_cons (stb_Row _ _) (stb_cons (stb_V _) stb_nil)))))))
  ·refine stepf_cons ?_ (stepf_cons ?_ (stepf_cons ?_ (stepf_cons ?_ (stepf_cons ?_ (stepf_cons ?_ (stepf_cons ?_ stepf_nil))))))
   ·refine stp rfl rfl rfl rfl rfl fun a w' hB hM hoff hp K hK => ?_
    have e2 : a.tmps[2]? = some (.pointer (some ⟨b4_2, 0, none⟩)) := (hoff 2 rfl).trans rfl
    obtain ⟨d0, d1, d2, d3, d4, d5, d6, d7, d8, d9⟩ := (C2.mono hM).ten
    have hu := Try.underlying28
    have hu2 := Try.underlying25
    exact op_val (by first | (go_simp; done) | (go_simp; rfl)) (hK _ _ hB (Mono.refl _) rfl)
   ·refine stp rfl rfl rfl rfl rfl fun a w' hB hM hoff hp K hK => ?_
    obtain ⟨_, e26, rfl⟩ := hp 0 rfl 26 _ rfl rfl
    refine op_call Try.func14 (by kernel_rfl) rfl #[.agg #[.int .i64 c.fr, .int .i64 c.tt, .int .u32 c.tid, .int .u32 c.key, .int .u64 c.lo, .int .u64 c.hi, .slice A6 c.pub.length c6, .slice A7 c.ct.length c7, .slice A8 c.sl.length c8, .slice A9 c.sig.length c9]] rfl (by simp [ev e26]) ((refPut_calls c ho hs hs2 hs3 hs4 _ _ (CV.mono hM)).mono (fun e w' h3 => by rw [may_err h] at h3; exact h3)) ?_
    rintro e w1 ⟨u, rfl, hR, hb⟩
    exact ⟨u, rfl, hK _ _ (below_then hB hB.size hb) (Mono.of_below hb) (let ⟨u, h1, h2⟩ := hR; ⟨u, h1, h2.lower hB.size⟩)⟩
   ·refine stp rfl rfl rfl rfl rfl fun a w' hB hM hoff hp K hK => ?_
    obtain ⟨v27, e27, h27⟩ := hp 1 rfl 27 _ rfl rfl
    exact op_val (by first | (go_simp; done) | (go_simp; rfl)) (hK _ _ hB (Mono.refl _) h27)
   ·refine stp rfl rfl rfl rfl rfl fun a w' hB hM hoff hp K hK => ?_
    obtain ⟨v25, e25, h25⟩ := hp 2 rfl 25 _ rfl rfl
    obtain ⟨u, ev, hR⟩ := h25
    subst ev
    exact op_val (by first | (go_simp; done) | (go_simp; rfl)) (hK _ _ hB (Mono.refl _) hR)
   ·refine stp rfl rfl rfl rfl rfl fun a w' hB hM hoff hp K hK => ?_
    obtain ⟨v25, e25, h25⟩ := hp 2 rfl 25 _ rfl rfl
    obtain ⟨u, ev, hR⟩ := h25
    subst ev
    exact op_val (by first | (go_simp; done) | (go_simp; rfl)) (hK _ _ hB (Mono.refl _) rfl)
   ·refine stp rfl rfl rfl rfl rfl fun a w' hB hM hoff hp K hK => ?_
    obtain ⟨v28, e28, h28⟩ := hp 3 rfl 28 _ rfl rfl
    exact op_val (by first | (go_simp; done) | (go_simp; rfl)) (hK _ _ hB (Mono.refl _) h28)
   ·refine stp rfl rfl rfl rfl rfl fun a w' hB hM hoff hp K hK => ?_
    obtain ⟨_, e29, rfl⟩ := hp 4 rfl 29 _ rfl rfl
    exact op_val (by first | (go_simp; done) | (go_simp; rfl)) (hK _ _ hB (Mono.refl _) rfl)
  intro V4 w4 HB4 M4 hφ
  simp only [fillAll, Act.put, List.setIfInBounds_toArray, List.set_cons_zero, List.set_cons_succ]
  replace R6 := R6.mono M4
  replace R7 := R7.mono M4
  replace R8 := R8.mono M4
  replace R9 := R9.mono M4
  replace CV := CV.mono M4
  replace dR6 := dR6.mono M4
  replace dR7 := dR7.mono M4
  replace dR8 := dR8.mono M4
  replace dR9 := dR9.mono M4
  replace dCV := dCV.mono M4
  replace C2 := C2.mono M4
  replace C3 := C3.mono M4
  replace K23 := K23.mono M4
  replace K5 := K5.mono M4
  have z26 : V4 0 = .agg #[.int .i64 c.fr, .int .i64 c.tt, .int .u32 c.tid, .int .u32 c.key, .int .u64 c.lo, .int .u64 c.hi, .slice A6 c.pub.length c6, .slice A7 c.ct.length c7, .slice A8 c.sl.length c8, .slice A9 c.sig.length c9] := hφ 0 _ rfl (by decide)
  have K27 : isTup w.heap.size c.putl 0 (V4 1) w4 := hφ 1 _ rfl (by decide)
  have K25 : isTup w.heap.size c.putl 0 (V4 2) w4 := hφ 2 _ rfl (by decide)
  have K28 : Row w.heap.size w4 (V4 3) c.putl := hφ 3 _ rfl (by decide)
  have z29 : V4 4 = .int .i64 0 := hφ 4 _ rfl (by decide)
  have K7 : Row w.heap.size w4 (V4 5) c.putl := hφ 5 _ rfl (by decide)
  have z8 : V4 6 = .int .i64 0 := hφ 6 _ rfl (by decide)
  simp only [z26, z29, z8]
  clear hφ
  (try simp only [Exit.inBlock, Exit.then])
  repeat (refine wp_seq ?_)
  refine rg (B := w.heap.size) (w0 := w) (by kernel_rfl) (by decide +kernel) [30, 31, 32, 33, 34, 35, 36, 37, 38, 39, 40, 41, 42, 43, 44, 45, 46, 47, 48, 49, 50, 51, 52] [isV (V3 5), isV (V4 5), isV (.bool true), isV (.bool false), isV (.bool false), isV (.int .i64 0), isV (.int .i64 0), isV (.bool false), isV (.bool false), isV (.bool false), isV (.agg #[.int .i64 c.fr, .int .i64 c.tt, .int .u32 c.tid, .int .u32 c.key, .int .u64 c.lo, .int .u64 c.hi, .slice A6 c.pub.length c6, .slice A7 c.ct.length c7, .slice A8 c.sl.length c8, .slice A9 c.sig.length c9]), isV (.int .i64 0), isV (.bool true), isV (.agg #[.int .i64 c.fr, .int .i64 c.tt, .int .u32 c.tid, .int .u32 c.key, .int .u64 c.lo, .int .u64 c.hi, .slice A6 c.pub.length c6, .slice A7 c.ct.length c7, .slice A8 c.sl.length c8, .slice A9 c.sig.length c9]), isV (.bool true), isV (.bool false), isV (.bool false), isV (.bool false), isV (.agg #[.int .i64 c.fr, .int .i64 c.tt, .int .u32 c.tid, .int .u32 c.key, .int .u64 c.lo, .int .u64 c.hi, .slice A6 c.pub.length c6, .slice A7 c.ct.length c7, .slice A8 c.sl.length c8, .slice A9 c.sig.length c9]), isV (.int .i64 0), isV (.int .i64 0), isV (.bool false), isV (.bool false)] rfl (by decide) rfl HB4 ?_ ?_ ?_
  · exact (stb_cons (stb_V _) (stb_cons (stb_V _) (stb_cons (stb_V _) (stb_cons (stb_V _) (stb_cons (stb_V _) (stb_cons (stb_V _) (stb_cons (stb_V _) (stb_cons (stb_V _) (stb_cons (stb_V _) (stb_cons (stb_V _) (stb_cons (stb_V _) (stb_cons (stb_V _) (stb_cons (stb_V _) (stb_cons (stb_V _) (stb_cons (stb_V _) (stb_cons (stb_V _) (stb_cons (stb_V _) (stb_cons (stb_V _) (stb_cons (stb_V _) (stb_cons (stb_V _) (stb_cons (stb_V _) (stb_cons (stb_V _) (stb_cons (stb_V _) stb_nil)))))))))))))))))))))))
  ·refine stepf_cons ?_ (stepf_cons ?_ (stepf_cons ?_ (stepf_cons ?_ (stepf_cons ?_ (stepf_cons ?_ (stepf_cons ?_ (stepf_cons ?_ (stepf_cons ?_ (stepf_cons ?_ (stepf_cons ?_ (stepf_cons ?_ (stepf_cons ?_ (stepf_cons ?_ (stepf_cons ?_ (stepf_cons ?_ (stepf_cons ?_ (stepf_cons ?_ (stepf_cons ?_ (stepf_cons ?_ (stepf_cons ?_ (stepf_cons ?_ (stepf_cons ?_ stepf_nil))))))))))))))))))))))
   ·refine stp rfl rfl rfl rfl rfl fun a w' hB hM hoff hp K hK => ?_
    have e5 : a.tmps[5]? = some (V3 5) := (hoff 5 rfl).trans rfl
    exact op_val (by first | (go_simp; done) | (go_simp; rfl)) (hK _ _ hB (Mono.refl _) rfl)
   ·refine stp rfl rfl rfl rfl rfl fun a w' hB hM hoff hp K hK => ?_
    have e7 : a.tmps[7]? = some (V4 5) := (hoff 7 rfl).trans rfl
    exact op_val (by first | (go_simp; done) | (go_simp; rfl)) (hK _ _ hB (Mono.refl _) rfl)
   ·refine stp rfl rfl rfl rfl rfl fun a w' hB hM hoff hp K hK => ?_
    obtain ⟨_, e30, rfl⟩ := hp 0 rfl 30 _ rfl rfl
    obtain ⟨_, e31, rfl⟩ := hp 1 rfl 31 _ rfl rfl
    refine op_call Try.func11 (by kernel_rfl) rfl #[V3 5, V4 5] rfl (by simp [ev e30, ev e31]) (equal_calls _ _ (putl_byt c ho) (putl_byt c ho) true (by simp) _ _ _ (K5.mono hM) (K7.mono hM)) ?_
    rintro e w1 ⟨u, rfl, hR, hb⟩
    exact ⟨u, rfl, hK _ _ (below_then hB hB.size hb) (Mono.of_below hb) hR⟩
   ·refine stp rfl rfl rfl rfl rfl fun a w' hB hM hoff hp K hK => ?_
    obtain ⟨_, e32, rfl⟩ := hp 2 rfl 32 _ rfl rfl
    exact op_val (by first | (go_simp; done) | (go_simp; rfl)) (hK _ _ hB (Mono.refl _) rfl)
   ·refine stp rfl rfl rfl rfl rfl fun a w' hB hM hoff hp K hK => ?_
    obtain ⟨_, e33, rfl⟩ := hp 3 rfl 33 _ rfl rfl
    exact op_val (by first | (go_simp; done) | (go_simp; rfl)) (hK _ _ hB (Mono.refl _) rfl)
   ·refine stpy 4 rfl rfl rfl rfl rfl rfl rfl rfl rfl fun a w' hB hM hoff hp K hK => ?_
    have e6 : a.tmps[6]? = some (.int .i64 0) := (hoff 6 rfl).trans rfl
    exact op_val (by first | (go_simp; done) | (go_simp; rfl)) (hK _ _ hB (Mono.refl _) rfl)
   ·refine stpy 4 rfl rfl rfl rfl rfl rfl rfl rfl rfl fun a w' hB hM hoff hp K hK => ?_
    have e8 : a.tmps[8]? = some (.int .i64 0) := (hoff 8 rfl).trans rfl
    exact op_val (by first | (go_simp; done) | (go_simp; rfl)) (hK _ _ hB (Mono.refl _) rfl)
   ·refine stpy 4 rfl rfl rfl rfl rfl rfl rfl rfl rfl fun a w' hB hM hoff hp K hK => ?_
    obtain ⟨_, e35, rfl⟩ := hp 5 rfl 35 _ rfl rfl
    obtain ⟨_, e36, rfl⟩ := hp 6 rfl 36 _ rfl rfl
    exact op_val (by first | (go_simp; done) | (go_simp; rfl)) (hK _ _ hB (Mono.refl _) rfl)
   ·refine stp rfl rfl rfl rfl rfl fun a w' hB hM hoff hp K hK => ?_
    obtain ⟨_, e34, rfl⟩ := hp 4 rfl 34 _ rfl rfl
    obtain ⟨_, e37, rfl⟩ := hp 7 rfl 37 _ rfl rfl
    exact op_val (by first | (go_simp; done) | (go_simp; rfl)) (hK _ _ hB (Mono.refl _) rfl)
   ·refine stp rfl rfl rfl rfl rfl fun a w' hB hM hoff hp K hK => ?_
    obtain ⟨_, e38, rfl⟩ := hp 8 rfl 38 _ rfl rfl
    exact op_val (by first | (go_simp; done) | (go_simp; rfl)) (hK _ _ hB (Mono.refl _) rfl)
   ·refine stpy 9 rfl rfl rfl rfl rfl rfl rfl rfl rfl fun a w' hB hM hoff hp K hK => ?_
    have e2 : a.tmps[2]? = some (.pointer (some ⟨b4_2, 0, none⟩)) := (hoff 2 rfl).trans rfl
    obtain ⟨d0, d1, d2, d3, d4, d5, d6, d7, d8, d9⟩ := (C2.mono hM).ten
    have hu := Try.underlying28
    have hu2 := Try.underlying25
    exact op_val (by first | (go_simp; done) | (go_simp; rfl)) (hK _ _ hB (Mono.refl _) rfl)
   ·refine stpy 9 rfl rfl rfl rfl rfl rfl rfl rfl rfl fun a w' hB hM hoff hp K hK => ?_
    obtain ⟨_, e40, rfl⟩ := hp 10 rfl 40 _ rfl rfl
    refine op_call Try.func15 (by kernel_rfl) rfl #[.agg #[.int .i64 c.fr, .int .i64 c.tt, .int .u32 c.tid, .int .u32 c.key, .int .u64 c.lo, .int .u64 c.hi, .slice A6 c.pub.length c6, .slice A7 c.ct.length c7, .slice A8 c.sl.length c8, .slice A9 c.sig.length c9]] rfl (by simp [ev e40]) ((check_calls c ho hs hs2 hs3 hs4 _ _ (CV.mono hM)).mono (fun e w' h3 => by rw [may_err h] at h3; exact h3)) ?_
    rintro e w1 ⟨u, rfl, hR, hb⟩
    exact ⟨u, rfl, hK _ _ (below_then hB hB.size hb) (Mono.of_below hb) hR⟩
   ·refine stpy 9 rfl rfl rfl rfl rfl rfl rfl rfl rfl fun a w' hB hM hoff hp K hK => ?_
    obtain ⟨_, e41, rfl⟩ := hp 11 rfl 41 _ rfl rfl
    exact op_val (by first | (go_simp; done) | (go_simp; rfl)) (hK _ _ hB (Mono.refl _) rfl)
   ·refine stpy 9 rfl rfl rfl rfl rfl rfl rfl rfl rfl fun a w' hB hM hoff hp K hK => ?_
    have e2 : a.tmps[2]? = some (.pointer (some ⟨b4_2, 0, none⟩)) := (hoff 2 rfl).trans rfl
    obtain ⟨d0, d1, d2, d3, d4, d5, d6, d7, d8, d9⟩ := (C2.mono hM).ten
    have hu := Try.underlying28
    have hu2 := Try.underlying25
    exact op_val (by first | (go_simp; done) | (go_simp; rfl)) (hK _ _ hB (Mono.refl _) rfl)
   ·refine stpy 9 rfl rfl rfl rfl rfl rfl rfl rfl rfl fun a w' hB hM hoff hp K hK => ?_
    obtain ⟨_, e43, rfl⟩ := hp 13 rfl 43 _ rfl rfl
    refine op_call Try.func9 (by kernel_rfl) rfl #[.agg #[.int .i64 c.fr, .int .i64 c.tt, .int .u32 c.tid, .int .u32 c.key, .int .u64 c.lo, .int .u64 c.hi, .slice A6 c.pub.length c6, .slice A7 c.ct.length c7, .slice A8 c.sl.length c8, .slice A9 c.sig.length c9]] rfl (by simp [ev e43]) (refMay_calls c _ (decide_eq_true h) _ _ (CV.mono hM)) ?_
    rintro e w1 ⟨u, rfl, hR, hb⟩
    exact ⟨u, rfl, hK _ _ (below_then hB hB.size hb) (Mono.of_below hb) hR⟩
   ·refine stpy 9 rfl rfl rfl rfl rfl rfl rfl rfl rfl fun a w' hB hM hoff hp K hK => ?_
    obtain ⟨_, e42, rfl⟩ := hp 12 rfl 42 _ rfl rfl
    obtain ⟨_, e44, rfl⟩ := hp 14 rfl 44 _ rfl rfl
    exact op_val (by first | (go_simp; done) | (go_simp; rfl)) (hK _ _ hB (Mono.refl _) rfl)
   ·refine stp rfl rfl rfl rfl rfl fun a w' hB hM hoff hp K hK => ?_
    obtain ⟨_, e39, rfl⟩ := hp 9 rfl 39 _ rfl rfl
    obtain ⟨_, e45, rfl⟩ := hp 15 rfl 45 _ rfl rfl
    exact op_val (by first | (go_simp; done) | (go_simp; rfl)) (hK _ _ hB (Mono.refl _) rfl)
   ·refine stp rfl rfl rfl rfl rfl fun a w' hB hM hoff hp K hK => ?_
    obtain ⟨_, e46, rfl⟩ := hp 16 rfl 46 _ rfl rfl
    exact op_val (by first | (go_simp; done) | (go_simp; rfl)) (hK _ _ hB (Mono.refl _) rfl)
   ·refine stpy 17 rfl rfl rfl rfl rfl rfl rfl rfl rfl fun a w' hB hM hoff hp K hK => ?_
    have e2 : a.tmps[2]? = some (.pointer (some ⟨b4_2, 0, none⟩)) := (hoff 2 rfl).trans rfl
    obtain ⟨d0, d1, d2, d3, d4, d5, d6, d7, d8, d9⟩ := (C2.mono hM).ten
    have hu := Try.underlying28
    have hu2 := Try.underlying25
    exact op_val (by first | (go_simp; done) | (go_simp; rfl)) (hK _ _ hB (Mono.refl _) rfl)
   ·refine stpy 17 rfl rfl rfl rfl rfl rfl rfl rfl rfl fun a w' hB hM hoff hp K hK => ?_
    obtain ⟨_, e48, rfl⟩ := hp 18 rfl 48 _ rfl rfl
    refine op_call Try.func15 (by kernel_rfl) rfl #[.agg #[.int .i64 c.fr, .int .i64 c.tt, .int .u32 c.tid, .int .u32 c.key, .int .u64 c.lo, .int .u64 c.hi, .slice A6 c.pub.length c6, .slice A7 c.ct.length c7, .slice A8 c.sl.length c8, .slice A9 c.sig.length c9]] rfl (by simp [ev e48]) ((check_calls c ho hs hs2 hs3 hs4 _ _ (CV.mono hM)).mono (fun e w' h3 => by rw [may_err h] at h3; exact h3)) ?_
    rintro e w1 ⟨u, rfl, hR, hb⟩
    exact ⟨u, rfl, hK _ _ (below_then hB hB.size hb) (Mono.of_below hb) hR⟩
   ·refine stpy 17 rfl rfl rfl rfl rfl rfl rfl rfl rfl fun a w' hB hM hoff hp K hK => ?_
    have e8 : a.tmps[8]? = some (.int .i64 0) := (hoff 8 rfl).trans rfl
    exact op_val (by first | (go_simp; done) | (go_simp; rfl)) (hK _ _ hB (Mono.refl _) rfl)
   ·refine stpy 17 rfl rfl rfl rfl rfl rfl rfl rfl rfl fun a w' hB hM hoff hp K hK => ?_
    obtain ⟨_, e49, rfl⟩ := hp 19 rfl 49 _ rfl rfl
    obtain ⟨_, e50, rfl⟩ := hp 20 rfl 50 _ rfl rfl
    exact op_val (by first | (go_simp; done) | (go_simp; rfl)) (hK _ _ hB (Mono.refl _) rfl)
   ·refine stp rfl rfl rfl rfl rfl fun a w' hB hM hoff hp K hK => ?_
    obtain ⟨_, e47, rfl⟩ := hp 17 rfl 47 _ rfl rfl
    obtain ⟨_, e51, rfl⟩ := hp 21 rfl 51 _ rfl rfl
    exact op_val (by first | (go_simp; done) | (go_simp; rfl)) (hK _ _ hB (Mono.refl _) rfl)
  intro V5 w5 HB5 M5 hφ
  simp only [fillAll, Act.put, List.setIfInBounds_toArray, List.set_cons_zero, List.set_cons_succ]
  replace R6 := R6.mono M5
  replace R7 := R7.mono M5
  replace R8 := R8.mono M5
  replace R9 := R9.mono M5
  replace CV := CV.mono M5
  replace dR6 := dR6.mono M5
  replace dR7 := dR7.mono M5
  replace dR8 := dR8.mono M5
  replace dR9 := dR9.mono M5
  replace dCV := dCV.mono M5
  replace C2 := C2.mono M5
  replace C3 := C3.mono M5
  replace K23 := K23.mono M5
  replace K5 := K5.mono M5
  replace K28 := K28.mono M5
  replace K7 := K7.mono M5
  have z30 : V5 0 = V3 5 := hφ 0 _ rfl (by decide)
  have z31 : V5 1 = V4 5 := hφ 1 _ rfl (by decide)
  have z32 : V5 2 = .bool true := hφ 2 _ rfl (by decide)
  have z33 : V5 3 = .bool false := hφ 3 _ rfl (by decide)
  have z34 : V5 4 = .bool false := hφ 4 _ rfl (by decide)
  have z35 : V5 5 = .int .i64 0 := hφ 5 _ rfl (by decide)
  have z36 : V5 6 = .int .i64 0 := hφ 6 _ rfl (by decide)
  have z37 : V5 7 = .bool false := hφ 7 _ rfl (by decide)
  have z38 : V5 8 = .bool false := hφ 8 _ rfl (by decide)
  have z39 : V5 9 = .bool false := hφ 9 _ rfl (by decide)
  have z40 : V5 10 = .agg #[.int .i64 c.fr, .int .i64 c.tt, .int .u32 c.tid, .int .u32 c.key, .int .u64 c.lo, .int .u64 c.hi, .slice A6 c.pub.length c6, .slice A7 c.ct.length c7, .slice A8 c.sl.length c8, .slice A9 c.sig.length c9] := hφ 10 _ rfl (by decide)
  have z41 : V5 11 = .int .i64 0 := hφ 11 _ rfl (by decide)
  have z42 : V5 12 = .bool true := hφ 12 _ rfl (by decide)
  have z43 : V5 13 = .agg #[.int .i64 c.fr, .int .i64 c.tt, .int .u32 c.tid, .int .u32 c.key, .int .u64 c.lo, .int .u64 c.hi, .slice A6 c.pub.length c6, .slice A7 c.ct.length c7, .slice A8 c.sl.length c8, .slice A9 c.sig.length c9] := hφ 13 _ rfl (by decide)
  have z44 : V5 14 = .bool true := hφ 14 _ rfl (by decide)
  have z45 : V5 15 = .bool false := hφ 15 _ rfl (by decide)
  have z46 : V5 16 = .bool false := hφ 16 _ rfl (by decide)
  have z47 : V5 17 = .bool false := hφ 17 _ rfl (by decide)
  have z48 : V5 18 = .agg #[.int .i64 c.fr, .int .i64 c.tt, .int .u32 c.tid, .int .u32 c.key, .int .u64 c.lo, .int .u64 c.hi, .slice A6 c.pub.length c6, .slice A7 c.ct.length c7, .slice A8 c.sl.length c8, .slice A9 c.sig.length c9] := hφ 18 _ rfl (by decide)
  have z49 : V5 19 = .int .i64 0 := hφ 19 _ rfl (by decide)
  have z50 : V5 20 = .int .i64 0 := hφ 20 _ rfl (by decide)
  have z51 : V5 21 = .bool false := hφ 21 _ rfl (by decide)
  have z52 : V5 22 = .bool false := hφ 22 _ rfl (by decide)
  simp only [z30, z31, z32, z33, z34, z35, z36, z37, z38, z39, z40, z41, z42, z43, z44, z45, z46, z47, z48, z49, z50, z51, z52]
  clear hφ
  (try simp only [Exit.inBlock, Exit.then])
  repeat (refine wp_seq ?_)
  (try simp only [Exit.inBlock, Exit.then])
  refine wp_cond_false rfl ?_
  refine wp_skip ?_
  (try simp only [Exit.inBlock, Exit.then])
  repeat (refine wp_seq ?_)
  refine rg (B := w.heap.size) (w0 := w) (by kernel_rfl) (by decide +kernel) [53, 54, 55, 56, 57, 58, 59, 60, 61, 62, 63, 64, 65, 66, 67, 68, 69, 70, 71, 72, 73, 74, 75, 76, 77, 78, 4] [isV (.agg #[.int .i64 c.fr, .int .i64 c.tt, .int .u32 c.tid, .int .u32 c.key, .int .u64 c.lo, .int .u64 c.hi, .slice A6 c.pub.length c6, .slice A7 c.ct.length c7, .slice A8 c.sl.length c8, .slice A9 c.sig.length c9]), isRow w.heap.size ((if c.Spoken then c.said else [])), isV (.agg #[.int .i64 c.fr, .int .i64 c.tt, .int .u32 c.tid, .int .u32 c.key, .int .u64 c.lo, .int .u64 c.hi, .slice A6 c.pub.length c6, .slice A7 c.ct.length c7, .slice A8 c.sl.length c8, .slice A9 c.sig.length c9]), isRow w.heap.size ((if c.Spoken then c.said else [])), isV (.bool true), isV (.bool true), isV (.agg #[.int .i64 c.fr, .int .i64 c.tt, .int .u32 c.tid, .int .u32 c.key, .int .u64 c.lo, .int .u64 c.hi, .slice A6 c.pub.length c6, .slice A7 c.ct.length c7, .slice A8 c.sl.length c8, .slice A9 c.sig.length c9]), isRow w.heap.size ((if c.Worded then title ++ c.inner else [])), isV (.agg #[.int .i64 c.fr, .int .i64 c.tt, .int .u32 c.tid, .int .u32 c.key, .int .u64 c.lo, .int .u64 c.hi, .slice A6 c.pub.length c6, .slice A7 c.ct.length c7, .slice A8 c.sl.length c8, .slice A9 c.sig.length c9]), isRow w.heap.size ((if c.Worded then title ++ c.inner else [])), isV (.bool true), isV (.bool true), isV (.bool true), isV (.agg #[.int .i64 c.fr, .int .i64 c.tt, .int .u32 c.tid, .int .u32 c.key, .int .u64 c.lo, .int .u64 c.hi, .slice A6 c.pub.length c6, .slice A7 c.ct.length c7, .slice A8 c.sl.length c8, .slice A9 c.sig.length c9]), isV (.agg #[.int .i64 d.fr, .int .i64 d.tt, .int .u32 d.tid, .int .u32 d.key, .int .u64 d.lo, .int .u64 d.hi, .slice dA6 d.pub.length dc6, .slice dA7 d.ct.length dc7, .slice dA8 d.sl.length dc8, .slice dA9 d.sig.length dc9]), isV (.bool (decide (c = d))), isV (.agg #[.int .i64 c.fr, .int .i64 c.tt, .int .u32 c.tid, .int .u32 c.key, .int .u64 c.lo, .int .u64 c.hi, .slice A6 c.pub.length c6, .slice A7 c.ct.length c7, .slice A8 c.sl.length c8, .slice A9 c.sig.length c9]), isV (.agg #[.int .i64 d.fr, .int .i64 d.tt, .int .u32 d.tid, .int .u32 d.key, .int .u64 d.lo, .int .u64 d.hi, .slice dA6 d.pub.length dc6, .slice dA7 d.ct.length dc7, .slice dA8 d.sl.length dc8, .slice dA9 d.sig.length dc9]), isV (.bool (decide (c = d))), isV (.bool true), isV (.bool true), isV (.bool true), isV (.agg #[.int .i64 c.fr, .int .i64 c.tt, .int .u32 c.tid, .int .u32 c.key, .int .u64 c.lo, .int .u64 c.hi, .slice A6 c.pub.length c6, .slice A7 c.ct.length c7, .slice A8 c.sl.length c8, .slice A9 c.sig.length c9]), isV (.agg #[.int .i64 c.fr, .int .i64 c.tt, .int .u32 c.tid, .int .u32 c.key, .int .u64 c.lo, .int .u64 c.hi, .slice A6 c.pub.length c6, .slice A7 c.ct.length c7, .slice A8 c.sl.length c8, .slice A9 c.sig.length c9]), isV (.bool true), isV (.bool true), isV (.bool true)] rfl (by decide) rfl HB5 ?_ ?_ ?_
  · exact (stb_cons (stb_V _) (stb_cons (stb_Row _ _) (stb_cons (stb_V _) (stb_cons (stb_Row _ _) (stb_cons (stb_V _) (stb_cons (stb_V _) (stb_cons (stb_V _) (stb_cons (stb_Row _ _) (stb_cons (stb_V _) (stb_cons (stb_Row _ _) (stb_cons (stb_V _) (stb_cons (stb_V _) (stb_cons (stb_V _) (stb_cons (stb_V _) (stb_cons (stb_V _) (stb_cons (stb_V _) (stb_cons (stb_V _) (stb_cons (stb_V _) (stb_cons (stb_V _) (stb_cons (stb_V _) (stb_cons (stb_V _) (stb_cons (stb_V _) (stb_cons (stb_V _) (stb_cons (stb_V _) (stb_cons (stb_V _) (stb_cons (stb_V _) (stb_cons (stb_V _) stb_nil)))))))))))))))))))))))))))
  ·refine stepf_cons ?_ (stepf_cons ?_ (stepf_cons ?_ (stepf_cons ?_ (stepf_cons ?_ (stepf_cons ?_ (stepf_cons ?_ (stepf_cons ?_ (stepf_cons ?_ (stepf_cons ?_ (stepf_cons ?_ (stepf_cons ?_ (stepf_cons ?_ (stepf_cons ?_ (stepf_cons ?_ (stepf_cons ?_ (stepf_cons ?_ (stepf_cons ?_ (stepf_cons ?_ (stepf_cons ?_ (stepf_cons ?_ (stepf_cons ?_ (stepf_cons ?_ (stepf_cons ?_ (stepf_cons ?_ (stepf_cons ?_ (stepf_cons ?_ stepf_nil))))))))))))))))))))))))))
   ·refine stp rfl rfl rfl rfl rfl fun a w' hB hM hoff hp K hK => ?_
    have e2 : a.tmps[2]? = some (.pointer (some ⟨b4_2, 0, none⟩)) := (hoff 2 rfl).trans rfl
    obtain ⟨d0, d1, d2, d3, d4, d5, d6, d7, d8, d9⟩ := (C2.mono hM).ten
    have hu := Try.underlying28
    have hu2 := Try.underlying25
    exact op_val (by first | (go_simp; done) | (go_simp; rfl)) (hK _ _ hB (Mono.refl _) rfl)
   ·refine stp rfl rfl rfl rfl rfl fun a w' hB hM hoff hp K hK => ?_
    obtain ⟨_, e53, rfl⟩ := hp 0 rfl 53 _ rfl rfl
    refine op_call Try.func16 (by kernel_rfl) rfl #[.agg #[.int .i64 c.fr, .int .i64 c.tt, .int .u32 c.tid, .int .u32 c.key, .int .u64 c.lo, .int .u64 c.hi, .slice A6 c.pub.length c6, .slice A7 c.ct.length c7, .slice A8 c.sl.length c8, .slice A9 c.sig.length c9]] rfl (by simp [ev e53]) (Said_calls c ho hs hs2 hs3 hs4 _ _ (CV.mono hM)) ?_
    rintro e w1 ⟨u, rfl, hR, hb⟩
    exact ⟨u, rfl, hK _ _ (below_then hB hB.size hb) (Mono.of_below hb) (hR.lower hB.size)⟩
   ·refine stp rfl rfl rfl rfl rfl fun a w' hB hM hoff hp K hK => ?_
    have e2 : a.tmps[2]? = some (.pointer (some ⟨b4_2, 0, none⟩)) := (hoff 2 rfl).trans rfl
    obtain ⟨d0, d1, d2, d3, d4, d5, d6, d7, d8, d9⟩ := (C2.mono hM).ten
    have hu := Try.underlying28
    have hu2 := Try.underlying25
    exact op_val (by first | (go_simp; done) | (go_simp; rfl)) (hK _ _ hB (Mono.refl _) rfl)
   ·refine stp rfl rfl rfl rfl rfl fun a w' hB hM hoff hp K hK => ?_
    obtain ⟨_, e55, rfl⟩ := hp 2 rfl 55 _ rfl rfl
    refine op_call Try.func17 (by kernel_rfl) rfl #[.agg #[.int .i64 c.fr, .int .i64 c.tt, .int .u32 c.tid, .int .u32 c.key, .int .u64 c.lo, .int .u64 c.hi, .slice A6 c.pub.length c6, .slice A7 c.ct.length c7, .slice A8 c.sl.length c8, .slice A9 c.sig.length c9]] rfl (by simp [ev e55]) (refSaid_calls c ho hs hs2 hs3 hs4 _ _ (CV.mono hM)) ?_
    rintro e w1 ⟨u, rfl, hR, hb⟩
    exact ⟨u, rfl, hK _ _ (below_then hB hB.size hb) (Mono.of_below hb) (hR.lower hB.size)⟩
   ·refine stp rfl rfl rfl rfl rfl fun a w' hB hM hoff hp K hK => ?_
    obtain ⟨v54, e54, h54⟩ := hp 1 rfl 54 _ rfl rfl
    obtain ⟨v56, e56, h56⟩ := hp 3 rfl 56 _ rfl rfl
    refine op_call Try.func11 (by kernel_rfl) rfl #[v54, v56] rfl (by simp [ev e54, ev e56]) (equal_calls _ _ (Said_byt c ho) (Said_byt c ho) true (by simp) _ _ _ h54 h56) ?_
    rintro e w1 ⟨u, rfl, hR, hb⟩
    exact ⟨u, rfl, hK _ _ (below_then hB hB.size hb) (Mono.of_below hb) hR⟩
   ·refine stp rfl rfl rfl rfl rfl fun a w' hB hM hoff hp K hK => ?_
    obtain ⟨_, e57, rfl⟩ := hp 4 rfl 57 _ rfl rfl
    exact op_val (by first | (go_simp; done) | (go_simp; rfl)) (hK _ _ hB (Mono.refl _) rfl)
   ·refine stpy 5 rfl rfl rfl rfl rfl rfl rfl rfl rfl fun a w' hB hM hoff hp K hK => ?_
    have e2 : a.tmps[2]? = some (.pointer (some ⟨b4_2, 0, none⟩)) := (hoff 2 rfl).trans rfl
    obtain ⟨d0, d1, d2, d3, d4, d5, d6, d7, d8, d9⟩ := (C2.mono hM).ten
    have hu := Try.underlying28
    have hu2 := Try.underlying25
    exact op_val (by first | (go_simp; done) | (go_simp; rfl)) (hK _ _ hB (Mono.refl _) rfl)
   ·refine stpy 5 rfl rfl rfl rfl rfl rfl rfl rfl rfl fun a w' hB hM hoff hp K hK => ?_
    obtain ⟨_, e59, rfl⟩ := hp 6 rfl 59 _ rfl rfl
    refine op_call Try.func10 (by kernel_rfl) rfl #[.agg #[.int .i64 c.fr, .int .i64 c.tt, .int .u32 c.tid, .int .u32 c.key, .int .u64 c.lo, .int .u64 c.hi, .slice A6 c.pub.length c6, .slice A7 c.ct.length c7, .slice A8 c.sl.length c8, .slice A9 c.sig.length c9]] rfl (by simp [ev e59]) (Words_calls c ho hs hs2 hs3 hs4 _ _ (CV.mono hM)) ?_
    rintro e w1 ⟨u, rfl, hR, hb⟩
    exact ⟨u, rfl, hK _ _ (below_then hB hB.size hb) (Mono.of_below hb) (hR.lower hB.size)⟩
   ·refine stpy 5 rfl rfl rfl rfl rfl rfl rfl rfl rfl fun a w' hB hM hoff hp K hK => ?_
    have e2 : a.tmps[2]? = some (.pointer (some ⟨b4_2, 0, none⟩)) := (hoff 2 rfl).trans rfl
    obtain ⟨d0, d1, d2, d3, d4, d5, d6, d7, d8, d9⟩ := (C2.mono hM).ten
    have hu := Try.underlying28
    have hu2 := Try.underlying25
    exact op_val (by first | (go_simp; done) | (go_simp; rfl)) (hK _ _ hB (Mono.refl _) rfl)
   ·refine stpy 5 rfl rfl rfl rfl rfl rfl rfl rfl rfl fun a w' hB hM hoff hp K hK => ?_
    obtain ⟨_, e61, rfl⟩ := hp 8 rfl 61 _ rfl rfl
    refine op_call Try.func18 (by kernel_rfl) rfl #[.agg #[.int .i64 c.fr, .int .i64 c.tt, .int .u32 c.tid, .int .u32 c.key, .int .u64 c.lo, .int .u64 c.hi, .slice A6 c.pub.length c6, .slice A7 c.ct.length c7, .slice A8 c.sl.length c8, .slice A9 c.sig.length c9]] rfl (by simp [ev e61]) (refWords_calls c ho hs hs2 hs3 hs4 _ _ (CV.mono hM)) ?_
    rintro e w1 ⟨u, rfl, hR, hb⟩
    exact ⟨u, rfl, hK _ _ (below_then hB hB.size hb) (Mono.of_below hb) (hR.lower hB.size)⟩
   ·refine stpy 5 rfl rfl rfl rfl rfl rfl rfl rfl rfl fun a w' hB hM hoff hp K hK => ?_
    obtain ⟨v60, e60, h60⟩ := hp 7 rfl 60 _ rfl rfl
    obtain ⟨v62, e62, h62⟩ := hp 9 rfl 62 _ rfl rfl
    refine op_call Try.func11 (by kernel_rfl) rfl #[v60, v62] rfl (by simp [ev e60, ev e62]) (equal_calls _ _ (Words_byt c ho) (Words_byt c ho) true (by simp) _ _ _ h60 h62) ?_
    rintro e w1 ⟨u, rfl, hR, hb⟩
    exact ⟨u, rfl, hK _ _ (below_then hB hB.size hb) (Mono.of_below hb) hR⟩
   ·refine stp rfl rfl rfl rfl rfl fun a w' hB hM hoff hp K hK => ?_
    obtain ⟨_, e58, rfl⟩ := hp 5 rfl 58 _ rfl rfl
    obtain ⟨_, e63, rfl⟩ := hp 10 rfl 63 _ rfl rfl
    exact op_val (by first | (go_simp; done) | (go_simp; rfl)) (hK _ _ hB (Mono.refl _) rfl)
   ·refine stp rfl rfl rfl rfl rfl fun a w' hB hM hoff hp K hK => ?_
    obtain ⟨_, e64, rfl⟩ := hp 11 rfl 64 _ rfl rfl
    exact op_val (by first | (go_simp; done) | (go_simp; rfl)) (hK _ _ hB (Mono.refl _) rfl)
   ·refine stpy 12 rfl rfl rfl rfl rfl rfl rfl rfl rfl fun a w' hB hM hoff hp K hK => ?_
    have e2 : a.tmps[2]? = some (.pointer (some ⟨b4_2, 0, none⟩)) := (hoff 2 rfl).trans rfl
    obtain ⟨d0, d1, d2, d3, d4, d5, d6, d7, d8, d9⟩ := (C2.mono hM).ten
    have hu := Try.underlying28
    have hu2 := Try.underlying25
    exact op_val (by first | (go_simp; done) | (go_simp; rfl)) (hK _ _ hB (Mono.refl _) rfl)
   ·refine stpy 12 rfl rfl rfl rfl rfl rfl rfl rfl rfl fun a w' hB hM hoff hp K hK => ?_
    have e3 : a.tmps[3]? = some (.pointer (some ⟨b4_3, 0, none⟩)) := (hoff 3 rfl).trans rfl
    obtain ⟨d0, d1, d2, d3, d4, d5, d6, d7, d8, d9⟩ := (C3.mono hM).ten
    have hu := Try.underlying28
    have hu2 := Try.underlying25
    exact op_val (by first | (go_simp; done) | (go_simp; rfl)) (hK _ _ hB (Mono.refl _) rfl)
   ·refine stpy 12 rfl rfl rfl rfl rfl rfl rfl rfl rfl fun a w' hB hM hoff hp K hK => ?_
    obtain ⟨_, e66, rfl⟩ := hp 13 rfl 66 _ rfl rfl
    obtain ⟨_, e67, rfl⟩ := hp 14 rfl 67 _ rfl rfl
    refine op_call Try.func12 (by kernel_rfl) rfl #[.agg #[.int .i64 c.fr, .int .i64 c.tt, .int .u32 c.tid, .int .u32 c.key, .int .u64 c.lo, .int .u64 c.hi, .slice A6 c.pub.length c6, .slice A7 c.ct.length c7, .slice A8 c.sl.length c8, .slice A9 c.sig.length c9], .agg #[.int .i64 d.fr, .int .i64 d.tt, .int .u32 d.tid, .int .u32 d.key, .int .u64 d.lo, .int .u64 d.hi, .slice dA6 d.pub.length dc6, .slice dA7 d.ct.length dc7, .slice dA8 d.sl.length dc8, .slice dA9 d.sig.length dc9]] rfl (by simp [ev e66, ev e67]) (same_calls c d ho hd h6 h7 h8 h9 _ rfl _ _ _ (CV.mono hM) (dCV.mono hM)) ?_
    rintro e w1 ⟨u, rfl, hR, hb⟩
    exact ⟨u, rfl, hK _ _ (below_then hB hB.size hb) (Mono.of_below hb) hR⟩
   ·refine stpy 12 rfl rfl rfl rfl rfl rfl rfl rfl rfl fun a w' hB hM hoff hp K hK => ?_
    have e2 : a.tmps[2]? = some (.pointer (some ⟨b4_2, 0, none⟩)) := (hoff 2 rfl).trans rfl
    obtain ⟨d0, d1, d2, d3, d4, d5, d6, d7, d8, d9⟩ := (C2.mono hM).ten
    have hu := Try.underlying28
    have hu2 := Try.underlying25
    exact op_val (by first | (go_simp; done) | (go_simp; rfl)) (hK _ _ hB (Mono.refl _) rfl)
   ·refine stpy 12 rfl rfl rfl rfl rfl rfl rfl rfl rfl fun a w' hB hM hoff hp K hK => ?_
    have e3 : a.tmps[3]? = some (.pointer (some ⟨b4_3, 0, none⟩)) := (hoff 3 rfl).trans rfl
    obtain ⟨d0, d1, d2, d3, d4, d5, d6, d7, d8, d9⟩ := (C3.mono hM).ten
    have hu := Try.underlying28
    have hu2 := Try.underlying25
    exact op_val (by first | (go_simp; done) | (go_simp; rfl)) (hK _ _ hB (Mono.refl _) rfl)
   ·refine stpy 12 rfl rfl rfl rfl rfl rfl rfl rfl rfl fun a w' hB hM hoff hp K hK => ?_
    obtain ⟨_, e69, rfl⟩ := hp 16 rfl 69 _ rfl rfl
    obtain ⟨_, e70, rfl⟩ := hp 17 rfl 70 _ rfl rfl
    refine op_call Try.func19 (by kernel_rfl) rfl #[.agg #[.int .i64 c.fr, .int .i64 c.tt, .int .u32 c.tid, .int .u32 c.key, .int .u64 c.lo, .int .u64 c.hi, .slice A6 c.pub.length c6, .slice A7 c.ct.length c7, .slice A8 c.sl.length c8, .slice A9 c.sig.length c9], .agg #[.int .i64 d.fr, .int .i64 d.tt, .int .u32 d.tid, .int .u32 d.key, .int .u64 d.lo, .int .u64 d.hi, .slice dA6 d.pub.length dc6, .slice dA7 d.ct.length dc7, .slice dA8 d.sl.length dc8, .slice dA9 d.sig.length dc9]] rfl (by simp [ev e69, ev e70]) (refSame_calls c d ho hd _ rfl _ _ _ (CV.mono hM) (dCV.mono hM)) ?_
    rintro e w1 ⟨u, rfl, hR, hb⟩
    exact ⟨u, rfl, hK _ _ (below_then hB hB.size hb) (Mono.of_below hb) hR⟩
   ·refine stpy 12 rfl rfl rfl rfl rfl rfl rfl rfl rfl fun a w' hB hM hoff hp K hK => ?_
    obtain ⟨_, e68, rfl⟩ := hp 15 rfl 68 _ rfl rfl
    obtain ⟨_, e71, rfl⟩ := hp 18 rfl 71 _ rfl rfl
    exact op_val (by first | (go_simp; done) | (go_simp; rfl)) (hK _ _ hB (Mono.refl _) rfl)
   ·refine stp rfl rfl rfl rfl rfl fun a w' hB hM hoff hp K hK => ?_
    obtain ⟨_, e65, rfl⟩ := hp 12 rfl 65 _ rfl rfl
    obtain ⟨_, e72, rfl⟩ := hp 19 rfl 72 _ rfl rfl
    exact op_val (by first | (go_simp; done) | (go_simp; rfl)) (hK _ _ hB (Mono.refl _) rfl)
   ·refine stp rfl rfl rfl rfl rfl fun a w' hB hM hoff hp K hK => ?_
    obtain ⟨_, e73, rfl⟩ := hp 20 rfl 73 _ rfl rfl
    exact op_val (by first | (go_simp; done) | (go_simp; rfl)) (hK _ _ hB (Mono.refl _) rfl)
   ·refine stpy 21 rfl rfl rfl rfl rfl rfl rfl rfl rfl fun a w' hB hM hoff hp K hK => ?_
    have e2 : a.tmps[2]? = some (.pointer (some ⟨b4_2, 0, none⟩)) := (hoff 2 rfl).trans rfl
    obtain ⟨d0, d1, d2, d3, d4, d5, d6, d7, d8, d9⟩ := (C2.mono hM).ten
    have hu := Try.underlying28
    have hu2 := Try.underlying25
    exact op_val (by first | (go_simp; done) | (go_simp; rfl)) (hK _ _ hB (Mono.refl _) rfl)
   ·refine stpy 21 rfl rfl rfl rfl rfl rfl rfl rfl rfl fun a w' hB hM hoff hp K hK => ?_
    have e2 : a.tmps[2]? = some (.pointer (some ⟨b4_2, 0, none⟩)) := (hoff 2 rfl).trans rfl
    obtain ⟨d0, d1, d2, d3, d4, d5, d6, d7, d8, d9⟩ := (C2.mono hM).ten
    have hu := Try.underlying28
    have hu2 := Try.underlying25
    exact op_val (by first | (go_simp; done) | (go_simp; rfl)) (hK _ _ hB (Mono.refl _) rfl)
   ·refine stpy 21 rfl rfl rfl rfl rfl rfl rfl rfl rfl fun a w' hB hM hoff hp K hK => ?_
    obtain ⟨_, e75, rfl⟩ := hp 22 rfl 75 _ rfl rfl
    obtain ⟨_, e76, rfl⟩ := hp 23 rfl 76 _ rfl rfl
    refine op_call Try.func12 (by kernel_rfl) rfl #[.agg #[.int .i64 c.fr, .int .i64 c.tt, .int .u32 c.tid, .int .u32 c.key, .int .u64 c.lo, .int .u64 c.hi, .slice A6 c.pub.length c6, .slice A7 c.ct.length c7, .slice A8 c.sl.length c8, .slice A9 c.sig.length c9], .agg #[.int .i64 c.fr, .int .i64 c.tt, .int .u32 c.tid, .int .u32 c.key, .int .u64 c.lo, .int .u64 c.hi, .slice A6 c.pub.length c6, .slice A7 c.ct.length c7, .slice A8 c.sl.length c8, .slice A9 c.sig.length c9]] rfl (by simp [ev e75, ev e76]) (same_calls c c ho ho h6 h7 h8 h9 true (by simp) _ _ _ (CV.mono hM) (CV.mono hM)) ?_
    rintro e w1 ⟨u, rfl, hR, hb⟩
    exact ⟨u, rfl, hK _ _ (below_then hB hB.size hb) (Mono.of_below hb) hR⟩
   ·refine stp rfl rfl rfl rfl rfl fun a w' hB hM hoff hp K hK => ?_
    obtain ⟨_, e74, rfl⟩ := hp 21 rfl 74 _ rfl rfl
    obtain ⟨_, e77, rfl⟩ := hp 24 rfl 77 _ rfl rfl
    exact op_val (by first | (go_simp; done) | (go_simp; rfl)) (hK _ _ hB (Mono.refl _) rfl)
   ·refine stp rfl rfl rfl rfl rfl fun a w' hB hM hoff hp K hK => ?_
    obtain ⟨_, e78, rfl⟩ := hp 25 rfl 78 _ rfl rfl
    exact op_val (by first | (go_simp; done) | (go_simp; rfl)) (hK _ _ hB (Mono.refl _) rfl)
  intro V6 w6 HB6 M6 hφ
  simp only [fillAll, Act.put, List.setIfInBounds_toArray, List.set_cons_zero, List.set_cons_succ]
  replace R6 := R6.mono M6
  replace R7 := R7.mono M6
  replace R8 := R8.mono M6
  replace R9 := R9.mono M6
  replace CV := CV.mono M6
  replace dR6 := dR6.mono M6
  replace dR7 := dR7.mono M6
  replace dR8 := dR8.mono M6
  replace dR9 := dR9.mono M6
  replace dCV := dCV.mono M6
  replace C2 := C2.mono M6
  replace C3 := C3.mono M6
  replace K23 := K23.mono M6
  replace K5 := K5.mono M6
  replace K28 := K28.mono M6
  replace K7 := K7.mono M6
  have z53 : V6 0 = .agg #[.int .i64 c.fr, .int .i64 c.tt, .int .u32 c.tid, .int .u32 c.key, .int .u64 c.lo, .int .u64 c.hi, .slice A6 c.pub.length c6, .slice A7 c.ct.length c7, .slice A8 c.sl.length c8, .slice A9 c.sig.length c9] := hφ 0 _ rfl (by decide)
  have K54 : Row w.heap.size w6 (V6 1) ((if c.Spoken then c.said else [])) := hφ 1 _ rfl (by decide)
  have z55 : V6 2 = .agg #[.int .i64 c.fr, .int .i64 c.tt, .int .u32 c.tid, .int .u32 c.key, .int .u64 c.lo, .int .u64 c.hi, .slice A6 c.pub.length c6, .slice A7 c.ct.length c7, .slice A8 c.sl.length c8, .slice A9 c.sig.length c9] := hφ 2 _ rfl (by decide)
  have K56 : Row w.heap.size w6 (V6 3) ((if c.Spoken then c.said else [])) := hφ 3 _ rfl (by decide)
  have z57 : V6 4 = .bool true := hφ 4 _ rfl (by decide)
  have z58 : V6 5 = .bool true := hφ 5 _ rfl (by decide)
  have z59 : V6 6 = .agg #[.int .i64 c.fr, .int .i64 c.tt, .int .u32 c.tid, .int .u32 c.key, .int .u64 c.lo, .int .u64 c.hi, .slice A6 c.pub.length c6, .slice A7 c.ct.length c7, .slice A8 c.sl.length c8, .slice A9 c.sig.length c9] := hφ 6 _ rfl (by decide)
  have K60 : Row w.heap.size w6 (V6 7) ((if c.Worded then title ++ c.inner else [])) := hφ 7 _ rfl (by decide)
  have z61 : V6 8 = .agg #[.int .i64 c.fr, .int .i64 c.tt, .int .u32 c.tid, .int .u32 c.key, .int .u64 c.lo, .int .u64 c.hi, .slice A6 c.pub.length c6, .slice A7 c.ct.length c7, .slice A8 c.sl.length c8, .slice A9 c.sig.length c9] := hφ 8 _ rfl (by decide)
  have K62 : Row w.heap.size w6 (V6 9) ((if c.Worded then title ++ c.inner else [])) := hφ 9 _ rfl (by decide)
  have z63 : V6 10 = .bool true := hφ 10 _ rfl (by decide)
  have z64 : V6 11 = .bool true := hφ 11 _ rfl (by decide)
  have z65 : V6 12 = .bool true := hφ 12 _ rfl (by decide)
  have z66 : V6 13 = .agg #[.int .i64 c.fr, .int .i64 c.tt, .int .u32 c.tid, .int .u32 c.key, .int .u64 c.lo, .int .u64 c.hi, .slice A6 c.pub.length c6, .slice A7 c.ct.length c7, .slice A8 c.sl.length c8, .slice A9 c.sig.length c9] := hφ 13 _ rfl (by decide)
  have z67 : V6 14 = .agg #[.int .i64 d.fr, .int .i64 d.tt, .int .u32 d.tid, .int .u32 d.key, .int .u64 d.lo, .int .u64 d.hi, .slice dA6 d.pub.length dc6, .slice dA7 d.ct.length dc7, .slice dA8 d.sl.length dc8, .slice dA9 d.sig.length dc9] := hφ 14 _ rfl (by decide)
  have z68 : V6 15 = .bool (decide (c = d)) := hφ 15 _ rfl (by decide)
  have z69 : V6 16 = .agg #[.int .i64 c.fr, .int .i64 c.tt, .int .u32 c.tid, .int .u32 c.key, .int .u64 c.lo, .int .u64 c.hi, .slice A6 c.pub.length c6, .slice A7 c.ct.length c7, .slice A8 c.sl.length c8, .slice A9 c.sig.length c9] := hφ 16 _ rfl (by decide)
  have z70 : V6 17 = .agg #[.int .i64 d.fr, .int .i64 d.tt, .int .u32 d.tid, .int .u32 d.key, .int .u64 d.lo, .int .u64 d.hi, .slice dA6 d.pub.length dc6, .slice dA7 d.ct.length dc7, .slice dA8 d.sl.length dc8, .slice dA9 d.sig.length dc9] := hφ 17 _ rfl (by decide)
  have z71 : V6 18 = .bool (decide (c = d)) := hφ 18 _ rfl (by decide)
  have z72 : V6 19 = .bool true := hφ 19 _ rfl (by decide)
  have z73 : V6 20 = .bool true := hφ 20 _ rfl (by decide)
  have z74 : V6 21 = .bool true := hφ 21 _ rfl (by decide)
  have z75 : V6 22 = .agg #[.int .i64 c.fr, .int .i64 c.tt, .int .u32 c.tid, .int .u32 c.key, .int .u64 c.lo, .int .u64 c.hi, .slice A6 c.pub.length c6, .slice A7 c.ct.length c7, .slice A8 c.sl.length c8, .slice A9 c.sig.length c9] := hφ 22 _ rfl (by decide)
  have z76 : V6 23 = .agg #[.int .i64 c.fr, .int .i64 c.tt, .int .u32 c.tid, .int .u32 c.key, .int .u64 c.lo, .int .u64 c.hi, .slice A6 c.pub.length c6, .slice A7 c.ct.length c7, .slice A8 c.sl.length c8, .slice A9 c.sig.length c9] := hφ 23 _ rfl (by decide)
  have z77 : V6 24 = .bool true := hφ 24 _ rfl (by decide)
  have z78 : V6 25 = .bool true := hφ 25 _ rfl (by decide)
  have z4 : V6 26 = .bool true := hφ 26 _ rfl (by decide)
  simp only [z53, z55, z57, z58, z59, z61, z63, z64, z65, z66, z67, z68, z69, z70, z71, z72, z73, z74, z75, z76, z77, z78, z4]
  clear hφ
  (try simp only [Exit.inBlock, Exit.then])
  repeat (refine wp_seq ?_)
  (try simp only [Exit.inBlock, Exit.then])
  refine wp_ret ?_
  (try simp only [Exit.inBlock, Exit.then])
  go_ret
  exact ⟨_, rfl, rfl, HB6⟩
set_option maxHeartbeats 2000000 in
set_option maxRecDepth 100000 in
theorem puts_not (c d : Cp) (ho : c.Ok) (hd : d.Ok) (v v2 : Value) (w : World) (hv : CapV 0 w v c) (hw : CapV 0 w v2 d) (hc : ¬ (9000 < c.pub.length ∨ 9000 < c.ct.length ∨ 9000 < c.sl.length ∨ 9000 < c.sig.length)) (hdb : ¬ (9000 < d.pub.length ∨ 9000 < d.ct.length ∨ 9000 < d.sl.length ∨ 9000 < d.sig.length)) (h : ¬ c.May) : Ret 4 #[v, v2] w (isV (.bool true)) := by
  obtain ⟨_, _, _, _, rfl, ⟨A6, c6, rfl, l6, r6, _⟩, ⟨A7, c7, rfl, l7, r7, _⟩, ⟨A8, c8, rfl, l8, r8, _⟩, ⟨A9, c9, rfl, l9, r9, _⟩⟩ := hv
  have R6 : Row 0 w (.slice A6 c.pub.length c6) c.pub := Row.of_C r6 l6
  have R7 : Row 0 w (.slice A7 c.ct.length c7) c.ct := Row.of_C r7 l7
  have R8 : Row 0 w (.slice A8 c.sl.length c8) c.sl := Row.of_C r8 l8
  have R9 : Row 0 w (.slice A9 c.sig.length c9) c.sig := Row.of_C r9 l9
  have CV : CapV 0 w (.agg #[.int .i64 c.fr, .int .i64 c.tt, .int .u32 c.tid, .int .u32 c.key, .int .u64 c.lo, .int .u64 c.hi, .slice A6 c.pub.length c6, .slice A7 c.ct.length c7, .slice A8 c.sl.length c8, .slice A9 c.sig.length c9]) c := ⟨_, _, _, _, rfl, R6, R7, R8, R9⟩
  obtain ⟨_, _, _, _, rfl, ⟨dA6, dc6, rfl, dl6, dr6, _⟩, ⟨dA7, dc7, rfl, dl7, dr7, _⟩, ⟨dA8, dc8, rfl, dl8, dr8, _⟩, ⟨dA9, dc9, rfl, dl9, dr9, _⟩⟩ := hw
  have dR6 : Row 0 w (.slice dA6 d.pub.length dc6) d.pub := Row.of_C dr6 dl6
  have dR7 : Row 0 w (.slice dA7 d.ct.length dc7) d.ct := Row.of_C dr7 dl7
  have dR8 : Row 0 w (.slice dA8 d.sl.length dc8) d.sl := Row.of_C dr8 dl8
  have dR9 : Row 0 w (.slice dA9 d.sig.length dc9) d.sig := Row.of_C dr9 dl9
  have dCV : CapV 0 w (.agg #[.int .i64 d.fr, .int .i64 d.tt, .int .u32 d.tid, .int .u32 d.key, .int .u64 d.lo, .int .u64 d.hi, .slice dA6 d.pub.length dc6, .slice dA7 d.ct.length dc7, .slice dA8 d.sl.length dc8, .slice dA9 d.sig.length dc9]) d := ⟨_, _, _, _, rfl, dR6, dR7, dR8, dR9⟩
  have hs : c.pub.length < 65536 := by omega
  have hs2 : c.sl.length < 65536 := by omega
  have hs3 : c.ct.length < 65536 := by omega
  have hs4 : c.sig.length < 65536 := by omega
  have h6 : c.pub.length < 10000 := by omega
  have h7 : c.ct.length < 10000 := by omega
  have h8 : c.sl.length < 10000 := by omega
  have h9 : c.sig.length < 10000 := by omega
  go_enter Try.func4, Try.ntmps4
  have HBw : Below w.heap.size w w := Below.refl _ _
  (try simp only [Exit.inBlock, Exit.then])
  repeat (refine wp_seq ?_)
  refine rgs (B := w.heap.size) (w0 := w) [2, 3, 4] [isBox w.heap.size [.int .i64 c.fr, .int .i64 c.tt, .int .u32 c.tid, .int .u32 c.key, .int .u64 c.lo, .int .u64 c.hi, .slice A6 c.pub.length c6, .slice A7 c.ct.length c7, .slice A8 c.sl.length c8, .slice A9 c.sig.length c9], isBox w.heap.size [.int .i64 d.fr, .int .i64 d.tt, .int .u32 d.tid, .int .u32 d.key, .int .u64 d.lo, .int .u64 d.hi, .slice dA6 d.pub.length dc6, .slice dA7 d.ct.length dc7, .slice dA8 d.sl.length dc8, .slice dA9 d.sig.length dc9], isV (.bool false)] rfl (by decide) rfl HBw ?_ ?_ ?_
  · exact (stb_cons (stb_Box _ _) (stb_cons (stb_Box _ _) (stb_cons (stb_V _) stb_nil)))
  ·refine stepf_cons ?_ (stepf_cons ?_ (stepf_cons ?_ stepf_nil))
   ·refine stp rfl rfl rfl rfl rfl fun a w' hB hM hoff hp K hK => ?_
    have e0 : a.tmps[0]? = some (.agg #[.int .i64 c.fr, .int .i64 c.tt, .int .u32 c.tid, .int .u32 c.key, .int .u64 c.lo, .int .u64 c.hi, .slice A6 c.pub.length c6, .slice A7 c.ct.length c7, .slice A8 c.sl.length c8, .slice A9 c.sig.length c9]) := (hoff 0 rfl).trans rfl
    have hu := Try.underlying28
    have hu2 := Try.underlying25
    refine op_val (v := .pointer (some ⟨w'.heap.size, 0, none⟩)) (w' := w'.alloc (.cells #[.int .i64 c.fr, .int .i64 c.tt, .int .u32 c.tid, .int .u32 c.key, .int .u64 c.lo, .int .u64 c.hi, .slice A6 c.pub.length c6, .slice A7 c.ct.length c7, .slice A8 c.sl.length c8, .slice A9 c.sig.length c9] 28)) (by first | (go_simp; done) | (go_simp; rfl)) (hK _ _ (below_then hB hB.size (below_alloc (Below.refl _ _) _)) (Mono.alloc _ _) ?_)
    exact ⟨_, rfl, hB.size, boxAt_alloc _ _ [.int .i64 c.fr, .int .i64 c.tt, .int .u32 c.tid, .int .u32 c.key, .int .u64 c.lo, .int .u64 c.hi, .slice A6 c.pub.length c6, .slice A7 c.ct.length c7, .slice A8 c.sl.length c8, .slice A9 c.sig.length c9]⟩
   ·refine stp rfl rfl rfl rfl rfl fun a w' hB hM hoff hp K hK => ?_
    have e1 : a.tmps[1]? = some (.agg #[.int .i64 d.fr, .int .i64 d.tt, .int .u32 d.tid, .int .u32 d.key, .int .u64 d.lo, .int .u64 d.hi, .slice dA6 d.pub.length dc6, .slice dA7 d.ct.length dc7, .slice dA8 d.sl.length dc8, .slice dA9 d.sig.length dc9]) := (hoff 1 rfl).trans rfl
    have hu := Try.underlying28
    have hu2 := Try.underlying25
    refine op_val (v := .pointer (some ⟨w'.heap.size, 0, none⟩)) (w' := w'.alloc (.cells #[.int .i64 d.fr, .int .i64 d.tt, .int .u32 d.tid, .int .u32 d.key, .int .u64 d.lo, .int .u64 d.hi, .slice dA6 d.pub.length dc6, .slice dA7 d.ct.length dc7, .slice dA8 d.sl.length dc8, .slice dA9 d.sig.length dc9] 28)) (by first | (go_simp; done) | (go_simp; rfl)) (hK _ _ (below_then hB hB.size (below_alloc (Below.refl _ _) _)) (Mono.alloc _ _) ?_)
    exact ⟨_, rfl, hB.size, boxAt_alloc _ _ [.int .i64 d.fr, .int .i64 d.tt, .int .u32 d.tid, .int .u32 d.key, .int .u64 d.lo, .int .u64 d.hi, .slice dA6 d.pub.length dc6, .slice dA7 d.ct.length dc7, .slice dA8 d.sl.length dc8, .slice dA9 d.sig.length dc9]⟩
   ·refine stp rfl rfl rfl rfl rfl fun a w' hB hM hoff hp K hK => ?_
    exact op_val (by first | (go_simp; done) | (go_simp; rfl)) (hK _ _ hB (Mono.refl _) rfl)
  intro V1 w1 HB1 M1 hφ
  simp only [fillAll, Act.put, List.setIfInBounds_toArray, List.set_cons_zero, List.set_cons_succ]
  replace R6 := R6.mono M1
  replace R7 := R7.mono M1
  replace R8 := R8.mono M1
  replace R9 := R9.mono M1
  replace CV := CV.mono M1
  replace dR6 := dR6.mono M1
  replace dR7 := dR7.mono M1
  replace dR8 := dR8.mono M1
  replace dR9 := dR9.mono M1
  replace dCV := dCV.mono M1
  obtain ⟨b4_2, z2, hb2, C2⟩ := hφ 0 _ rfl (by decide)
  obtain ⟨b4_3, z3, hb3, C3⟩ := hφ 1 _ rfl (by decide)
  have z4 : V1 2 = .bool false := hφ 2 _ rfl (by decide)
  simp only [z2, z3, z4]
  clear hφ
  (try simp only [Exit.inBlock, Exit.then])
  repeat (refine wp_seq ?_)
  refine rgs (B := w.heap.size) (w0 := w) [9, 10, 11, 12, 13, 14, 15, 16, 17, 18] [isV (.bool true), isV (.bool false), isV (.bool false), isV (.agg #[.int .i64 c.fr, .int .i64 c.tt, .int .u32 c.tid, .int .u32 c.key, .int .u64 c.lo, .int .u64 c.hi, .slice A6 c.pub.length c6, .slice A7 c.ct.length c7, .slice A8 c.sl.length c8, .slice A9 c.sig.length c9]), isV (.bool false), isV (.bool false), isV (.bool false), isV (.agg #[.int .i64 d.fr, .int .i64 d.tt, .int .u32 d.tid, .int .u32 d.key, .int .u64 d.lo, .int .u64 d.hi, .slice dA6 d.pub.length dc6, .slice dA7 d.ct.length dc7, .slice dA8 d.sl.length dc8, .slice dA9 d.sig.length dc9]), isV (.bool false), isV (.bool false)] rfl (by decide) rfl HB1 ?_ ?_ ?_
  · exact (stb_cons (stb_V _) (stb_cons (stb_V _) (stb_cons (stb_V _) (stb_cons (stb_V _) (stb_cons (stb_V _) (stb_cons (stb_V _) (stb_cons (stb_V _) (stb_cons (stb_V _) (stb_cons (stb_V _) (stb_cons (stb_V _) stb_nil))))))))))
  ·refine stepf_cons ?_ (stepf_cons ?_ (stepf_cons ?_ (stepf_cons ?_ (stepf_cons ?_ (stepf_cons ?_ (stepf_cons ?_ (stepf_cons ?_ (stepf_cons ?_ (stepf_cons ?_ stepf_nil)))))))))
   ·refine stp rfl rfl rfl rfl rfl fun a w' hB hM hoff hp K hK => ?_
    refine op_call Try.func7 (by kernel_rfl) rfl #[] rfl (by simp []) (live_calls _) ?_
    rintro e w1 ⟨u, rfl, hR, hb⟩
    exact ⟨u, rfl, hK _ _ (below_then hB hB.size hb) (Mono.of_below hb) hR⟩
   ·refine stp rfl rfl rfl rfl rfl fun a w' hB hM hoff hp K hK => ?_
    obtain ⟨_, e9, rfl⟩ := hp 0 rfl 9 _ rfl rfl
    exact op_val (by first | (go_simp; done) | (go_simp; rfl)) (hK _ _ hB (Mono.refl _) rfl)
   ·refine stp rfl rfl rfl rfl rfl fun a w' hB hM hoff hp K hK => ?_
    obtain ⟨_, e10, rfl⟩ := hp 1 rfl 10 _ rfl rfl
    exact op_val (by first | (go_simp; done) | (go_simp; rfl)) (hK _ _ hB (Mono.refl _) rfl)
   ·refine stpy 2 rfl rfl rfl rfl rfl rfl rfl rfl rfl fun a w' hB hM hoff hp K hK => ?_
    have e2 : a.tmps[2]? = some (.pointer (some ⟨b4_2, 0, none⟩)) := (hoff 2 rfl).trans rfl
    obtain ⟨d0, d1, d2, d3, d4, d5, d6, d7, d8, d9⟩ := (C2.mono hM).ten
    have hu := Try.underlying28
    have hu2 := Try.underlying25
    exact op_val (by first | (go_simp; done) | (go_simp; rfl)) (hK _ _ hB (Mono.refl _) rfl)
   ·refine stpy 2 rfl rfl rfl rfl rfl rfl rfl rfl rfl fun a w' hB hM hoff hp K hK => ?_
    obtain ⟨_, e12, rfl⟩ := hp 3 rfl 12 _ rfl rfl
    refine op_call Try.func8 (by kernel_rfl) rfl #[.agg #[.int .i64 c.fr, .int .i64 c.tt, .int .u32 c.tid, .int .u32 c.key, .int .u64 c.lo, .int .u64 c.hi, .slice A6 c.pub.length c6, .slice A7 c.ct.length c7, .slice A8 c.sl.length c8, .slice A9 c.sig.length c9]] rfl (by simp [ev e12]) (big_calls c _ (decide_eq_false hc) _ _ (CV.mono hM)) ?_
    rintro e w1 ⟨u, rfl, hR, hb⟩
    exact ⟨u, rfl, hK _ _ (below_then hB hB.size hb) (Mono.of_below hb) hR⟩
   ·refine stp rfl rfl rfl rfl rfl fun a w' hB hM hoff hp K hK => ?_
    obtain ⟨_, e11, rfl⟩ := hp 2 rfl 11 _ rfl rfl
    obtain ⟨_, e13, rfl⟩ := hp 4 rfl 13 _ rfl rfl
    exact op_val (by first | (go_simp; done) | (go_simp; rfl)) (hK _ _ hB (Mono.refl _) rfl)
   ·refine stp rfl rfl rfl rfl rfl fun a w' hB hM hoff hp K hK => ?_
    obtain ⟨_, e14, rfl⟩ := hp 5 rfl 14 _ rfl rfl
    exact op_val (by first | (go_simp; done) | (go_simp; rfl)) (hK _ _ hB (Mono.refl _) rfl)
   ·refine stpy 6 rfl rfl rfl rfl rfl rfl rfl rfl rfl fun a w' hB hM hoff hp K hK => ?_
    have e3 : a.tmps[3]? = some (.pointer (some ⟨b4_3, 0, none⟩)) := (hoff 3 rfl).trans rfl
    obtain ⟨d0, d1, d2, d3, d4, d5, d6, d7, d8, d9⟩ := (C3.mono hM).ten
    have hu := Try.underlying28
    have hu2 := Try.underlying25
    exact op_val (by first | (go_simp; done) | (go_simp; rfl)) (hK _ _ hB (Mono.refl _) rfl)
   ·refine stpy 6 rfl rfl rfl rfl rfl rfl rfl rfl rfl fun a w' hB hM hoff hp K hK => ?_
    obtain ⟨_, e16, rfl⟩ := hp 7 rfl 16 _ rfl rfl
    refine op_call Try.func8 (by kernel_rfl) rfl #[.agg #[.int .i64 d.fr, .int .i64 d.tt, .int .u32 d.tid, .int .u32 d.key, .int .u64 d.lo, .int .u64 d.hi, .slice dA6 d.pub.length dc6, .slice dA7 d.ct.length dc7, .slice dA8 d.sl.length dc8, .slice dA9 d.sig.length dc9]] rfl (by simp [ev e16]) (big_calls d _ (decide_eq_false hdb) _ _ (dCV.mono hM)) ?_
    rintro e w1 ⟨u, rfl, hR, hb⟩
    exact ⟨u, rfl, hK _ _ (below_then hB hB.size hb) (Mono.of_below hb) hR⟩
   ·refine stp rfl rfl rfl rfl rfl fun a w' hB hM hoff hp K hK => ?_
    obtain ⟨_, e15, rfl⟩ := hp 6 rfl 15 _ rfl rfl
    obtain ⟨_, e17, rfl⟩ := hp 8 rfl 17 _ rfl rfl
    exact op_val (by first | (go_simp; done) | (go_simp; rfl)) (hK _ _ hB (Mono.refl _) rfl)
  intro V2 w2 HB2 M2 hφ
  simp only [fillAll, Act.put, List.setIfInBounds_toArray, List.set_cons_zero, List.set_cons_succ]
  replace R6 := R6.mono M2
  replace R7 := R7.mono M2
  replace R8 := R8.mono M2
  replace R9 := R9.mono M2
  replace CV := CV.mono M2
  replace dR6 := dR6.mono M2
  replace dR7 := dR7.mono M2
  replace dR8 := dR8.mono M2
  replace dR9 := dR9.mono M2
  replace dCV := dCV.mono M2
  replace C2 := C2.mono M2
  replace C3 := C3.mono M2
  have z9 : V2 0 = .bool true := hφ 0 _ rfl (by decide)
  have z10 : V2 1 = .bool false := hφ 1 _ rfl (by decide)
  have z11 : V2 2 = .bool false := hφ 2 _ rfl (by decide)
  have z12 : V2 3 = .agg #[.int .i64 c.fr, .int .i64 c.tt, .int .u32 c.tid, .int .u32 c.key, .int .u64 c.lo, .int .u64 c.hi, .slice A6 c.pub.length c6, .slice A7 c.ct.length c7, .slice A8 c.sl.length c8, .slice A9 c.sig.length c9] := hφ 3 _ rfl (by decide)
  have z13 : V2 4 = .bool false := hφ 4 _ rfl (by decide)
  have z14 : V2 5 = .bool false := hφ 5 _ rfl (by decide)
  have z15 : V2 6 = .bool false := hφ 6 _ rfl (by decide)
  have z16 : V2 7 = .agg #[.int .i64 d.fr, .int .i64 d.tt, .int .u32 d.tid, .int .u32 d.key, .int .u64 d.lo, .int .u64 d.hi, .slice dA6 d.pub.length dc6, .slice dA7 d.ct.length dc7, .slice dA8 d.sl.length dc8, .slice dA9 d.sig.length dc9] := hφ 7 _ rfl (by decide)
  have z17 : V2 8 = .bool false := hφ 8 _ rfl (by decide)
  have z18 : V2 9 = .bool false := hφ 9 _ rfl (by decide)
  simp only [z9, z10, z11, z12, z13, z14, z15, z16, z17, z18]
  clear hφ
  (try simp only [Exit.inBlock, Exit.then])
  repeat (refine wp_seq ?_)
  (try simp only [Exit.inBlock, Exit.then])
  refine wp_cond_false rfl ?_
  refine wp_skip ?_
  (try simp only [Exit.inBlock, Exit.then])
  repeat (refine wp_seq ?_)
  refine rgs (B := w.heap.size) (w0 := w) [21, 22, 20, 23, 24, 5, 6] [isV (.agg #[.int .i64 c.fr, .int .i64 c.tt, .int .u32 c.tid, .int .u32 c.key, .int .u64 c.lo, .int .u64 c.hi, .slice A6 c.pub.length c6, .slice A7 c.ct.length c7, .slice A8 c.sl.length c8, .slice A9 c.sig.length c9]), isTup w.heap.size c.putl 230, isTup w.heap.size c.putl 230, isRow w.heap.size c.putl, isV (.int .i64 230), isRow w.heap.size c.putl, isV (.int .i64 230)] rfl (by decide) rfl HB2 ?_ ?_ ?_
  · exact (stb_cons (stb_V _) (stb_cons (stb_Tup _ _ _) (stb_cons (stb_Tup _ _ _) (stb_cons (stb_Row _ _) (stb_cons (stb_V _) (stb_cons (stb_Row _ _) (stb_cons (stb_V _) stb_nil)))))))
  ·refine stepf_cons ?_ (stepf_cons ?_ (stepf_cons ?_ (stepf_cons ?_ (stepf_cons ?_ (stepf_cons ?_ (stepf_cons ?_ stepf_nil))))))
   ·refine stp rfl rfl rfl rfl rfl fun a w' hB hM hoff hp K hK => ?_
    have e2 : a.tmps[2]? = some (.pointer (some ⟨b4_2, 0, none⟩)) := (hoff 2 rfl).trans rfl
    obtain ⟨d0, d1, d2, d3, d4, d5, d6, d7, d8, d9⟩ := (C2.mono hM).ten
    have hu := Try.underlying28
    have hu2 := Try.underlying25
    exact op_val (by first | (go_simp; done) | (go_simp; rfl)) (hK _ _ hB (Mono.refl _) rfl)
   ·refine stp rfl rfl rfl rfl rfl fun a w' hB hM hoff hp K hK => ?_
    obtain ⟨_, e21, rfl⟩ := hp 0 rfl 21 _ rfl rfl
    refine op_call Try.func13 (by kernel_rfl) rfl #[.agg #[.int .i64 c.fr, .int .i64 c.tt, .int .u32 c.tid, .int .u32 c.key, .int .u64 c.lo, .int .u64 c.hi, .slice A6 c.pub.length c6, .slice A7 c.ct.length c7, .slice A8 c.sl.length c8, .slice A9 c.sig.length c9]] rfl (by simp [ev e21]) ((put_calls c ho hs hs2 hs3 hs4 _ _ (CV.mono hM)).mono (fun e w' h3 => by rw [nmay_err h] at h3; exact h3)) ?_
    rintro e w1 ⟨u, rfl, hR, hb⟩
    exact ⟨u, rfl, hK _ _ (below_then hB hB.size hb) (Mono.of_below hb) (let ⟨u, h1, h2⟩ := hR; ⟨u, h1, h2.lower hB.size⟩)⟩
   ·refine stp rfl rfl rfl rfl rfl fun a w' hB hM hoff hp K hK => ?_
    obtain ⟨v22, e22, h22⟩ := hp 1 rfl 22 _ rfl rfl
    exact op_val (by first | (go_simp; done) | (go_simp; rfl)) (hK _ _ hB (Mono.refl _) h22)
   ·refine stp rfl rfl rfl rfl rfl fun a w' hB hM hoff hp K hK => ?_
    obtain ⟨v20, e20, h20⟩ := hp 2 rfl 20 _ rfl rfl
    obtain ⟨u, ev, hR⟩ := h20
    subst ev
    exact op_val (by first | (go_simp; done) | (go_simp; rfl)) (hK _ _ hB (Mono.refl _) hR)
   ·refine stp rfl rfl rfl rfl rfl fun a w' hB hM hoff hp K hK => ?_
    obtain ⟨v20, e20, h20⟩ := hp 2 rfl 20 _ rfl rfl
    obtain ⟨u, ev, hR⟩ := h20
    subst ev
    exact op_val (by first | (go_simp; done) | (go_simp; rfl)) (hK _ _ hB (Mono.refl _) rfl)
   ·refine stp rfl rfl rfl rfl rfl fun a w' hB hM hoff hp K hK => ?_
    obtain ⟨v23, e23, h23⟩ := hp 3 rfl 23 _ rfl rfl
    exact op_val (by first | (go_simp; done) | (go_simp; rfl)) (hK _ _ hB (Mono.refl _) h23)
   ·refine stp rfl rfl rfl rfl rfl fun a w' hB hM hoff hp K hK => ?_
    obtain ⟨_, e24, rfl⟩ := hp 4 rfl 24 _ rfl rfl
    exact op_val (by first | (go_simp; done) | (go_simp; rfl)) (hK _ _ hB (Mono.refl _) rfl)
  intro V3 w3 HB3 M3 hφ
  simp only [fillAll, Act.put, List.setIfInBounds_toArray, List.set_cons_zero, List.set_cons_succ]
  replace R6 := R6.mono M3
  replace R7 := R7.mono M3
  replace R8 := R8.mono M3
  replace R9 := R9.mono M3
  replace CV := CV.mono M3
  replace dR6 := dR6.mono M3
  replace dR7 := dR7.mono M3
  replace dR8 := dR8.mono M3
  replace dR9 := dR9.mono M3
  replace dCV := dCV.mono M3
  replace C2 := C2.mono M3
  replace C3 := C3.mono M3
  have z21 : V3 0 = .agg #[.int .i64 c.fr, .int .i64 c.tt, .int .u32 c.tid, .int .u32 c.key, .int .u64 c.lo, .int .u64 c.hi, .slice A6 c.pub.length c6, .slice A7 c.ct.length c7, .slice A8 c.sl.length c8, .slice A9 c.sig.length c9] := hφ 0 _ rfl (by decide)
  have K22 : isTup w.heap.size c.putl 230 (V3 1) w3 := hφ 1 _ rfl (by decide)
  have K20 : isTup w.heap.size c.putl 230 (V3 2) w3 := hφ 2 _ rfl (by decide)
  have K23 : Row w.heap.size w3 (V3 3) c.putl := hφ 3 _ rfl (by decide)
  have z24 : V3 4 = .int .i64 230 := hφ 4 _ rfl (by decide)
  have K5 : Row w.heap.size w3 (V3 5) c.putl := hφ 5 _ rfl (by decide)
  have z6 : V3 6 = .int .i64 230 := hφ 6 _ rfl (by decide)
  simp only [z21, z24, z6]
  clear hφ
  (try simp only [Exit.inBlock, Exit.then])
  repeat (refine wp_seq ?_)
  refine rgs (B := w.heap.size) (w0 := w) [26, 27, 25, 28, 29, 7, 8] [isV (.agg #[.int .i64 c.fr, .int .i64 c.tt, .int .u32 c.tid, .int .u32 c.key, .int .u64 c.lo, .int .u64 c.hi, .slice A6 c.pub.length c6, .slice A7 c.ct.length c7, .slice A8 c.sl.length c8, .slice A9 c.sig.length c9]), isTup w.heap.size c.putl 230, isTup w.heap.size c.putl 230, isRow w.heap.size c.putl, isV (.int .i64 230), isRow w.heap.size c.putl, isV (.int .i64 230)] rfl (by decide) rfl HB3 ?_ ?_ ?_
  · exact (stb_cons (stb_V _) (stb_cons (stb_Tup _ _ _) (stb_cons (stb_Tup _ _ _) (stb_cons (stb_Row _ _) (stb_cons (stb_V _) (stb_cons (stb_Row _ _) (stb_cons (stb_V _) stb_nil)))))))
  ·refine stepf_cons ?_ (stepf_cons ?_ (stepf_cons ?_ (stepf_cons ?_ (stepf_cons ?_ (stepf_cons ?_ (stepf_cons ?_ stepf_nil))))))
   ·refine stp rfl rfl rfl rfl rfl fun a w' hB hM hoff hp K hK => ?_
    have e2 : a.tmps[2]? = some (.pointer (some ⟨b4_2, 0, none⟩)) := (hoff 2 rfl).trans rfl
    obtain ⟨d0, d1, d2, d3, d4, d5, d6, d7, d8, d9⟩ := (C2.mono hM).ten
    have hu := Try.underlying28
    have hu2 := Try.underlying25
    exact op_val (by first | (go_simp; done) | (go_simp; rfl)) (hK _ _ hB (Mono.refl _) rfl)
   ·refine stp rfl rfl rfl rfl rfl fun a w' hB hM hoff hp K hK => ?_
    obtain ⟨_, e26, rfl⟩ := hp 0 rfl 26 _ rfl rfl
    refine op_call Try.func14 (by kernel_rfl) rfl #[.agg #[.int .i64 c.fr, .int .i64 c.tt, .int .u32 c.tid, .int .u32 c.key, .int .u64 c.lo, .int .u64 c.hi, .slice A6 c.pub.length c6, .slice A7 c.ct.length c7, .slice A8 c.sl.length c8, .slice A9 c.sig.length c9]] rfl (by simp [ev e26]) ((refPut_calls c ho hs hs2 hs3 hs4 _ _ (CV.mono hM)).mono (fun e w' h3 => by rw [nmay_err h] at h3; exact h3)) ?_
    rintro e w1 ⟨u, rfl, hR, hb⟩
    exact ⟨u, rfl, hK _ _ (below_then hB hB.size hb) (Mono.of_below hb) (let ⟨u, h1, h2⟩ := hR; ⟨u, h1, h2.lower hB.size⟩)⟩
   ·refine stp rfl rfl rfl rfl rfl fun a w' hB hM hoff hp K hK => ?_
    obtain ⟨v27, e27, h27⟩ := hp 1 rfl 27 _ rfl rfl
    exact op_val (by first | (go_simp; done) | (go_simp; rfl)) (hK _ _ hB (Mono.refl _) h27)
   ·refine stp rfl rfl rfl rfl rfl fun a w' hB hM hoff hp K hK => ?_
    obtain ⟨v25, e25, h25⟩ := hp 2 rfl 25 _ rfl rfl
    obtain ⟨u, ev, hR⟩ := h25
    subst ev
    exact op_val (by first | (go_simp; done) | (go_simp; rfl)) (hK _ _ hB (Mono.refl _) hR)
   ·refine stp rfl rfl rfl rfl rfl fun a w' hB hM hoff hp K hK => ?_
    obtain ⟨v25, e25, h25⟩ := hp 2 rfl 25 _ rfl rfl
    obtain ⟨u, ev, hR⟩ := h25
    subst ev
    exact op_val (by first | (go_simp; done) | (go_simp; rfl)) (hK _ _ hB (Mono.refl _) rfl)
   ·refine stp rfl rfl rfl rfl rfl fun a w' hB hM hoff hp K hK => ?_
    obtain ⟨v28, e28, h28⟩ := hp 3 rfl 28 _ rfl rfl
    exact op_val (by first | (go_simp; done) | (go_simp; rfl)) (hK _ _ hB (Mono.refl _) h28)
   ·refine stp rfl rfl rfl rfl rfl fun a w' hB hM hoff hp K hK => ?_
    obtain ⟨_, e29, rfl⟩ := hp 4 rfl 29 _ rfl rfl
    exact op_val (by first | (go_simp; done) | (go_simp; rfl)) (hK _ _ hB (Mono.refl _) rfl)
  intro V4 w4 HB4 M4 hφ
  simp only [fillAll, Act.put, List.setIfInBounds_toArray, List.set_cons_zero, List.set_cons_succ]
  replace R6 := R6.mono M4
  replace R7 := R7.mono M4
  replace R8 := R8.mono M4
  replace R9 := R9.mono M4
  replace CV := CV.mono M4
  replace dR6 := dR6.mono M4
  replace dR7 := dR7.mono M4
  replace dR8 := dR8.mono M4
  replace dR9 := dR9.mono M4
  replace dCV := dCV.mono M4
  replace C2 := C2.mono M4
  replace C3 := C3.mono M4
  replace K23 := K23.mono M4
  replace K5 := K5.mono M4
  have z26 : V4 0 = .agg #[.int .i64 c.fr, .int .i64 c.tt, .int .u32 c.tid, .int .u32 c.key, .int .u64 c.lo, .int .u64 c.hi, .slice A6 c.pub.length c6, .slice A7 c.ct.length c7, .slice A8 c.sl.length c8, .slice A9 c.sig.length c9] := hφ 0 _ rfl (by decide)
  have K27 : isTup w.heap.size c.putl 230 (V4 1) w4 := hφ 1 _ rfl (by decide)
  have K25 : isTup w.heap.size c.putl 230 (V4 2) w4 := hφ 2 _ rfl (by decide)
  have K28 : Row w.heap.size w4 (V4 3) c.putl := hφ 3 _ rfl (by decide)
  have z29 : V4 4 = .int .i64 230 := hφ 4 _ rfl (by decide)
  have K7 : Row w.heap.size w4 (V4 5) c.putl := hφ 5 _ rfl (by decide)
  have z8 : V4 6 = .int .i64 230 := hφ 6 _ rfl (by decide)
  simp only [z26, z29, z8]
  clear hφ
  (try simp only [Exit.inBlock, Exit.then])
  repeat (refine wp_seq ?_)
  refine rg (B := w.heap.size) (w0 := w) (by kernel_rfl) (by decide +kernel) [30, 31, 32, 33, 34, 35, 36, 37, 38, 39, 40, 41, 42, 43, 44, 45, 46, 47, 48, 49, 50, 51, 52] [isV (V3 5), isV (V4 5), isV (.bool true), isV (.bool false), isV (.bool false), isV (.int .i64 230), isV (.int .i64 230), isV (.bool false), isV (.bool false), isV (.bool false), isV (.agg #[.int .i64 c.fr, .int .i64 c.tt, .int .u32 c.tid, .int .u32 c.key, .int .u64 c.lo, .int .u64 c.hi, .slice A6 c.pub.length c6, .slice A7 c.ct.length c7, .slice A8 c.sl.length c8, .slice A9 c.sig.length c9]), isV (.int .i64 230), isV (.bool false), isV (.agg #[.int .i64 c.fr, .int .i64 c.tt, .int .u32 c.tid, .int .u32 c.key, .int .u64 c.lo, .int .u64 c.hi, .slice A6 c.pub.length c6, .slice A7 c.ct.length c7, .slice A8 c.sl.length c8, .slice A9 c.sig.length c9]), isV (.bool false), isV (.bool false), isV (.bool false), isV (.bool false), isV (.agg #[.int .i64 c.fr, .int .i64 c.tt, .int .u32 c.tid, .int .u32 c.key, .int .u64 c.lo, .int .u64 c.hi, .slice A6 c.pub.length c6, .slice A7 c.ct.length c7, .slice A8 c.sl.length c8, .slice A9 c.sig.length c9]), isV (.int .i64 230), isV (.int .i64 230), isV (.bool false), isV (.bool false)] rfl (by decide) rfl HB4 ?_ ?_ ?_
  · exact (stb_cons (stb_V _) (stb_cons (stb_V _) (stb_cons (stb_V _) (stb_cons (stb_V _) (stb_cons (stb_V _) (stb_cons (stb_V _) (stb_cons (stb_V _) (stb_cons (stb_V _) (stb_cons (stb_V _) (stb_cons (stb_V _) (stb_cons (stb_V _) (stb_cons (stb_V _) (stb_cons (stb_V _) (stb_cons (stb_V _) (stb_cons (stb_V _) (stb_cons (stb_V _) (stb_cons (stb_V _) (stb_cons (stb_V _) (stb_cons (stb_V _) (stb_cons (stb_V _) (stb_cons (stb_V _) (stb_cons (stb_V _) (stb_cons (stb_V _) stb_nil)))))))))))))))))))))))
  ·refine stepf_cons ?_ (stepf_cons ?_ (stepf_cons ?_ (stepf_cons ?_ (stepf_cons ?_ (stepf_cons ?_ (stepf_cons ?_ (stepf_cons ?_ (stepf_cons ?_ (stepf_cons ?_ (stepf_cons ?_ (stepf_cons ?_ (stepf_cons ?_ (stepf_cons ?_ (stepf_cons ?_ (stepf_cons ?_ (stepf_cons ?_ (stepf_cons ?_ (stepf_cons ?_ (stepf_cons ?_ (stepf_cons ?_ (stepf_cons ?_ (stepf_cons ?_ stepf_nil))))))))))))))))))))))
   ·refine stp rfl rfl rfl rfl rfl fun a w' hB hM hoff hp K hK => ?_
    have e5 : a.tmps[5]? = some (V3 5) := (hoff 5 rfl).trans rfl
    exact op_val (by first | (go_simp; done) | (go_simp; rfl)) (hK _ _ hB (Mono.refl _) rfl)
   ·refine stp rfl rfl rfl rfl rfl fun a w' hB hM hoff hp K hK => ?_
    have e7 : a.tmps[7]? = some (V4 5) := (hoff 7 rfl).trans rfl
    exact op_val (by first | (go_simp; done) | (go_simp; rfl)) (hK _ _ hB (Mono.refl _) rfl)
   ·refine stp rfl rfl rfl rfl rfl fun a w' hB hM hoff hp K hK => ?_
    obtain ⟨_, e30, rfl⟩ := hp 0 rfl 30 _ rfl rfl
    obtain ⟨_, e31, rfl⟩ := hp 1 rfl 31 _ rfl rfl
    refine op_call Try.func11 (by kernel_rfl) rfl #[V3 5, V4 5] rfl (by simp [ev e30, ev e31]) (equal_calls _ _ (putl_byt c ho) (putl_byt c ho) true (by simp) _ _ _ (K5.mono hM) (K7.mono hM)) ?_
    rintro e w1 ⟨u, rfl, hR, hb⟩
    exact ⟨u, rfl, hK _ _ (below_then hB hB.size hb) (Mono.of_below hb) hR⟩
   ·refine stp rfl rfl rfl rfl rfl fun a w' hB hM hoff hp K hK => ?_
    obtain ⟨_, e32, rfl⟩ := hp 2 rfl 32 _ rfl rfl
    exact op_val (by first | (go_simp; done) | (go_simp; rfl)) (hK _ _ hB (Mono.refl _) rfl)
   ·refine stp rfl rfl rfl rfl rfl fun a w' hB hM hoff hp K hK => ?_
    obtain ⟨_, e33, rfl⟩ := hp 3 rfl 33 _ rfl rfl
    exact op_val (by first | (go_simp; done) | (go_simp; rfl)) (hK _ _ hB (Mono.refl _) rfl)
   ·refine stpy 4 rfl rfl rfl rfl rfl rfl rfl rfl rfl fun a w' hB hM hoff hp K hK => ?_
    have e6 : a.tmps[6]? = some (.int .i64 230) := (hoff 6 rfl).trans rfl
    exact op_val (by first | (go_simp; done) | (go_simp; rfl)) (hK _ _ hB (Mono.refl _) rfl)
   ·refine stpy 4 rfl rfl rfl rfl rfl rfl rfl rfl rfl fun a w' hB hM hoff hp K hK => ?_
    have e8 : a.tmps[8]? = some (.int .i64 230) := (hoff 8 rfl).trans rfl
    exact op_val (by first | (go_simp; done) | (go_simp; rfl)) (hK _ _ hB (Mono.refl _) rfl)
   ·refine stpy 4 rfl rfl rfl rfl rfl rfl rfl rfl rfl fun a w' hB hM hoff hp K hK => ?_
    obtain ⟨_, e35, rfl⟩ := hp 5 rfl 35 _ rfl rfl
    obtain ⟨_, e36, rfl⟩ := hp 6 rfl 36 _ rfl rfl
    exact op_val (by first | (go_simp; done) | (go_simp; rfl)) (hK _ _ hB (Mono.refl _) rfl)
   ·refine stp rfl rfl rfl rfl rfl fun a w' hB hM hoff hp K hK => ?_
    obtain ⟨_, e34, rfl⟩ := hp 4 rfl 34 _ rfl rfl
    obtain ⟨_, e37, rfl⟩ := hp 7 rfl 37 _ rfl rfl
    exact op_val (by first | (go_simp; done) | (go_simp; rfl)) (hK _ _ hB (Mono.refl _) rfl)
   ·refine stp rfl rfl rfl rfl rfl fun a w' hB hM hoff hp K hK => ?_
    obtain ⟨_, e38, rfl⟩ := hp 8 rfl 38 _ rfl rfl
    exact op_val (by first | (go_simp; done) | (go_simp; rfl)) (hK _ _ hB (Mono.refl _) rfl)
   ·refine stpy 9 rfl rfl rfl rfl rfl rfl rfl rfl rfl fun a w' hB hM hoff hp K hK => ?_
    have e2 : a.tmps[2]? = some (.pointer (some ⟨b4_2, 0, none⟩)) := (hoff 2 rfl).trans rfl
    obtain ⟨d0, d1, d2, d3, d4, d5, d6, d7, d8, d9⟩ := (C2.mono hM).ten
    have hu := Try.underlying28
    have hu2 := Try.underlying25
    exact op_val (by first | (go_simp; done) | (go_simp; rfl)) (hK _ _ hB (Mono.refl _) rfl)
   ·refine stpy 9 rfl rfl rfl rfl rfl rfl rfl rfl rfl fun a w' hB hM hoff hp K hK => ?_
    obtain ⟨_, e40, rfl⟩ := hp 10 rfl 40 _ rfl rfl
    refine op_call Try.func15 (by kernel_rfl) rfl #[.agg #[.int .i64 c.fr, .int .i64 c.tt, .int .u32 c.tid, .int .u32 c.key, .int .u64 c.lo, .int .u64 c.hi, .slice A6 c.pub.length c6, .slice A7 c.ct.length c7, .slice A8 c.sl.length c8, .slice A9 c.sig.length c9]] rfl (by simp [ev e40]) ((check_calls c ho hs hs2 hs3 hs4 _ _ (CV.mono hM)).mono (fun e w' h3 => by rw [nmay_err h] at h3; exact h3)) ?_
    rintro e w1 ⟨u, rfl, hR, hb⟩
    exact ⟨u, rfl, hK _ _ (below_then hB hB.size hb) (Mono.of_below hb) hR⟩
   ·refine stpy 9 rfl rfl rfl rfl rfl rfl rfl rfl rfl fun a w' hB hM hoff hp K hK => ?_
    obtain ⟨_, e41, rfl⟩ := hp 11 rfl 41 _ rfl rfl
    exact op_val (by first | (go_simp; done) | (go_simp; rfl)) (hK _ _ hB (Mono.refl _) rfl)
   ·refine stpy 9 rfl rfl rfl rfl rfl rfl rfl rfl rfl fun a w' hB hM hoff hp K hK => ?_
    have e2 : a.tmps[2]? = some (.pointer (some ⟨b4_2, 0, none⟩)) := (hoff 2 rfl).trans rfl
    obtain ⟨d0, d1, d2, d3, d4, d5, d6, d7, d8, d9⟩ := (C2.mono hM).ten
    have hu := Try.underlying28
    have hu2 := Try.underlying25
    exact op_val (by first | (go_simp; done) | (go_simp; rfl)) (hK _ _ hB (Mono.refl _) rfl)
   ·refine stpy 9 rfl rfl rfl rfl rfl rfl rfl rfl rfl fun a w' hB hM hoff hp K hK => ?_
    obtain ⟨_, e43, rfl⟩ := hp 13 rfl 43 _ rfl rfl
    refine op_call Try.func9 (by kernel_rfl) rfl #[.agg #[.int .i64 c.fr, .int .i64 c.tt, .int .u32 c.tid, .int .u32 c.key, .int .u64 c.lo, .int .u64 c.hi, .slice A6 c.pub.length c6, .slice A7 c.ct.length c7, .slice A8 c.sl.length c8, .slice A9 c.sig.length c9]] rfl (by simp [ev e43]) (refMay_calls c _ (decide_eq_false h) _ _ (CV.mono hM)) ?_
    rintro e w1 ⟨u, rfl, hR, hb⟩
    exact ⟨u, rfl, hK _ _ (below_then hB hB.size hb) (Mono.of_below hb) hR⟩
   ·refine stpy 9 rfl rfl rfl rfl rfl rfl rfl rfl rfl fun a w' hB hM hoff hp K hK => ?_
    obtain ⟨_, e42, rfl⟩ := hp 12 rfl 42 _ rfl rfl
    obtain ⟨_, e44, rfl⟩ := hp 14 rfl 44 _ rfl rfl
    exact op_val (by first | (go_simp; done) | (go_simp; rfl)) (hK _ _ hB (Mono.refl _) rfl)
   ·refine stp rfl rfl rfl rfl rfl fun a w' hB hM hoff hp K hK => ?_
    obtain ⟨_, e39, rfl⟩ := hp 9 rfl 39 _ rfl rfl
    obtain ⟨_, e45, rfl⟩ := hp 15 rfl 45 _ rfl rfl
    exact op_val (by first | (go_simp; done) | (go_simp; rfl)) (hK _ _ hB (Mono.refl _) rfl)
   ·refine stp rfl rfl rfl rfl rfl fun a w' hB hM hoff hp K hK => ?_
    obtain ⟨_, e46, rfl⟩ := hp 16 rfl 46 _ rfl rfl
    exact op_val (by first | (go_simp; done) | (go_simp; rfl)) (hK _ _ hB (Mono.refl _) rfl)
   ·refine stpy 17 rfl rfl rfl rfl rfl rfl rfl rfl rfl fun a w' hB hM hoff hp K hK => ?_
    have e2 : a.tmps[2]? = some (.pointer (some ⟨b4_2, 0, none⟩)) := (hoff 2 rfl).trans rfl
    obtain ⟨d0, d1, d2, d3, d4, d5, d6, d7, d8, d9⟩ := (C2.mono hM).ten
    have hu := Try.underlying28
    have hu2 := Try.underlying25
    exact op_val (by first | (go_simp; done) | (go_simp; rfl)) (hK _ _ hB (Mono.refl _) rfl)
   ·refine stpy 17 rfl rfl rfl rfl rfl rfl rfl rfl rfl fun a w' hB hM hoff hp K hK => ?_
    obtain ⟨_, e48, rfl⟩ := hp 18 rfl 48 _ rfl rfl
    refine op_call Try.func15 (by kernel_rfl) rfl #[.agg #[.int .i64 c.fr, .int .i64 c.tt, .int .u32 c.tid, .int .u32 c.key, .int .u64 c.lo, .int .u64 c.hi, .slice A6 c.pub.length c6, .slice A7 c.ct.length c7, .slice A8 c.sl.length c8, .slice A9 c.sig.length c9]] rfl (by simp [ev e48]) ((check_calls c ho hs hs2 hs3 hs4 _ _ (CV.mono hM)).mono (fun e w' h3 => by rw [nmay_err h] at h3; exact h3)) ?_
    rintro e w1 ⟨u, rfl, hR, hb⟩
    exact ⟨u, rfl, hK _ _ (below_then hB hB.size hb) (Mono.of_below hb) hR⟩
   ·refine stpy 17 rfl rfl rfl rfl rfl rfl rfl rfl rfl fun a w' hB hM hoff hp K hK => ?_
    have e8 : a.tmps[8]? = some (.int .i64 230) := (hoff 8 rfl).trans rfl
    exact op_val (by first | (go_simp; done) | (go_simp; rfl)) (hK _ _ hB (Mono.refl _) rfl)
   ·refine stpy 17 rfl rfl rfl rfl rfl rfl rfl rfl rfl fun a w' hB hM hoff hp K hK => ?_
    obtain ⟨_, e49, rfl⟩ := hp 19 rfl 49 _ rfl rfl
    obtain ⟨_, e50, rfl⟩ := hp 20 rfl 50 _ rfl rfl
    exact op_val (by first | (go_simp; done) | (go_simp; rfl)) (hK _ _ hB (Mono.refl _) rfl)
   ·refine stp rfl rfl rfl rfl rfl fun a w' hB hM hoff hp K hK => ?_
    obtain ⟨_, e47, rfl⟩ := hp 17 rfl 47 _ rfl rfl
    obtain ⟨_, e51, rfl⟩ := hp 21 rfl 51 _ rfl rfl
    exact op_val (by first | (go_simp; done) | (go_simp; rfl)) (hK _ _ hB (Mono.refl _) rfl)
  intro V5 w5 HB5 M5 hφ
  simp only [fillAll, Act.put, List.setIfInBounds_toArray, List.set_cons_zero, List.set_cons_succ]
  replace R6 := R6.mono M5
  replace R7 := R7.mono M5
  replace R8 := R8.mono M5
  replace R9 := R9.mono M5
  replace CV := CV.mono M5
  replace dR6 := dR6.mono M5
  replace dR7 := dR7.mono M5
  replace dR8 := dR8.mono M5
  replace dR9 := dR9.mono M5
  replace dCV := dCV.mono M5
  replace C2 := C2.mono M5
  replace C3 := C3.mono M5
  replace K23 := K23.mono M5
  replace K5 := K5.mono M5
  replace K28 := K28.mono M5
  replace K7 := K7.mono M5
  have z30 : V5 0 = V3 5 := hφ 0 _ rfl (by decide)
  have z31 : V5 1 = V4 5 := hφ 1 _ rfl (by decide)
  have z32 : V5 2 = .bool true := hφ 2 _ rfl (by decide)
  have z33 : V5 3 = .bool false := hφ 3 _ rfl (by decide)
  have z34 : V5 4 = .bool false := hφ 4 _ rfl (by decide)
  have z35 : V5 5 = .int .i64 230 := hφ 5 _ rfl (by decide)
  have z36 : V5 6 = .int .i64 230 := hφ 6 _ rfl (by decide)
  have z37 : V5 7 = .bool false := hφ 7 _ rfl (by decide)
  have z38 : V5 8 = .bool false := hφ 8 _ rfl (by decide)
  have z39 : V5 9 = .bool false := hφ 9 _ rfl (by decide)
  have z40 : V5 10 = .agg #[.int .i64 c.fr, .int .i64 c.tt, .int .u32 c.tid, .int .u32 c.key, .int .u64 c.lo, .int .u64 c.hi, .slice A6 c.pub.length c6, .slice A7 c.ct.length c7, .slice A8 c.sl.length c8, .slice A9 c.sig.length c9] := hφ 10 _ rfl (by decide)
  have z41 : V5 11 = .int .i64 230 := hφ 11 _ rfl (by decide)
  have z42 : V5 12 = .bool false := hφ 12 _ rfl (by decide)
  have z43 : V5 13 = .agg #[.int .i64 c.fr, .int .i64 c.tt, .int .u32 c.tid, .int .u32 c.key, .int .u64 c.lo, .int .u64 c.hi, .slice A6 c.pub.length c6, .slice A7 c.ct.length c7, .slice A8 c.sl.length c8, .slice A9 c.sig.length c9] := hφ 13 _ rfl (by decide)
  have z44 : V5 14 = .bool false := hφ 14 _ rfl (by decide)
  have z45 : V5 15 = .bool false := hφ 15 _ rfl (by decide)
  have z46 : V5 16 = .bool false := hφ 16 _ rfl (by decide)
  have z47 : V5 17 = .bool false := hφ 17 _ rfl (by decide)
  have z48 : V5 18 = .agg #[.int .i64 c.fr, .int .i64 c.tt, .int .u32 c.tid, .int .u32 c.key, .int .u64 c.lo, .int .u64 c.hi, .slice A6 c.pub.length c6, .slice A7 c.ct.length c7, .slice A8 c.sl.length c8, .slice A9 c.sig.length c9] := hφ 18 _ rfl (by decide)
  have z49 : V5 19 = .int .i64 230 := hφ 19 _ rfl (by decide)
  have z50 : V5 20 = .int .i64 230 := hφ 20 _ rfl (by decide)
  have z51 : V5 21 = .bool false := hφ 21 _ rfl (by decide)
  have z52 : V5 22 = .bool false := hφ 22 _ rfl (by decide)
  simp only [z30, z31, z32, z33, z34, z35, z36, z37, z38, z39, z40, z41, z42, z43, z44, z45, z46, z47, z48, z49, z50, z51, z52]
  clear hφ
  (try simp only [Exit.inBlock, Exit.then])
  repeat (refine wp_seq ?_)
  (try simp only [Exit.inBlock, Exit.then])
  refine wp_cond_false rfl ?_
  refine wp_skip ?_
  (try simp only [Exit.inBlock, Exit.then])
  repeat (refine wp_seq ?_)
  refine rg (B := w.heap.size) (w0 := w) (by kernel_rfl) (by decide +kernel) [53, 54, 55, 56, 57, 58, 59, 60, 61, 62, 63, 64, 65, 66, 67, 68, 69, 70, 71, 72, 73, 74, 75, 76, 77, 78, 4] [isV (.agg #[.int .i64 c.fr, .int .i64 c.tt, .int .u32 c.tid, .int .u32 c.key, .int .u64 c.lo, .int .u64 c.hi, .slice A6 c.pub.length c6, .slice A7 c.ct.length c7, .slice A8 c.sl.length c8, .slice A9 c.sig.length c9]), isRow w.heap.size ((if c.Spoken then c.said else [])), isV (.agg #[.int .i64 c.fr, .int .i64 c.tt, .int .u32 c.tid, .int .u32 c.key, .int .u64 c.lo, .int .u64 c.hi, .slice A6 c.pub.length c6, .slice A7 c.ct.length c7, .slice A8 c.sl.length c8, .slice A9 c.sig.length c9]), isRow w.heap.size ((if c.Spoken then c.said else [])), isV (.bool true), isV (.bool true), isV (.agg #[.int .i64 c.fr, .int .i64 c.tt, .int .u32 c.tid, .int .u32 c.key, .int .u64 c.lo, .int .u64 c.hi, .slice A6 c.pub.length c6, .slice A7 c.ct.length c7, .slice A8 c.sl.length c8, .slice A9 c.sig.length c9]), isRow w.heap.size ((if c.Worded then title ++ c.inner else [])), isV (.agg #[.int .i64 c.fr, .int .i64 c.tt, .int .u32 c.tid, .int .u32 c.key, .int .u64 c.lo, .int .u64 c.hi, .slice A6 c.pub.length c6, .slice A7 c.ct.length c7, .slice A8 c.sl.length c8, .slice A9 c.sig.length c9]), isRow w.heap.size ((if c.Worded then title ++ c.inner else [])), isV (.bool true), isV (.bool true), isV (.bool true), isV (.agg #[.int .i64 c.fr, .int .i64 c.tt, .int .u32 c.tid, .int .u32 c.key, .int .u64 c.lo, .int .u64 c.hi, .slice A6 c.pub.length c6, .slice A7 c.ct.length c7, .slice A8 c.sl.length c8, .slice A9 c.sig.length c9]), isV (.agg #[.int .i64 d.fr, .int .i64 d.tt, .int .u32 d.tid, .int .u32 d.key, .int .u64 d.lo, .int .u64 d.hi, .slice dA6 d.pub.length dc6, .slice dA7 d.ct.length dc7, .slice dA8 d.sl.length dc8, .slice dA9 d.sig.length dc9]), isV (.bool (decide (c = d))), isV (.agg #[.int .i64 c.fr, .int .i64 c.tt, .int .u32 c.tid, .int .u32 c.key, .int .u64 c.lo, .int .u64 c.hi, .slice A6 c.pub.length c6, .slice A7 c.ct.length c7, .slice A8 c.sl.length c8, .slice A9 c.sig.length c9]), isV (.agg #[.int .i64 d.fr, .int .i64 d.tt, .int .u32 d.tid, .int .u32 d.key, .int .u64 d.lo, .int .u64 d.hi, .slice dA6 d.pub.length dc6, .slice dA7 d.ct.length dc7, .slice dA8 d.sl.length dc8, .slice dA9 d.sig.length dc9]), isV (.bool (decide (c = d))), isV (.bool true), isV (.bool true), isV (.bool true), isV (.agg #[.int .i64 c.fr, .int .i64 c.tt, .int .u32 c.tid, .int .u32 c.key, .int .u64 c.lo, .int .u64 c.hi, .slice A6 c.pub.length c6, .slice A7 c.ct.length c7, .slice A8 c.sl.length c8, .slice A9 c.sig.length c9]), isV (.agg #[.int .i64 c.fr, .int .i64 c.tt, .int .u32 c.tid, .int .u32 c.key, .int .u64 c.lo, .int .u64 c.hi, .slice A6 c.pub.length c6, .slice A7 c.ct.length c7, .slice A8 c.sl.length c8, .slice A9 c.sig.length c9]), isV (.bool true), isV (.bool true), isV (.bool true)] rfl (by decide) rfl HB5 ?_ ?_ ?_
  · exact (stb_cons (stb_V _) (stb_cons (stb_Row _ _) (stb_cons (stb_V _) (stb_cons (stb_Row _ _) (stb_cons (stb_V _) (stb_cons (stb_V _) (stb_cons (stb_V _) (stb_cons (stb_Row _ _) (stb_cons (stb_V _) (stb_cons (stb_Row _ _) (stb_cons (stb_V _) (stb_cons (stb_V _) (stb_cons (stb_V _) (stb_cons (stb_V _) (stb_cons (stb_V _) (stb_cons (stb_V _) (stb_cons (stb_V _) (stb_cons (stb_V _) (stb_cons (stb_V _) (stb_cons (stb_V _) (stb_cons (stb_V _) (stb_cons (stb_V _) (stb_cons (stb_V _) (stb_cons (stb_V _) (stb_cons (stb_V _) (stb_cons (stb_V _) (stb_cons (stb_V _) stb_nil)))))))))))))))))))))))))))
  ·refine stepf_cons ?_ (stepf_cons ?_ (stepf_cons ?_ (stepf_cons ?_ (stepf_cons ?_ (stepf_cons ?_ (stepf_cons ?_ (stepf_cons ?_ (stepf_cons ?_ (stepf_cons ?_ (stepf_cons ?_ (stepf_cons ?_ (stepf_cons ?_ (stepf_cons ?_ (stepf_cons ?_ (stepf_cons ?_ (stepf_cons ?_ (stepf_cons ?_ (stepf_cons ?_ (stepf_cons ?_ (stepf_cons ?_ (stepf_cons ?_ (stepf_cons ?_ (stepf_cons ?_ (stepf_cons ?_ (stepf_cons ?_ (stepf_cons ?_ stepf_nil))))))))))))))))))))))))))
   ·refine stp rfl rfl rfl rfl rfl fun a w' hB hM hoff hp K hK => ?_
    have e2 : a.tmps[2]? = some (.pointer (some ⟨b4_2, 0, none⟩)) := (hoff 2 rfl).trans rfl
    obtain ⟨d0, d1, d2, d3, d4, d5, d6, d7, d8, d9⟩ := (C2.mono hM).ten
    have hu := Try.underlying28
    have hu2 := Try.underlying25
    exact op_val (by first | (go_simp; done) | (go_simp; rfl)) (hK _ _ hB (Mono.refl _) rfl)
   ·refine stp rfl rfl rfl rfl rfl fun a w' hB hM hoff hp K hK => ?_
    obtain ⟨_, e53, rfl⟩ := hp 0 rfl 53 _ rfl rfl
    refine op_call Try.func16 (by kernel_rfl) rfl #[.agg #[.int .i64 c.fr, .int .i64 c.tt, .int .u32 c.tid, .int .u32 c.key, .int .u64 c.lo, .int .u64 c.hi, .slice A6 c.pub.length c6, .slice A7 c.ct.length c7, .slice A8 c.sl.length c8, .slice A9 c.sig.length c9]] rfl (by simp [ev e53]) (Said_calls c ho hs hs2 hs3 hs4 _ _ (CV.mono hM)) ?_
    rintro e w1 ⟨u, rfl, hR, hb⟩
    exact ⟨u, rfl, hK _ _ (below_then hB hB.size hb) (Mono.of_below hb) (hR.lower hB.size)⟩
   ·refine stp rfl rfl rfl rfl rfl fun a w' hB hM hoff hp K hK => ?_
    have e2 : a.tmps[2]? = some (.pointer (some ⟨b4_2, 0, none⟩)) := (hoff 2 rfl).trans rfl
    obtain ⟨d0, d1, d2, d3, d4, d5, d6, d7, d8, d9⟩ := (C2.mono hM).ten
    have hu := Try.underlying28
    have hu2 := Try.underlying25
    exact op_val (by first | (go_simp; done) | (go_simp; rfl)) (hK _ _ hB (Mono.refl _) rfl)
   ·refine stp rfl rfl rfl rfl rfl fun a w' hB hM hoff hp K hK => ?_
    obtain ⟨_, e55, rfl⟩ := hp 2 rfl 55 _ rfl rfl
    refine op_call Try.func17 (by kernel_rfl) rfl #[.agg #[.int .i64 c.fr, .int .i64 c.tt, .int .u32 c.tid, .int .u32 c.key, .int .u64 c.lo, .int .u64 c.hi, .slice A6 c.pub.length c6, .slice A7 c.ct.length c7, .slice A8 c.sl.length c8, .slice A9 c.sig.length c9]] rfl (by simp [ev e55]) (refSaid_calls c ho hs hs2 hs3 hs4 _ _ (CV.mono hM)) ?_
    rintro e w1 ⟨u, rfl, hR, hb⟩
    exact ⟨u, rfl, hK _ _ (below_then hB hB.size hb) (Mono.of_below hb) (hR.lower hB.size)⟩
   ·refine stp rfl rfl rfl rfl rfl fun a w' hB hM hoff hp K hK => ?_
    obtain ⟨v54, e54, h54⟩ := hp 1 rfl 54 _ rfl rfl
    obtain ⟨v56, e56, h56⟩ := hp 3 rfl 56 _ rfl rfl
    refine op_call Try.func11 (by kernel_rfl) rfl #[v54, v56] rfl (by simp [ev e54, ev e56]) (equal_calls _ _ (Said_byt c ho) (Said_byt c ho) true (by simp) _ _ _ h54 h56) ?_
    rintro e w1 ⟨u, rfl, hR, hb⟩
    exact ⟨u, rfl, hK _ _ (below_then hB hB.size hb) (Mono.of_below hb) hR⟩
   ·refine stp rfl rfl rfl rfl rfl fun a w' hB hM hoff hp K hK => ?_
    obtain ⟨_, e57, rfl⟩ := hp 4 rfl 57 _ rfl rfl
    exact op_val (by first | (go_simp; done) | (go_simp; rfl)) (hK _ _ hB (Mono.refl _) rfl)
   ·refine stpy 5 rfl rfl rfl rfl rfl rfl rfl rfl rfl fun a w' hB hM hoff hp K hK => ?_
    have e2 : a.tmps[2]? = some (.pointer (some ⟨b4_2, 0, none⟩)) := (hoff 2 rfl).trans rfl
    obtain ⟨d0, d1, d2, d3, d4, d5, d6, d7, d8, d9⟩ := (C2.mono hM).ten
    have hu := Try.underlying28
    have hu2 := Try.underlying25
    exact op_val (by first | (go_simp; done) | (go_simp; rfl)) (hK _ _ hB (Mono.refl _) rfl)
   ·refine stpy 5 rfl rfl rfl rfl rfl rfl rfl rfl rfl fun a w' hB hM hoff hp K hK => ?_
    obtain ⟨_, e59, rfl⟩ := hp 6 rfl 59 _ rfl rfl
    refine op_call Try.func10 (by kernel_rfl) rfl #[.agg #[.int .i64 c.fr, .int .i64 c.tt, .int .u32 c.tid, .int .u32 c.key, .int .u64 c.lo, .int .u64 c.hi, .slice A6 c.pub.length c6, .slice A7 c.ct.length c7, .slice A8 c.sl.length c8, .slice A9 c.sig.length c9]] rfl (by simp [ev e59]) (Words_calls c ho hs hs2 hs3 hs4 _ _ (CV.mono hM)) ?_
    rintro e w1 ⟨u, rfl, hR, hb⟩
    exact ⟨u, rfl, hK _ _ (below_then hB hB.size hb) (Mono.of_below hb) (hR.lower hB.size)⟩
   ·refine stpy 5 rfl rfl rfl rfl rfl rfl rfl rfl rfl fun a w' hB hM hoff hp K hK => ?_
    have e2 : a.tmps[2]? = some (.pointer (some ⟨b4_2, 0, none⟩)) := (hoff 2 rfl).trans rfl
    obtain ⟨d0, d1, d2, d3, d4, d5, d6, d7, d8, d9⟩ := (C2.mono hM).ten
    have hu := Try.underlying28
    have hu2 := Try.underlying25
    exact op_val (by first | (go_simp; done) | (go_simp; rfl)) (hK _ _ hB (Mono.refl _) rfl)
   ·refine stpy 5 rfl rfl rfl rfl rfl rfl rfl rfl rfl fun a w' hB hM hoff hp K hK => ?_
    obtain ⟨_, e61, rfl⟩ := hp 8 rfl 61 _ rfl rfl
    refine op_call Try.func18 (by kernel_rfl) rfl #[.agg #[.int .i64 c.fr, .int .i64 c.tt, .int .u32 c.tid, .int .u32 c.key, .int .u64 c.lo, .int .u64 c.hi, .slice A6 c.pub.length c6, .slice A7 c.ct.length c7, .slice A8 c.sl.length c8, .slice A9 c.sig.length c9]] rfl (by simp [ev e61]) (refWords_calls c ho hs hs2 hs3 hs4 _ _ (CV.mono hM)) ?_
    rintro e w1 ⟨u, rfl, hR, hb⟩
    exact ⟨u, rfl, hK _ _ (below_then hB hB.size hb) (Mono.of_below hb) (hR.lower hB.size)⟩
   ·refine stpy 5 rfl rfl rfl rfl rfl rfl rfl rfl rfl fun a w' hB hM hoff hp K hK => ?_
    obtain ⟨v60, e60, h60⟩ := hp 7 rfl 60 _ rfl rfl
    obtain ⟨v62, e62, h62⟩ := hp 9 rfl 62 _ rfl rfl
    refine op_call Try.func11 (by kernel_rfl) rfl #[v60, v62] rfl (by simp [ev e60, ev e62]) (equal_calls _ _ (Words_byt c ho) (Words_byt c ho) true (by simp) _ _ _ h60 h62) ?_
    rintro e w1 ⟨u, rfl, hR, hb⟩
    exact ⟨u, rfl, hK _ _ (below_then hB hB.size hb) (Mono.of_below hb) hR⟩
   ·refine stp rfl rfl rfl rfl rfl fun a w' hB hM hoff hp K hK => ?_
    obtain ⟨_, e58, rfl⟩ := hp 5 rfl 58 _ rfl rfl
    obtain ⟨_, e63, rfl⟩ := hp 10 rfl 63 _ rfl rfl
    exact op_val (by first | (go_simp; done) | (go_simp; rfl)) (hK _ _ hB (Mono.refl _) rfl)
   ·refine stp rfl rfl rfl rfl rfl fun a w' hB hM hoff hp K hK => ?_
    obtain ⟨_, e64, rfl⟩ := hp 11 rfl 64 _ rfl rfl
    exact op_val (by first | (go_simp; done) | (go_simp; rfl)) (hK _ _ hB (Mono.refl _) rfl)
   ·refine stpy 12 rfl rfl rfl rfl rfl rfl rfl rfl rfl fun a w' hB hM hoff hp K hK => ?_
    have e2 : a.tmps[2]? = some (.pointer (some ⟨b4_2, 0, none⟩)) := (hoff 2 rfl).trans rfl
    obtain ⟨d0, d1, d2, d3, d4, d5, d6, d7, d8, d9⟩ := (C2.mono hM).ten
    have hu := Try.underlying28
    have hu2 := Try.underlying25
    exact op_val (by first | (go_simp; done) | (go_simp; rfl)) (hK _ _ hB (Mono.refl _) rfl)
   ·refine stpy 12 rfl rfl rfl rfl rfl rfl rfl rfl rfl fun a w' hB hM hoff hp K hK => ?_
    have e3 : a.tmps[3]? = some (.pointer (some ⟨b4_3, 0, none⟩)) := (hoff 3 rfl).trans rfl
    obtain ⟨d0, d1, d2, d3, d4, d5, d6, d7, d8, d9⟩ := (C3.mono hM).ten
    have hu := Try.underlying28
    have hu2 := Try.underlying25
    exact op_val (by first | (go_simp; done) | (go_simp; rfl)) (hK _ _ hB (Mono.refl _) rfl)
   ·refine stpy 12 rfl rfl rfl rfl rfl rfl rfl rfl rfl fun a w' hB hM hoff hp K hK => ?_
    obtain ⟨_, e66, rfl⟩ := hp 13 rfl 66 _ rfl rfl
    obtain ⟨_, e67, rfl⟩ := hp 14 rfl 67 _ rfl rfl
    refine op_call Try.func12 (by kernel_rfl) rfl #[.agg #[.int .i64 c.fr, .int .i64 c.tt, .int .u32 c.tid, .int .u32 c.key, .int .u64 c.lo, .int .u64 c.hi, .slice A6 c.pub.length c6, .slice A7 c.ct.length c7, .slice A8 c.sl.length c8, .slice A9 c.sig.length c9], .agg #[.int .i64 d.fr, .int .i64 d.tt, .int .u32 d.tid, .int .u32 d.key, .int .u64 d.lo, .int .u64 d.hi, .slice dA6 d.pub.length dc6, .slice dA7 d.ct.length dc7, .slice dA8 d.sl.length dc8, .slice dA9 d.sig.length dc9]] rfl (by simp [ev e66, ev e67]) (same_calls c d ho hd h6 h7 h8 h9 _ rfl _ _ _ (CV.mono hM) (dCV.mono hM)) ?_
    rintro e w1 ⟨u, rfl, hR, hb⟩
    exact ⟨u, rfl, hK _ _ (below_then hB hB.size hb) (Mono.of_below hb) hR⟩
   ·refine stpy 12 rfl rfl rfl rfl rfl rfl rfl rfl rfl fun a w' hB hM hoff hp K hK => ?_
    have e2 : a.tmps[2]? = some (.pointer (some ⟨b4_2, 0, none⟩)) := (hoff 2 rfl).trans rfl
    obtain ⟨d0, d1, d2, d3, d4, d5, d6, d7, d8, d9⟩ := (C2.mono hM).ten
    have hu := Try.underlying28
    have hu2 := Try.underlying25
    exact op_val (by first | (go_simp; done) | (go_simp; rfl)) (hK _ _ hB (Mono.refl _) rfl)
   ·refine stpy 12 rfl rfl rfl rfl rfl rfl rfl rfl rfl fun a w' hB hM hoff hp K hK => ?_
    have e3 : a.tmps[3]? = some (.pointer (some ⟨b4_3, 0, none⟩)) := (hoff 3 rfl).trans rfl
    obtain ⟨d0, d1, d2, d3, d4, d5, d6, d7, d8, d9⟩ := (C3.mono hM).ten
    have hu := Try.underlying28
    have hu2 := Try.underlying25
    exact op_val (by first | (go_simp; done) | (go_simp; rfl)) (hK _ _ hB (Mono.refl _) rfl)
   ·refine stpy 12 rfl rfl rfl rfl rfl rfl rfl rfl rfl fun a w' hB hM hoff hp K hK => ?_
    obtain ⟨_, e69, rfl⟩ := hp 16 rfl 69 _ rfl rfl
    obtain ⟨_, e70, rfl⟩ := hp 17 rfl 70 _ rfl rfl
    refine op_call Try.func19 (by kernel_rfl) rfl #[.agg #[.int .i64 c.fr, .int .i64 c.tt, .int .u32 c.tid, .int .u32 c.key, .int .u64 c.lo, .int .u64 c.hi, .slice A6 c.pub.length c6, .slice A7 c.ct.length c7, .slice A8 c.sl.length c8, .slice A9 c.sig.length c9], .agg #[.int .i64 d.fr, .int .i64 d.tt, .int .u32 d.tid, .int .u32 d.key, .int .u64 d.lo, .int .u64 d.hi, .slice dA6 d.pub.length dc6, .slice dA7 d.ct.length dc7, .slice dA8 d.sl.length dc8, .slice dA9 d.sig.length dc9]] rfl (by simp [ev e69, ev e70]) (refSame_calls c d ho hd _ rfl _ _ _ (CV.mono hM) (dCV.mono hM)) ?_
    rintro e w1 ⟨u, rfl, hR, hb⟩
    exact ⟨u, rfl, hK _ _ (below_then hB hB.size hb) (Mono.of_below hb) hR⟩
   ·refine stpy 12 rfl rfl rfl rfl rfl rfl rfl rfl rfl fun a w' hB hM hoff hp K hK => ?_
    obtain ⟨_, e68, rfl⟩ := hp 15 rfl 68 _ rfl rfl
    obtain ⟨_, e71, rfl⟩ := hp 18 rfl 71 _ rfl rfl
    exact op_val (by first | (go_simp; done) | (go_simp; rfl)) (hK _ _ hB (Mono.refl _) rfl)
   ·refine stp rfl rfl rfl rfl rfl fun a w' hB hM hoff hp K hK => ?_
    obtain ⟨_, e65, rfl⟩ := hp 12 rfl 65 _ rfl rfl
    obtain ⟨_, e72, rfl⟩ := hp 19 rfl 72 _ rfl rfl
    exact op_val (by first | (go_simp; done) | (go_simp; rfl)) (hK _ _ hB (Mono.refl _) rfl)
   ·refine stp rfl rfl rfl rfl rfl fun a w' hB hM hoff hp K hK => ?_
    obtain ⟨_, e73, rfl⟩ := hp 20 rfl 73 _ rfl rfl
    exact op_val (by first | (go_simp; done) | (go_simp; rfl)) (hK _ _ hB (Mono.refl _) rfl)
   ·refine stpy 21 rfl rfl rfl rfl rfl rfl rfl rfl rfl fun a w' hB hM hoff hp K hK => ?_
    have e2 : a.tmps[2]? = some (.pointer (some ⟨b4_2, 0, none⟩)) := (hoff 2 rfl).trans rfl
    obtain ⟨d0, d1, d2, d3, d4, d5, d6, d7, d8, d9⟩ := (C2.mono hM).ten
    have hu := Try.underlying28
    have hu2 := Try.underlying25
    exact op_val (by first | (go_simp; done) | (go_simp; rfl)) (hK _ _ hB (Mono.refl _) rfl)
   ·refine stpy 21 rfl rfl rfl rfl rfl rfl rfl rfl rfl fun a w' hB hM hoff hp K hK => ?_
    have e2 : a.tmps[2]? = some (.pointer (some ⟨b4_2, 0, none⟩)) := (hoff 2 rfl).trans rfl
    obtain ⟨d0, d1, d2, d3, d4, d5, d6, d7, d8, d9⟩ := (C2.mono hM).ten
    have hu := Try.underlying28
    have hu2 := Try.underlying25
    exact op_val (by first | (go_simp; done) | (go_simp; rfl)) (hK _ _ hB (Mono.refl _) rfl)
   ·refine stpy 21 rfl rfl rfl rfl rfl rfl rfl rfl rfl fun a w' hB hM hoff hp K hK => ?_
    obtain ⟨_, e75, rfl⟩ := hp 22 rfl 75 _ rfl rfl
    obtain ⟨_, e76, rfl⟩ := hp 23 rfl 76 _ rfl rfl
    refine op_call Try.func12 (by kernel_rfl) rfl #[.agg #[.int .i64 c.fr, .int .i64 c.tt, .int .u32 c.tid, .int .u32 c.key, .int .u64 c.lo, .int .u64 c.hi, .slice A6 c.pub.length c6, .slice A7 c.ct.length c7, .slice A8 c.sl.length c8, .slice A9 c.sig.length c9], .agg #[.int .i64 c.fr, .int .i64 c.tt, .int .u32 c.tid, .int .u32 c.key, .int .u64 c.lo, .int .u64 c.hi, .slice A6 c.pub.length c6, .slice A7 c.ct.length c7, .slice A8 c.sl.length c8, .slice A9 c.sig.length c9]] rfl (by simp [ev e75, ev e76]) (same_calls c c ho ho h6 h7 h8 h9 true (by simp) _ _ _ (CV.mono hM) (CV.mono hM)) ?_
    rintro e w1 ⟨u, rfl, hR, hb⟩
    exact ⟨u, rfl, hK _ _ (below_then hB hB.size hb) (Mono.of_below hb) hR⟩
   ·refine stp rfl rfl rfl rfl rfl fun a w' hB hM hoff hp K hK => ?_
    obtain ⟨_, e74, rfl⟩ := hp 21 rfl 74 _ rfl rfl
    obtain ⟨_, e77, rfl⟩ := hp 24 rfl 77 _ rfl rfl
    exact op_val (by first | (go_simp; done) | (go_simp; rfl)) (hK _ _ hB (Mono.refl _) rfl)
   ·refine stp rfl rfl rfl rfl rfl fun a w' hB hM hoff hp K hK => ?_
    obtain ⟨_, e78, rfl⟩ := hp 25 rfl 78 _ rfl rfl
    exact op_val (by first | (go_simp; done) | (go_simp; rfl)) (hK _ _ hB (Mono.refl _) rfl)
  intro V6 w6 HB6 M6 hφ
  simp only [fillAll, Act.put, List.setIfInBounds_toArray, List.set_cons_zero, List.set_cons_succ]
  replace R6 := R6.mono M6
  replace R7 := R7.mono M6
  replace R8 := R8.mono M6
  replace R9 := R9.mono M6
  replace CV := CV.mono M6
  replace dR6 := dR6.mono M6
  replace dR7 := dR7.mono M6
  replace dR8 := dR8.mono M6
  replace dR9 := dR9.mono M6
  replace dCV := dCV.mono M6
  replace C2 := C2.mono M6
  replace C3 := C3.mono M6
  replace K23 := K23.mono M6
  replace K5 := K5.mono M6
  replace K28 := K28.mono M6
  replace K7 := K7.mono M6
  have z53 : V6 0 = .agg #[.int .i64 c.fr, .int .i64 c.tt, .int .u32 c.tid, .int .u32 c.key, .int .u64 c.lo, .int .u64 c.hi, .slice A6 c.pub.length c6, .slice A7 c.ct.length c7, .slice A8 c.sl.length c8, .slice A9 c.sig.length c9] := hφ 0 _ rfl (by decide)
  have K54 : Row w.heap.size w6 (V6 1) ((if c.Spoken then c.said else [])) := hφ 1 _ rfl (by decide)
  have z55 : V6 2 = .agg #[.int .i64 c.fr, .int .i64 c.tt, .int .u32 c.tid, .int .u32 c.key, .int .u64 c.lo, .int .u64 c.hi, .slice A6 c.pub.length c6, .slice A7 c.ct.length c7, .slice A8 c.sl.length c8, .slice A9 c.sig.length c9] := hφ 2 _ rfl (by decide)
  have K56 : Row w.heap.size w6 (V6 3) ((if c.Spoken then c.said else [])) := hφ 3 _ rfl (by decide)
  have z57 : V6 4 = .bool true := hφ 4 _ rfl (by decide)
  have z58 : V6 5 = .bool true := hφ 5 _ rfl (by decide)
  have z59 : V6 6 = .agg #[.int .i64 c.fr, .int .i64 c.tt, .int .u32 c.tid, .int .u32 c.key, .int .u64 c.lo, .int .u64 c.hi, .slice A6 c.pub.length c6, .slice A7 c.ct.length c7, .slice A8 c.sl.length c8, .slice A9 c.sig.length c9] := hφ 6 _ rfl (by decide)
  have K60 : Row w.heap.size w6 (V6 7) ((if c.Worded then title ++ c.inner else [])) := hφ 7 _ rfl (by decide)
  have z61 : V6 8 = .agg #[.int .i64 c.fr, .int .i64 c.tt, .int .u32 c.tid, .int .u32 c.key, .int .u64 c.lo, .int .u64 c.hi, .slice A6 c.pub.length c6, .slice A7 c.ct.length c7, .slice A8 c.sl.length c8, .slice A9 c.sig.length c9] := hφ 8 _ rfl (by decide)
  have K62 : Row w.heap.size w6 (V6 9) ((if c.Worded then title ++ c.inner else [])) := hφ 9 _ rfl (by decide)
  have z63 : V6 10 = .bool true := hφ 10 _ rfl (by decide)
  have z64 : V6 11 = .bool true := hφ 11 _ rfl (by decide)
  have z65 : V6 12 = .bool true := hφ 12 _ rfl (by decide)
  have z66 : V6 13 = .agg #[.int .i64 c.fr, .int .i64 c.tt, .int .u32 c.tid, .int .u32 c.key, .int .u64 c.lo, .int .u64 c.hi, .slice A6 c.pub.length c6, .slice A7 c.ct.length c7, .slice A8 c.sl.length c8, .slice A9 c.sig.length c9] := hφ 13 _ rfl (by decide)
  have z67 : V6 14 = .agg #[.int .i64 d.fr, .int .i64 d.tt, .int .u32 d.tid, .int .u32 d.key, .int .u64 d.lo, .int .u64 d.hi, .slice dA6 d.pub.length dc6, .slice dA7 d.ct.length dc7, .slice dA8 d.sl.length dc8, .slice dA9 d.sig.length dc9] := hφ 14 _ rfl (by decide)
  have z68 : V6 15 = .bool (decide (c = d)) := hφ 15 _ rfl (by decide)
  have z69 : V6 16 = .agg #[.int .i64 c.fr, .int .i64 c.tt, .int .u32 c.tid, .int .u32 c.key, .int .u64 c.lo, .int .u64 c.hi, .slice A6 c.pub.length c6, .slice A7 c.ct.length c7, .slice A8 c.sl.length c8, .slice A9 c.sig.length c9] := hφ 16 _ rfl (by decide)
  have z70 : V6 17 = .agg #[.int .i64 d.fr, .int .i64 d.tt, .int .u32 d.tid, .int .u32 d.key, .int .u64 d.lo, .int .u64 d.hi, .slice dA6 d.pub.length dc6, .slice dA7 d.ct.length dc7, .slice dA8 d.sl.length dc8, .slice dA9 d.sig.length dc9] := hφ 17 _ rfl (by decide)
  have z71 : V6 18 = .bool (decide (c = d)) := hφ 18 _ rfl (by decide)
  have z72 : V6 19 = .bool true := hφ 19 _ rfl (by decide)
  have z73 : V6 20 = .bool true := hφ 20 _ rfl (by decide)
  have z74 : V6 21 = .bool true := hφ 21 _ rfl (by decide)
  have z75 : V6 22 = .agg #[.int .i64 c.fr, .int .i64 c.tt, .int .u32 c.tid, .int .u32 c.key, .int .u64 c.lo, .int .u64 c.hi, .slice A6 c.pub.length c6, .slice A7 c.ct.length c7, .slice A8 c.sl.length c8, .slice A9 c.sig.length c9] := hφ 22 _ rfl (by decide)
  have z76 : V6 23 = .agg #[.int .i64 c.fr, .int .i64 c.tt, .int .u32 c.tid, .int .u32 c.key, .int .u64 c.lo, .int .u64 c.hi, .slice A6 c.pub.length c6, .slice A7 c.ct.length c7, .slice A8 c.sl.length c8, .slice A9 c.sig.length c9] := hφ 23 _ rfl (by decide)
  have z77 : V6 24 = .bool true := hφ 24 _ rfl (by decide)
  have z78 : V6 25 = .bool true := hφ 25 _ rfl (by decide)
  have z4 : V6 26 = .bool true := hφ 26 _ rfl (by decide)
  simp only [z53, z55, z57, z58, z59, z61, z63, z64, z65, z66, z67, z68, z69, z70, z71, z72, z73, z74, z75, z76, z77, z78, z4]
  clear hφ
  (try simp only [Exit.inBlock, Exit.then])
  repeat (refine wp_seq ?_)
  (try simp only [Exit.inBlock, Exit.then])
  refine wp_ret ?_
  (try simp only [Exit.inBlock, Exit.then])
  go_ret
  exact ⟨_, rfl, rfl, HB6⟩
/-- THE LAW. -/
theorem puts_calls (c d : Cp) (ho : c.Ok) (hd : d.Ok) (v v2 : Value) (w : World) (hv : CapV 0 w v c) (hw : CapV 0 w v2 d) : Ret 4 #[v, v2] w (isV (.bool true)) := by
  by_cases b1 : (9000 < c.pub.length ∨ 9000 < c.ct.length ∨ 9000 < c.sl.length ∨ 9000 < c.sig.length)
  · exact puts_big c d ho hd v v2 w hv hw b1
  by_cases b2 : (9000 < d.pub.length ∨ 9000 < d.ct.length ∨ 9000 < d.sl.length ∨ 9000 < d.sig.length)
  · exact puts_bigd c d ho hd v v2 w hv hw b1 b2
  by_cases h : c.May
  · exact puts_may c d ho hd v v2 w hv hw b1 b2 h
  · exact puts_not c d ho hd v v2 w hv hw b1 b2 h
end Go.Proofs.Ytgacaemgmgoiaaa.QLeaf
