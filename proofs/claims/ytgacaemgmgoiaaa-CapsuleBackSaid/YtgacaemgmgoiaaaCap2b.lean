import Derived.Test.YtgacaemgmgoiaaaRg
import Derived.Test.YtgacaemgmgoiaaaLemBb

/- Contracts of capsule's functions and of the document's, for any capsule, in plain lists. -/
namespace Go.Proofs.Ytgacaemgmgoiaaa.QLeaf
open Go.RowKit Go.Proofs.YtgacaemgmgoiaaaW.PrintWords Go.Proofs.YtgacaemgmgoiaaaW.PrintLast Go.Proofs.YtgacaemgmgoiaaaW.PrintMore Go.Proofs.YtgacaemgmgoiaaaW.Cm Go.Proofs.YtgacaemgmgoiaaaW.Rg
set_option linter.unusedVariables false
set_option linter.unusedSimpArgs false
/-- What a call yields. -/
abbrev Ret (f : FuncId) (xs : Array Value) (w : World) (Φ : Value → World → Prop) : Prop := Calls Try.prog f xs w fun e w' => ∃ u, e = .returned u ∧ Φ u w' ∧ Below w.heap.size w w'
theorem size5 : ∃ i, Try.prog.info? 5 = some i ∧ i.size = 1 := by
  obtain ⟨i, h1, h2⟩ := Option.map_eq_some_iff.1 info5
  exact ⟨i, h1, by simpa using congrArg (fun x => x.2.1) h2⟩
theorem size26 : ∃ i, Try.prog.info? 26 = some i ∧ i.size = 1 := by
  obtain ⟨i, h1, h2⟩ := Option.map_eq_some_iff.1 info26
  exact ⟨i, h1, by simpa using congrArg (fun x => x.2.1) h2⟩
/-- A capsule's value: its numbers, and its rows, behind block number B. -/
def CapV (B : Nat) (w : World) (v : Value) (c : Cp) : Prop := ∃ v6 v7 v8 v9, v = .agg #[.int .i64 c.fr, .int .i64 c.tt, .int .u32 c.tid, .int .u32 c.key, .int .u64 c.lo, .int .u64 c.hi, v6, v7, v8, v9] ∧ Row B w v6 c.pub ∧ Row B w v7 c.ct ∧ Row B w v8 c.sl ∧ Row B w v9 c.sig
theorem CapV.mono {B : Nat} {w w' : World} {v : Value} {c : Cp} (h : CapV B w v c) (hm : Mono w w') : CapV B w' v c := by
  obtain ⟨a, b, d, e, h1, h2, h3, h4, h5⟩ := h
  exact ⟨a, b, d, e, h1, h2.mono hm, h3.mono hm, h4.mono hm, h5.mono hm⟩
theorem u16_calls (n : Int) (h0 : 0 ≤ n) (h1 : n < 65536) (w : World) : Ret 38 #[.int .u16 n] w (isRow w.heap.size (be 2 n)) :=
  (octet_U16.calls 3 n (be 2 n) w (u16_eq n h0 h1 3 (by omega))).mono fun e w' ⟨v, he, hR, hB⟩ => ⟨v, he, Row.of_R hR, hB⟩
theorem u32_calls (n : Int) (h0 : 0 ≤ n) (h1 : n < 4294967296) (w : World) : Ret 41 #[.int .u32 n] w (isRow w.heap.size (be 4 n)) :=
  (octet_U32.calls 5 n (be 4 n) w (u32_eq n h0 h1 5 (by omega))).mono fun e w' ⟨v, he, hR, hB⟩ => ⟨v, he, Row.of_R hR, hB⟩
theorem u64_calls (n : Int) (w : World) : Ret 42 #[.int .u64 n] w (isRow w.heap.size (be 8 n)) :=
  (octet_U64.calls 9 n (be 8 n) w (u64_eq n 9 (by omega))).mono fun e w' ⟨v, he, hR, hB⟩ => ⟨v, he, Row.of_R hR, hB⟩
theorem join_calls (l : List (List Int)) (hx : l.length < 1000000) (hs : l.flatten.length < 140737488355328) (v : Value) (w : World) (hv : RowsB w v l) : Ret 26 #[v] w (isRow w.heap.size l.flatten) := by
  obtain ⟨A, c, rfl, hl, hC⟩ := hv
  exact (octet_Join.calls (2 * l.length + 2) A c l l.flatten w hC hl (join_eq l hx hs _ (by omega))).mono fun e w' ⟨v, he, hR, hB⟩ => ⟨v, he, Row.of_R hR, hB⟩
theorem refJoin_calls (l : List (List Int)) (hx : l.length < 1000000) (hs : l.flatten.length < 140737488355328) (v : Value) (w : World) (hv : RowsB w v l) : Ret 20 #[v] w (isRow w.heap.size l.flatten) := by
  obtain ⟨A, c, rfl, hl, hC⟩ := hv
  exact (liveryref01_Join.calls (l.length + 1) A c l l.flatten w hC hl (refJoin_eq l hx hs _ (by omega))).mono fun e w' ⟨v, he, hR, hB⟩ => ⟨v, he, Row.of_R hR, hB⟩
theorem equal_calls (l m : List Int) (hl : Byt l) (hm : Byt m) (b : Bool) (hb : decide (l = m) = b) (u v : Value) (w : World) {B B' : Nat} (hu : Row B w u l) (hv : Row B' w v m) : Ret 11 #[u, v] w (isV (.bool b)) := by
  obtain ⟨A, c, rfl, k, hC, _⟩ := hu
  obtain ⟨A', c', rfl, k', hC', _⟩ := hv
  exact (liveryref01_Equal.calls A c l A' c' m b w hC k hC' k' (by rw [refEqual l m hl hm, hb])).mono fun e w' ⟨he, hB⟩ => ⟨_, he, rfl, hB.below⟩

theorem spoken_calls (c : Cp) (b : Bool) (hb : decide c.Spoken = b) (v : Value) (w : World) (hv : CapV 0 w v c) : Ret 29 #[v] w (isV (.bool b)) := by
  obtain ⟨_, _, _, _, rfl, ⟨A6, c6, rfl, l6, r6, _⟩, ⟨A7, c7, rfl, l7, r7, _⟩, ⟨A8, c8, rfl, l8, r8, _⟩, ⟨A9, c9, rfl, l9, r9, _⟩⟩ := hv
  exact (capsule_spoken.calls 2 _ _ _ _ _ _ _ _ _ _ _ _ _ _ _ _ _ _ b w r6 l6 r7 l7 r8 l8 r9 l9 (by rw [spoken_eq c 2 (by omega), hb])).mono fun e w' ⟨he, hB⟩ => ⟨_, he, rfl, hB⟩

theorem worded_calls (c : Cp) (hs2 : c.sl.length < 65536) (b : Bool) (hb : decide c.Worded = b) (v : Value) (w : World) (hv : CapV 0 w v c) : Ret 25 #[v] w (isV (.bool b)) := by
  obtain ⟨_, _, _, _, rfl, ⟨A6, c6, rfl, l6, r6, _⟩, ⟨A7, c7, rfl, l7, r7, _⟩, ⟨A8, c8, rfl, l8, r8, _⟩, ⟨A9, c9, rfl, l9, r9, _⟩⟩ := hv
  exact (capsule_worded.calls 2 _ _ _ _ _ _ _ _ _ _ _ _ _ _ _ _ _ _ b w r6 l6 r7 l7 r8 l8 r9 l9 (by rw [worded_eq c hs2 2 (by omega), hb])).mono fun e w' ⟨he, hB⟩ => ⟨_, he, rfl, hB⟩

set_option maxHeartbeats 1000000 in
set_option maxRecDepth 100000 in
theorem said_calls (c : Cp) (ho : c.Ok) (hs : c.pub.length < 65536) (hs2 : c.sl.length < 65536) (hs3 : c.ct.length < 65536) (hs4 : c.sig.length < 65536) (v : Value) (w : World) (hv : CapV 0 w v c) : Ret 30 #[v] w (isRow w.heap.size c.said) := by
  obtain ⟨_, _, _, _, rfl, ⟨A6, c6, rfl, l6, r6, _⟩, ⟨A7, c7, rfl, l7, r7, _⟩, ⟨A8, c8, rfl, l8, r8, _⟩, ⟨A9, c9, rfl, l9, r9, _⟩⟩ := hv
  have R6 : Row 0 w (.slice A6 c.pub.length c6) c.pub := Row.of_C r6 l6
  have R7 : Row 0 w (.slice A7 c.ct.length c7) c.ct := Row.of_C r7 l7
  have R8 : Row 0 w (.slice A8 c.sl.length c8) c.sl := Row.of_C r8 l8
  have R9 : Row 0 w (.slice A9 c.sig.length c9) c.sig := Row.of_C r9 l9
  have CV : CapV 0 w (.agg #[.int .i64 c.fr, .int .i64 c.tt, .int .u32 c.tid, .int .u32 c.key, .int .u64 c.lo, .int .u64 c.hi, .slice A6 c.pub.length c6, .slice A7 c.ct.length c7, .slice A8 c.sl.length c8, .slice A9 c.sig.length c9]) c := ⟨_, _, _, _, rfl, R6, R7, R8, R9⟩
  go_enter Try.func30, Try.ntmps30
  have HBw : Below w.heap.size w w := Below.refl _ _
  (try simp only [Exit.inBlock, Exit.then])
  repeat (refine wp_seq ?_)
  refine rgs (B := w.heap.size) (w0 := w) [1, 2] [isBox w.heap.size [.int .i64 c.fr, .int .i64 c.tt, .int .u32 c.tid, .int .u32 c.key, .int .u64 c.lo, .int .u64 c.hi, .slice A6 c.pub.length c6, .slice A7 c.ct.length c7, .slice A8 c.sl.length c8, .slice A9 c.sig.length c9], isRow w.heap.size []] rfl (by decide) rfl HBw ?_ ?_ ?_
  · exact (stb_cons (stb_Box _ _) (stb_cons (stb_Row _ _) stb_nil))
  ·refine stepf_cons ?_ (stepf_cons ?_ stepf_nil)
   ·refine stp rfl rfl rfl rfl rfl fun a w' hB hM hoff hp K hK => ?_
    have e0 : a.tmps[0]? = some (.agg #[.int .i64 c.fr, .int .i64 c.tt, .int .u32 c.tid, .int .u32 c.key, .int .u64 c.lo, .int .u64 c.hi, .slice A6 c.pub.length c6, .slice A7 c.ct.length c7, .slice A8 c.sl.length c8, .slice A9 c.sig.length c9]) := (hoff 0 rfl).trans rfl
    have hu := Try.underlying28
    have hu2 := Try.underlying25
    refine op_val (v := .pointer (some ⟨w'.heap.size, 0, none⟩)) (w' := w'.alloc (.cells #[.int .i64 c.fr, .int .i64 c.tt, .int .u32 c.tid, .int .u32 c.key, .int .u64 c.lo, .int .u64 c.hi, .slice A6 c.pub.length c6, .slice A7 c.ct.length c7, .slice A8 c.sl.length c8, .slice A9 c.sig.length c9] 28)) (by first | (go_simp; done) | (go_simp; rfl)) (hK _ _ (below_then hB hB.size (below_alloc (Below.refl _ _) _)) (Mono.alloc _ _) ?_)
    exact ⟨_, rfl, hB.size, boxAt_alloc _ _ [.int .i64 c.fr, .int .i64 c.tt, .int .u32 c.tid, .int .u32 c.key, .int .u64 c.lo, .int .u64 c.hi, .slice A6 c.pub.length c6, .slice A7 c.ct.length c7, .slice A8 c.sl.length c8, .slice A9 c.sig.length c9]⟩
   ·refine stp rfl rfl rfl rfl rfl fun a w' hB hM hoff hp K hK => ?_
    exact op_val (by first | (go_simp; done) | (go_simp; rfl)) (hK _ _ hB (Mono.refl _) (Row.nil _ _))
  intro V1 w1 HB1 M1 hφ
  simp only [fillAll, Act.put, List.setIfInBounds_toArray, List.set_cons_zero, List.set_cons_succ]
  replace R6 := R6.mono M1
  replace R7 := R7.mono M1
  replace R8 := R8.mono M1
  replace R9 := R9.mono M1
  replace CV := CV.mono M1
  obtain ⟨b30_1, z1, hb1, C1⟩ := hφ 0 _ rfl (by decide)
  have K2 : Row w.heap.size w1 (V1 1) [] := hφ 1 _ rfl (by decide)
  simp only [z1]
  clear hφ
  (try simp only [Exit.inBlock, Exit.then])
  repeat (refine wp_seq ?_)
  refine rg (B := w.heap.size) (w0 := w) (by kernel_rfl) (by decide +kernel) [3, 4, 5, 6, 7, 8, 9, 10, 11, 12, 13, 14, 15, 16, 17, 18, 19, 20, 21, 22, 23, 24, 25, 26, 27, 28, 29, 30, 31, 32, 2] [isV (.pointer (some ⟨b30_1, 0, none⟩)), isV (.int .i64 c.fr), isV (.int .u8 (c.fr % 256)), isV (.pointer (some ⟨b30_1, 1, none⟩)), isV (.int .i64 c.tt), isV (.int .u8 (c.tt % 256)), isRow w.heap.size [(c.fr % 256), (c.tt % 256)], isV (.pointer (some ⟨b30_1, 2, none⟩)), isV (.int .u32 c.tid), isRow w.heap.size ((be 4 c.tid)), isV (.pointer (some ⟨b30_1, 3, none⟩)), isV (.int .u32 c.key), isRow w.heap.size ((be 4 c.key)), isV (.pointer (some ⟨b30_1, 4, none⟩)), isV (.pointer (some ⟨b30_1, 4, none⟩)), isV (.int .u64 c.lo), isRow w.heap.size ((be 8 c.lo)), isV (.pointer (some ⟨b30_1, 4, none⟩)), isV (.pointer (some ⟨b30_1, 5, none⟩)), isV (.int .u64 c.hi), isRow w.heap.size ((be 8 c.hi)), isV (.pointer (some ⟨b30_1, 6, none⟩)), isV (.slice A6 c.pub.length c6), isV (.int .i64 c.pub.length), isV (.int .u16 c.pub.length), isRow w.heap.size ((be 2 c.pub.length)), isV (.pointer (some ⟨b30_1, 6, none⟩)), isV (.slice A6 c.pub.length c6), isRows [[(c.fr % 256), (c.tt % 256)], (be 4 c.tid), (be 4 c.key), (be 8 c.lo), (be 8 c.hi), (be 2 c.pub.length), c.pub], isRow w.heap.size c.said, isRow w.heap.size c.said] rfl (by decide) rfl HB1 ?_ ?_ ?_
  · exact (stb_cons (stb_V _) (stb_cons (stb_V _) (stb_cons (stb_V _) (stb_cons (stb_V _) (stb_cons (stb_V _) (stb_cons (stb_V _) (stb_cons (stb_Row _ _) (stb_cons (stb_V _) (stb_cons (stb_V _) (stb_cons (stb_Row _ _) (stb_cons (stb_V _) (stb_cons (stb_V _) (stb_cons (stb_Row _ _) (stb_cons (stb_V _) (stb_cons (stb_V _) (stb_cons (stb_V _) (stb_cons (stb_Row _ _) (stb_cons (stb_V _) (stb_cons (stb_V _) (stb_cons (stb_V _) (stb_cons (stb_Row _ _) (stb_cons (stb_V _) (stb_cons (stb_V _) (stb_cons (stb_V _) (stb_cons (stb_V _) (stb_cons (stb_Row _ _) (stb_cons (stb_V _) (stb_cons (stb_V _) (stb_cons (stb_Rows _) (stb_cons (stb_Row _ _) (stb_cons (stb_Row _ _) stb_nil)))))))))))))))))))))))))))))))
  ·refine stepf_cons ?_ (stepf_cons ?_ (stepf_cons ?_ (stepf_cons ?_ (stepf_cons ?_ (stepf_cons ?_ (stepf_cons ?_ (stepf_cons ?_ (stepf_cons ?_ (stepf_cons ?_ (stepf_cons ?_ (stepf_cons ?_ (stepf_cons ?_ (stepf_cons ?_ (stepf_cons ?_ (stepf_cons ?_ (stepf_cons ?_ (stepf_cons ?_ (stepf_cons ?_ (stepf_cons ?_ (stepf_cons ?_ (stepf_cons ?_ (stepf_cons ?_ (stepf_cons ?_ (stepf_cons ?_ (stepf_cons ?_ (stepf_cons ?_ (stepf_cons ?_ (stepf_cons ?_ (stepf_cons ?_ (stepf_cons ?_ stepf_nil))))))))))))))))))))))))))))))
   ·refine stp rfl rfl rfl rfl rfl fun a w' hB hM hoff hp K hK => ?_
    have e1 : a.tmps[1]? = some (.pointer (some ⟨b30_1, 0, none⟩)) := (hoff 1 rfl).trans rfl
    have hu := Try.underlying28
    exact op_val (by first | (go_simp; done) | (go_simp; rfl)) (hK _ _ hB (Mono.refl _) rfl)
   ·refine stp rfl rfl rfl rfl rfl fun a w' hB hM hoff hp K hK => ?_
    obtain ⟨_, e3, rfl⟩ := hp 0 rfl 3 _ rfl rfl
    have d0 := (C1.mono hM) 0 _ rfl
    exact op_val (by first | (go_simp; done) | (go_simp; rfl)) (hK _ _ hB (Mono.refl _) rfl)
   ·refine stp rfl rfl rfl rfl rfl fun a w' hB hM hoff hp K hK => ?_
    obtain ⟨_, e4, rfl⟩ := hp 1 rfl 4 _ rfl rfl
    exact op_val (by first | (go_simp; done) | (go_simp; rfl)) (hK _ _ hB (Mono.refl _) rfl)
   ·refine stp rfl rfl rfl rfl rfl fun a w' hB hM hoff hp K hK => ?_
    have e1 : a.tmps[1]? = some (.pointer (some ⟨b30_1, 0, none⟩)) := (hoff 1 rfl).trans rfl
    have hu := Try.underlying28
    exact op_val (by first | (go_simp; done) | (go_simp; rfl)) (hK _ _ hB (Mono.refl _) rfl)
   ·refine stp rfl rfl rfl rfl rfl fun a w' hB hM hoff hp K hK => ?_
    obtain ⟨_, e6, rfl⟩ := hp 3 rfl 6 _ rfl rfl
    have d1 := (C1.mono hM) 1 _ rfl
    exact op_val (by first | (go_simp; done) | (go_simp; rfl)) (hK _ _ hB (Mono.refl _) rfl)
   ·refine stp rfl rfl rfl rfl rfl fun a w' hB hM hoff hp K hK => ?_
    obtain ⟨_, e7, rfl⟩ := hp 4 rfl 7 _ rfl rfl
    exact op_val (by first | (go_simp; done) | (go_simp; rfl)) (hK _ _ hB (Mono.refl _) rfl)
   ·refine stp rfl rfl rfl rfl rfl fun a w' hB hM hoff hp K hK => ?_
    obtain ⟨_, e5, rfl⟩ := hp 2 rfl 5 _ rfl rfl
    obtain ⟨_, e8, rfl⟩ := hp 5 rfl 8 _ rfl rfl
    refine op_val (v := .slice (some ⟨w'.heap.size, 0, none⟩) 2 2) (w' := w'.alloc (.cells #[.int .u8 ((c.fr % 256)), .int .u8 ((c.tt % 256))] 5)) (by first | (go_simp; done) | (go_simp; rfl)) (hK _ _ (below_then hB hB.size (below_alloc (Below.refl _ _) _)) (Mono.alloc _ _) ?_)
    exact Row.lit (l := [(c.fr % 256), (c.tt % 256)]) hB.size (by simp)
   ·refine stp rfl rfl rfl rfl rfl fun a w' hB hM hoff hp K hK => ?_
    have e1 : a.tmps[1]? = some (.pointer (some ⟨b30_1, 0, none⟩)) := (hoff 1 rfl).trans rfl
    have hu := Try.underlying28
    exact op_val (by first | (go_simp; done) | (go_simp; rfl)) (hK _ _ hB (Mono.refl _) rfl)
   ·refine stp rfl rfl rfl rfl rfl fun a w' hB hM hoff hp K hK => ?_
    obtain ⟨_, e10, rfl⟩ := hp 7 rfl 10 _ rfl rfl
    have d2 := (C1.mono hM) 2 _ rfl
    exact op_val (by first | (go_simp; done) | (go_simp; rfl)) (hK _ _ hB (Mono.refl _) rfl)
   ·refine stp rfl rfl rfl rfl rfl fun a w' hB hM hoff hp K hK => ?_
    obtain ⟨_, e11, rfl⟩ := hp 8 rfl 11 _ rfl rfl
    refine op_call Try.func41 (by kernel_rfl) rfl #[.int .u32 c.tid] rfl (by simp [ev e11]) (u32_calls _ ho.tid.1 ho.tid.2 _) ?_
    rintro e w1 ⟨u, rfl, hR, hb⟩
    exact ⟨u, rfl, hK _ _ (below_then hB hB.size hb) (Mono.of_below hb) (hR.lower hB.size)⟩
   ·refine stp rfl rfl rfl rfl rfl fun a w' hB hM hoff hp K hK => ?_
    have e1 : a.tmps[1]? = some (.pointer (some ⟨b30_1, 0, none⟩)) := (hoff 1 rfl).trans rfl
    have hu := Try.underlying28
    exact op_val (by first | (go_simp; done) | (go_simp; rfl)) (hK _ _ hB (Mono.refl _) rfl)
   ·refine stp rfl rfl rfl rfl rfl fun a w' hB hM hoff hp K hK => ?_
    obtain ⟨_, e13, rfl⟩ := hp 10 rfl 13 _ rfl rfl
    have d3 := (C1.mono hM) 3 _ rfl
    exact op_val (by first | (go_simp; done) | (go_simp; rfl)) (hK _ _ hB (Mono.refl _) rfl)
   ·refine stp rfl rfl rfl rfl rfl fun a w' hB hM hoff hp K hK => ?_
    obtain ⟨_, e14, rfl⟩ := hp 11 rfl 14 _ rfl rfl
    refine op_call Try.func41 (by kernel_rfl) rfl #[.int .u32 c.key] rfl (by simp [ev e14]) (u32_calls _ ho.key.1 ho.key.2 _) ?_
    rintro e w1 ⟨u, rfl, hR, hb⟩
    exact ⟨u, rfl, hK _ _ (below_then hB hB.size hb) (Mono.of_below hb) (hR.lower hB.size)⟩
   ·refine stp rfl rfl rfl rfl rfl fun a w' hB hM hoff hp K hK => ?_
    have e1 : a.tmps[1]? = some (.pointer (some ⟨b30_1, 0, none⟩)) := (hoff 1 rfl).trans rfl
    have hu := Try.underlying28
    exact op_val (by first | (go_simp; done) | (go_simp; rfl)) (hK _ _ hB (Mono.refl _) rfl)
   ·refine stp rfl rfl rfl rfl rfl fun a w' hB hM hoff hp K hK => ?_
    obtain ⟨_, e16, rfl⟩ := hp 13 rfl 16 _ rfl rfl
    have hu := Try.underlying25
    exact op_val (by first | (go_simp; done) | (go_simp; rfl)) (hK _ _ hB (Mono.refl _) rfl)
   ·refine stp rfl rfl rfl rfl rfl fun a w' hB hM hoff hp K hK => ?_
    obtain ⟨_, e17, rfl⟩ := hp 14 rfl 17 _ rfl rfl
    have d4 := (C1.mono hM) 4 _ rfl
    exact op_val (by first | (go_simp; done) | (go_simp; rfl)) (hK _ _ hB (Mono.refl _) rfl)
   ·refine stp rfl rfl rfl rfl rfl fun a w' hB hM hoff hp K hK => ?_
    obtain ⟨_, e18, rfl⟩ := hp 15 rfl 18 _ rfl rfl
    refine op_call Try.func42 (by kernel_rfl) rfl #[.int .u64 c.lo] rfl (by simp [ev e18]) (u64_calls _ _) ?_
    rintro e w1 ⟨u, rfl, hR, hb⟩
    exact ⟨u, rfl, hK _ _ (below_then hB hB.size hb) (Mono.of_below hb) (hR.lower hB.size)⟩
   ·refine stp rfl rfl rfl rfl rfl fun a w' hB hM hoff hp K hK => ?_
    have e1 : a.tmps[1]? = some (.pointer (some ⟨b30_1, 0, none⟩)) := (hoff 1 rfl).trans rfl
    have hu := Try.underlying28
    exact op_val (by first | (go_simp; done) | (go_simp; rfl)) (hK _ _ hB (Mono.refl _) rfl)
   ·refine stp rfl rfl rfl rfl rfl fun a w' hB hM hoff hp K hK => ?_
    obtain ⟨_, e20, rfl⟩ := hp 17 rfl 20 _ rfl rfl
    have hu := Try.underlying25
    exact op_val (by first | (go_simp; done) | (go_simp; rfl)) (hK _ _ hB (Mono.refl _) rfl)
   ·refine stp rfl rfl rfl rfl rfl fun a w' hB hM hoff hp K hK => ?_
    obtain ⟨_, e21, rfl⟩ := hp 18 rfl 21 _ rfl rfl
    have d5 := (C1.mono hM) 5 _ rfl
    exact op_val (by first | (go_simp; done) | (go_simp; rfl)) (hK _ _ hB (Mono.refl _) rfl)
   ·refine stp rfl rfl rfl rfl rfl fun a w' hB hM hoff hp K hK => ?_
    obtain ⟨_, e22, rfl⟩ := hp 19 rfl 22 _ rfl rfl
    refine op_call Try.func42 (by kernel_rfl) rfl #[.int .u64 c.hi] rfl (by simp [ev e22]) (u64_calls _ _) ?_
    rintro e w1 ⟨u, rfl, hR, hb⟩
    exact ⟨u, rfl, hK _ _ (below_then hB hB.size hb) (Mono.of_below hb) (hR.lower hB.size)⟩
   ·refine stp rfl rfl rfl rfl rfl fun a w' hB hM hoff hp K hK => ?_
    have e1 : a.tmps[1]? = some (.pointer (some ⟨b30_1, 0, none⟩)) := (hoff 1 rfl).trans rfl
    have hu := Try.underlying28
    exact op_val (by first | (go_simp; done) | (go_simp; rfl)) (hK _ _ hB (Mono.refl _) rfl)
   ·refine stp rfl rfl rfl rfl rfl fun a w' hB hM hoff hp K hK => ?_
    obtain ⟨_, e24, rfl⟩ := hp 21 rfl 24 _ rfl rfl
    have d6 := (C1.mono hM) 6 _ rfl
    exact op_val (by first | (go_simp; done) | (go_simp; rfl)) (hK _ _ hB (Mono.refl _) rfl)
   ·refine stp rfl rfl rfl rfl rfl fun a w' hB hM hoff hp K hK => ?_
    obtain ⟨_, e25, rfl⟩ := hp 22 rfl 25 _ rfl rfl
    exact op_val (by first | (go_simp; done) | (go_simp; rfl)) (hK _ _ hB (Mono.refl _) rfl)
   ·refine stp rfl rfl rfl rfl rfl fun a w' hB hM hoff hp K hK => ?_
    obtain ⟨_, e26, rfl⟩ := hp 23 rfl 26 _ rfl rfl
    have hu16 := u16wrap (n := c.pub.length) (by omega) (by omega)
    exact op_val (by first | (go_simp; done) | (go_simp; rfl)) (hK _ _ hB (Mono.refl _) rfl)
   ·refine stp rfl rfl rfl rfl rfl fun a w' hB hM hoff hp K hK => ?_
    obtain ⟨_, e27, rfl⟩ := hp 24 rfl 27 _ rfl rfl
    refine op_call Try.func38 (by kernel_rfl) rfl #[.int .u16 c.pub.length] rfl (by simp [ev e27]) (u16_calls _ (by omega) (by omega) _) ?_
    rintro e w1 ⟨u, rfl, hR, hb⟩
    exact ⟨u, rfl, hK _ _ (below_then hB hB.size hb) (Mono.of_below hb) (hR.lower hB.size)⟩
   ·refine stp rfl rfl rfl rfl rfl fun a w' hB hM hoff hp K hK => ?_
    have e1 : a.tmps[1]? = some (.pointer (some ⟨b30_1, 0, none⟩)) := (hoff 1 rfl).trans rfl
    have hu := Try.underlying28
    exact op_val (by first | (go_simp; done) | (go_simp; rfl)) (hK _ _ hB (Mono.refl _) rfl)
   ·refine stp rfl rfl rfl rfl rfl fun a w' hB hM hoff hp K hK => ?_
    obtain ⟨_, e29, rfl⟩ := hp 26 rfl 29 _ rfl rfl
    have d6 := (C1.mono hM) 6 _ rfl
    exact op_val (by first | (go_simp; done) | (go_simp; rfl)) (hK _ _ hB (Mono.refl _) rfl)
   ·refine stp rfl rfl rfl rfl rfl fun a w' hB hM hoff hp K hK => ?_
    obtain ⟨v9, e9, h9⟩ := hp 6 rfl 9 _ rfl rfl
    obtain ⟨v12, e12, h12⟩ := hp 9 rfl 12 _ rfl rfl
    obtain ⟨v15, e15, h15⟩ := hp 12 rfl 15 _ rfl rfl
    obtain ⟨v19, e19, h19⟩ := hp 16 rfl 19 _ rfl rfl
    obtain ⟨v23, e23, h23⟩ := hp 20 rfl 23 _ rfl rfl
    obtain ⟨v28, e28, h28⟩ := hp 25 rfl 28 _ rfl rfl
    obtain ⟨_, e30, rfl⟩ := hp 27 rfl 30 _ rfl rfl
    have k9 := h9.lower (Nat.zero_le _)
    obtain ⟨X9, y9, rfl, _, _, _⟩ := h9
    have k12 := h12.lower (Nat.zero_le _)
    obtain ⟨X12, y12, rfl, _, _, _⟩ := h12
    have k15 := h15.lower (Nat.zero_le _)
    obtain ⟨X15, y15, rfl, _, _, _⟩ := h15
    have k19 := h19.lower (Nat.zero_le _)
    obtain ⟨X19, y19, rfl, _, _, _⟩ := h19
    have k23 := h23.lower (Nat.zero_le _)
    obtain ⟨X23, y23, rfl, _, _, _⟩ := h23
    have k28 := h28.lower (Nat.zero_le _)
    obtain ⟨X28, y28, rfl, _, _, _⟩ := h28
    refine op_val (v := .slice (some ⟨w'.heap.size, 0, none⟩) 7 7) (w' := w'.alloc (.cells #[.slice X9 ([(c.fr % 256), (c.tt % 256)]).length y9, .slice X12 ((be 4 c.tid)).length y12, .slice X15 ((be 4 c.key)).length y15, .slice X19 ((be 8 c.lo)).length y19, .slice X23 ((be 8 c.hi)).length y23, .slice X28 ((be 2 c.pub.length)).length y28, .slice A6 c.pub.length c6] 26)) (by first | (go_simp; done) | (go_simp; rfl)) (hK _ _ (below_then hB hB.size (below_alloc (Below.refl _ _) _)) (Mono.alloc _ _) ?_)
    exact RowsB.lit (l := [[(c.fr % 256), (c.tt % 256)], (be 4 c.tid), (be 4 c.key), (be 8 c.lo), (be 8 c.hi), (be 2 c.pub.length), c.pub]) (vs := #[.slice X9 ([(c.fr % 256), (c.tt % 256)]).length y9, .slice X12 ((be 4 c.tid)).length y12, .slice X15 ((be 4 c.key)).length y15, .slice X19 ((be 8 c.lo)).length y19, .slice X23 ((be 8 c.hi)).length y23, .slice X28 ((be 2 c.pub.length)).length y28, .slice A6 c.pub.length c6]) (RowL.cons k9 (RowL.cons k12 (RowL.cons k15 (RowL.cons k19 (RowL.cons k23 (RowL.cons k28 (RowL.cons ((R6.mono hM).lower (Nat.zero_le _)) (RowL.nil _)))))))) (by simp)
   ·refine stp rfl rfl rfl rfl rfl fun a w' hB hM hoff hp K hK => ?_
    obtain ⟨v31, e31, h31⟩ := hp 28 rfl 31 _ rfl rfl
    refine op_call Try.func26 (by kernel_rfl) rfl #[v31] rfl (by simp [ev e31]) ((join_calls _ (by simp) (by simp [be_length]; omega) _ _ h31).mono (fun e w' h => by simpa [Cp.said, List.append_assoc] using h)) ?_
    rintro e w1 ⟨u, rfl, hR, hb⟩
    exact ⟨u, rfl, hK _ _ (below_then hB hB.size hb) (Mono.of_below hb) (hR.lower hB.size)⟩
   ·refine stp rfl rfl rfl rfl rfl fun a w' hB hM hoff hp K hK => ?_
    obtain ⟨v32, e32, h32⟩ := hp 29 rfl 32 _ rfl rfl
    exact op_val (by first | (go_simp; done) | (go_simp; rfl)) (hK _ _ hB (Mono.refl _) h32)
  intro V2 w2 HB2 M2 hφ
  simp only [fillAll, Act.put, List.setIfInBounds_toArray, List.set_cons_zero, List.set_cons_succ]
  replace R6 := R6.mono M2
  replace R7 := R7.mono M2
  replace R8 := R8.mono M2
  replace R9 := R9.mono M2
  replace CV := CV.mono M2
  replace C1 := C1.mono M2
  replace K2 := K2.mono M2
  have z3 : V2 0 = .pointer (some ⟨b30_1, 0, none⟩) := hφ 0 _ rfl (by decide)
  have z4 : V2 1 = .int .i64 c.fr := hφ 1 _ rfl (by decide)
  have z5 : V2 2 = .int .u8 (c.fr % 256) := hφ 2 _ rfl (by decide)
  have z6 : V2 3 = .pointer (some ⟨b30_1, 1, none⟩) := hφ 3 _ rfl (by decide)
  have z7 : V2 4 = .int .i64 c.tt := hφ 4 _ rfl (by decide)
  have z8 : V2 5 = .int .u8 (c.tt % 256) := hφ 5 _ rfl (by decide)
  have K9 : Row w.heap.size w2 (V2 6) [(c.fr % 256), (c.tt % 256)] := hφ 6 _ rfl (by decide)
  have z10 : V2 7 = .pointer (some ⟨b30_1, 2, none⟩) := hφ 7 _ rfl (by decide)
  have z11 : V2 8 = .int .u32 c.tid := hφ 8 _ rfl (by decide)
  have K12 : Row w.heap.size w2 (V2 9) ((be 4 c.tid)) := hφ 9 _ rfl (by decide)
  have z13 : V2 10 = .pointer (some ⟨b30_1, 3, none⟩) := hφ 10 _ rfl (by decide)
  have z14 : V2 11 = .int .u32 c.key := hφ 11 _ rfl (by decide)
  have K15 : Row w.heap.size w2 (V2 12) ((be 4 c.key)) := hφ 12 _ rfl (by decide)
  have z16 : V2 13 = .pointer (some ⟨b30_1, 4, none⟩) := hφ 13 _ rfl (by decide)
  have z17 : V2 14 = .pointer (some ⟨b30_1, 4, none⟩) := hφ 14 _ rfl (by decide)
  have z18 : V2 15 = .int .u64 c.lo := hφ 15 _ rfl (by decide)
  have K19 : Row w.heap.size w2 (V2 16) ((be 8 c.lo)) := hφ 16 _ rfl (by decide)
  have z20 : V2 17 = .pointer (some ⟨b30_1, 4, none⟩) := hφ 17 _ rfl (by decide)
  have z21 : V2 18 = .pointer (some ⟨b30_1, 5, none⟩) := hφ 18 _ rfl (by decide)
  have z22 : V2 19 = .int .u64 c.hi := hφ 19 _ rfl (by decide)
  have K23 : Row w.heap.size w2 (V2 20) ((be 8 c.hi)) := hφ 20 _ rfl (by decide)
  have z24 : V2 21 = .pointer (some ⟨b30_1, 6, none⟩) := hφ 21 _ rfl (by decide)
  have z25 : V2 22 = .slice A6 c.pub.length c6 := hφ 22 _ rfl (by decide)
  have z26 : V2 23 = .int .i64 c.pub.length := hφ 23 _ rfl (by decide)
  have z27 : V2 24 = .int .u16 c.pub.length := hφ 24 _ rfl (by decide)
  have K28 : Row w.heap.size w2 (V2 25) ((be 2 c.pub.length)) := hφ 25 _ rfl (by decide)
  have z29 : V2 26 = .pointer (some ⟨b30_1, 6, none⟩) := hφ 26 _ rfl (by decide)
  have z30 : V2 27 = .slice A6 c.pub.length c6 := hφ 27 _ rfl (by decide)
  have K31 : RowsB w2 (V2 28) [[(c.fr % 256), (c.tt % 256)], (be 4 c.tid), (be 4 c.key), (be 8 c.lo), (be 8 c.hi), (be 2 c.pub.length), c.pub] := hφ 28 _ rfl (by decide)
  have K32 : Row w.heap.size w2 (V2 29) c.said := hφ 29 _ rfl (by decide)
  have K2 : Row w.heap.size w2 (V2 30) c.said := hφ 30 _ rfl (by decide)
  simp only [z3, z4, z5, z6, z7, z8, z10, z11, z13, z14, z16, z17, z18, z20, z21, z22, z24, z25, z26, z27, z29, z30]
  clear hφ
  (try simp only [Exit.inBlock, Exit.then])
  refine wp_ret ?_
  (try simp only [Exit.inBlock, Exit.then])
  go_ret
  exact ⟨_, rfl, K2, HB2⟩
set_option maxHeartbeats 1000000 in
set_option maxRecDepth 100000 in
theorem inner_calls (c : Cp) (ho : c.Ok) (hs : c.pub.length < 65536) (hs2 : c.sl.length < 65536) (hs3 : c.ct.length < 65536) (hs4 : c.sig.length < 65536) (v : Value) (w : World) (hv : CapV 0 w v c) : Ret 27 #[v] w (isRow w.heap.size c.inner) := by
  obtain ⟨_, _, _, _, rfl, ⟨A6, c6, rfl, l6, r6, _⟩, ⟨A7, c7, rfl, l7, r7, _⟩, ⟨A8, c8, rfl, l8, r8, _⟩, ⟨A9, c9, rfl, l9, r9, _⟩⟩ := hv
  have R6 : Row 0 w (.slice A6 c.pub.length c6) c.pub := Row.of_C r6 l6
  have R7 : Row 0 w (.slice A7 c.ct.length c7) c.ct := Row.of_C r7 l7
  have R8 : Row 0 w (.slice A8 c.sl.length c8) c.sl := Row.of_C r8 l8
  have R9 : Row 0 w (.slice A9 c.sig.length c9) c.sig := Row.of_C r9 l9
  have CV : CapV 0 w (.agg #[.int .i64 c.fr, .int .i64 c.tt, .int .u32 c.tid, .int .u32 c.key, .int .u64 c.lo, .int .u64 c.hi, .slice A6 c.pub.length c6, .slice A7 c.ct.length c7, .slice A8 c.sl.length c8, .slice A9 c.sig.length c9]) c := ⟨_, _, _, _, rfl, R6, R7, R8, R9⟩
  go_enter Try.func27, Try.ntmps27
  have HBw : Below w.heap.size w w := Below.refl _ _
  (try simp only [Exit.inBlock, Exit.then])
  repeat (refine wp_seq ?_)
  refine rgs (B := w.heap.size) (w0 := w) [1, 2] [isBox w.heap.size [.int .i64 c.fr, .int .i64 c.tt, .int .u32 c.tid, .int .u32 c.key, .int .u64 c.lo, .int .u64 c.hi, .slice A6 c.pub.length c6, .slice A7 c.ct.length c7, .slice A8 c.sl.length c8, .slice A9 c.sig.length c9], isRow w.heap.size []] rfl (by decide) rfl HBw ?_ ?_ ?_
  · exact (stb_cons (stb_Box _ _) (stb_cons (stb_Row _ _) stb_nil))
  ·refine stepf_cons ?_ (stepf_cons ?_ stepf_nil)
   ·refine stp rfl rfl rfl rfl rfl fun a w' hB hM hoff hp K hK => ?_
    have e0 : a.tmps[0]? = some (.agg #[.int .i64 c.fr, .int .i64 c.tt, .int .u32 c.tid, .int .u32 c.key, .int .u64 c.lo, .int .u64 c.hi, .slice A6 c.pub.length c6, .slice A7 c.ct.length c7, .slice A8 c.sl.length c8, .slice A9 c.sig.length c9]) := (hoff 0 rfl).trans rfl
    have hu := Try.underlying28
    have hu2 := Try.underlying25
    refine op_val (v := .pointer (some ⟨w'.heap.size, 0, none⟩)) (w' := w'.alloc (.cells #[.int .i64 c.fr, .int .i64 c.tt, .int .u32 c.tid, .int .u32 c.key, .int .u64 c.lo, .int .u64 c.hi, .slice A6 c.pub.length c6, .slice A7 c.ct.length c7, .slice A8 c.sl.length c8, .slice A9 c.sig.length c9] 28)) (by first | (go_simp; done) | (go_simp; rfl)) (hK _ _ (below_then hB hB.size (below_alloc (Below.refl _ _) _)) (Mono.alloc _ _) ?_)
    exact ⟨_, rfl, hB.size, boxAt_alloc _ _ [.int .i64 c.fr, .int .i64 c.tt, .int .u32 c.tid, .int .u32 c.key, .int .u64 c.lo, .int .u64 c.hi, .slice A6 c.pub.length c6, .slice A7 c.ct.length c7, .slice A8 c.sl.length c8, .slice A9 c.sig.length c9]⟩
   ·refine stp rfl rfl rfl rfl rfl fun a w' hB hM hoff hp K hK => ?_
    exact op_val (by first | (go_simp; done) | (go_simp; rfl)) (hK _ _ hB (Mono.refl _) (Row.nil _ _))
  intro V1 w1 HB1 M1 hφ
  simp only [fillAll, Act.put, List.setIfInBounds_toArray, List.set_cons_zero, List.set_cons_succ]
  replace R6 := R6.mono M1
  replace R7 := R7.mono M1
  replace R8 := R8.mono M1
  replace R9 := R9.mono M1
  replace CV := CV.mono M1
  obtain ⟨b27_1, z1, hb1, C1⟩ := hφ 0 _ rfl (by decide)
  have K2 : Row w.heap.size w1 (V1 1) [] := hφ 1 _ rfl (by decide)
  simp only [z1]
  clear hφ
  (try simp only [Exit.inBlock, Exit.then])
  repeat (refine wp_seq ?_)
  refine rg (B := w.heap.size) (w0 := w) (by kernel_rfl) (by decide +kernel) [3, 4, 5, 6, 7, 8, 9, 10, 11, 12, 13, 14, 15, 2] [isV (.agg #[.int .i64 c.fr, .int .i64 c.tt, .int .u32 c.tid, .int .u32 c.key, .int .u64 c.lo, .int .u64 c.hi, .slice A6 c.pub.length c6, .slice A7 c.ct.length c7, .slice A8 c.sl.length c8, .slice A9 c.sig.length c9]), isRow w.heap.size c.said, isV (.pointer (some ⟨b27_1, 7, none⟩)), isV (.slice A7 c.ct.length c7), isV (.pointer (some ⟨b27_1, 8, none⟩)), isV (.slice A8 c.sl.length c8), isV (.int .i64 c.sl.length), isV (.int .u16 c.sl.length), isRow w.heap.size ((be 2 c.sl.length)), isV (.pointer (some ⟨b27_1, 8, none⟩)), isV (.slice A8 c.sl.length c8), isRows [c.said, c.ct, (be 2 c.sl.length), c.sl], isRow w.heap.size c.inner, isRow w.heap.size c.inner] rfl (by decide) rfl HB1 ?_ ?_ ?_
  · exact (stb_cons (stb_V _) (stb_cons (stb_Row _ _) (stb_cons (stb_V _) (stb_cons (stb_V _) (stb_cons (stb_V _) (stb_cons (stb_V _) (stb_cons (stb_V _) (stb_cons (stb_V _) (stb_cons (stb_Row _ _) (stb_cons (stb_V _) (stb_cons (stb_V _) (stb_cons (stb_Rows _) (stb_cons (stb_Row _ _) (stb_cons (stb_Row _ _) stb_nil))))))))))))))
  ·refine stepf_cons ?_ (stepf_cons ?_ (stepf_cons ?_ (stepf_cons ?_ (stepf_cons ?_ (stepf_cons ?_ (stepf_cons ?_ (stepf_cons ?_ (stepf_cons ?_ (stepf_cons ?_ (stepf_cons ?_ (stepf_cons ?_ (stepf_cons ?_ (stepf_cons ?_ stepf_nil)))))))))))))
   ·refine stp rfl rfl rfl rfl rfl fun a w' hB hM hoff hp K hK => ?_
    have e1 : a.tmps[1]? = some (.pointer (some ⟨b27_1, 0, none⟩)) := (hoff 1 rfl).trans rfl
    obtain ⟨d0, d1, d2, d3, d4, d5, d6, d7, d8, d9⟩ := (C1.mono hM).ten
    have hu := Try.underlying28
    have hu2 := Try.underlying25
    exact op_val (by first | (go_simp; done) | (go_simp; rfl)) (hK _ _ hB (Mono.refl _) rfl)
   ·refine stp rfl rfl rfl rfl rfl fun a w' hB hM hoff hp K hK => ?_
    obtain ⟨_, e3, rfl⟩ := hp 0 rfl 3 _ rfl rfl
    refine op_call Try.func30 (by kernel_rfl) rfl #[.agg #[.int .i64 c.fr, .int .i64 c.tt, .int .u32 c.tid, .int .u32 c.key, .int .u64 c.lo, .int .u64 c.hi, .slice A6 c.pub.length c6, .slice A7 c.ct.length c7, .slice A8 c.sl.length c8, .slice A9 c.sig.length c9]] rfl (by simp [ev e3]) (said_calls c ho hs hs2 hs3 hs4 _ _ (CV.mono hM)) ?_
    rintro e w1 ⟨u, rfl, hR, hb⟩
    exact ⟨u, rfl, hK _ _ (below_then hB hB.size hb) (Mono.of_below hb) (hR.lower hB.size)⟩
   ·refine stp rfl rfl rfl rfl rfl fun a w' hB hM hoff hp K hK => ?_
    have e1 : a.tmps[1]? = some (.pointer (some ⟨b27_1, 0, none⟩)) := (hoff 1 rfl).trans rfl
    have hu := Try.underlying28
    exact op_val (by first | (go_simp; done) | (go_simp; rfl)) (hK _ _ hB (Mono.refl _) rfl)
   ·refine stp rfl rfl rfl rfl rfl fun a w' hB hM hoff hp K hK => ?_
    obtain ⟨_, e5, rfl⟩ := hp 2 rfl 5 _ rfl rfl
    have d7 := (C1.mono hM) 7 _ rfl
    exact op_val (by first | (go_simp; done) | (go_simp; rfl)) (hK _ _ hB (Mono.refl _) rfl)
   ·refine stp rfl rfl rfl rfl rfl fun a w' hB hM hoff hp K hK => ?_
    have e1 : a.tmps[1]? = some (.pointer (some ⟨b27_1, 0, none⟩)) := (hoff 1 rfl).trans rfl
    have hu := Try.underlying28
    exact op_val (by first | (go_simp; done) | (go_simp; rfl)) (hK _ _ hB (Mono.refl _) rfl)
   ·refine stp rfl rfl rfl rfl rfl fun a w' hB hM hoff hp K hK => ?_
    obtain ⟨_, e7, rfl⟩ := hp 4 rfl 7 _ rfl rfl
    have d8 := (C1.mono hM) 8 _ rfl
    exact op_val (by first | (go_simp; done) | (go_simp; rfl)) (hK _ _ hB (Mono.refl _) rfl)
   ·refine stp rfl rfl rfl rfl rfl fun a w' hB hM hoff hp K hK => ?_
    obtain ⟨_, e8, rfl⟩ := hp 5 rfl 8 _ rfl rfl
    exact op_val (by first | (go_simp; done) | (go_simp; rfl)) (hK _ _ hB (Mono.refl _) rfl)
   ·refine stp rfl rfl rfl rfl rfl fun a w' hB hM hoff hp K hK => ?_
    obtain ⟨_, e9, rfl⟩ := hp 6 rfl 9 _ rfl rfl
    have hu16 := u16wrap (n := c.sl.length) (by omega) (by omega)
    exact op_val (by first | (go_simp; done) | (go_simp; rfl)) (hK _ _ hB (Mono.refl _) rfl)
   ·refine stp rfl rfl rfl rfl rfl fun a w' hB hM hoff hp K hK => ?_
    obtain ⟨_, e10, rfl⟩ := hp 7 rfl 10 _ rfl rfl
    refine op_call Try.func38 (by kernel_rfl) rfl #[.int .u16 c.sl.length] rfl (by simp [ev e10]) (u16_calls _ (by omega) (by omega) _) ?_
    rintro e w1 ⟨u, rfl, hR, hb⟩
    exact ⟨u, rfl, hK _ _ (below_then hB hB.size hb) (Mono.of_below hb) (hR.lower hB.size)⟩
   ·refine stp rfl rfl rfl rfl rfl fun a w' hB hM hoff hp K hK => ?_
    have e1 : a.tmps[1]? = some (.pointer (some ⟨b27_1, 0, none⟩)) := (hoff 1 rfl).trans rfl
    have hu := Try.underlying28
    exact op_val (by first | (go_simp; done) | (go_simp; rfl)) (hK _ _ hB (Mono.refl _) rfl)
   ·refine stp rfl rfl rfl rfl rfl fun a w' hB hM hoff hp K hK => ?_
    obtain ⟨_, e12, rfl⟩ := hp 9 rfl 12 _ rfl rfl
    have d8 := (C1.mono hM) 8 _ rfl
    exact op_val (by first | (go_simp; done) | (go_simp; rfl)) (hK _ _ hB (Mono.refl _) rfl)
   ·refine stp rfl rfl rfl rfl rfl fun a w' hB hM hoff hp K hK => ?_
    obtain ⟨v4, e4, h4⟩ := hp 1 rfl 4 _ rfl rfl
    obtain ⟨_, e6, rfl⟩ := hp 3 rfl 6 _ rfl rfl
    obtain ⟨v11, e11, h11⟩ := hp 8 rfl 11 _ rfl rfl
    obtain ⟨_, e13, rfl⟩ := hp 10 rfl 13 _ rfl rfl
    have k4 := h4.lower (Nat.zero_le _)
    obtain ⟨X4, y4, rfl, _, _, _⟩ := h4
    have k11 := h11.lower (Nat.zero_le _)
    obtain ⟨X11, y11, rfl, _, _, _⟩ := h11
    refine op_val (v := .slice (some ⟨w'.heap.size, 0, none⟩) 4 4) (w' := w'.alloc (.cells #[.slice X4 (c.said).length y4, .slice A7 c.ct.length c7, .slice X11 ((be 2 c.sl.length)).length y11, .slice A8 c.sl.length c8] 26)) (by first | (go_simp; done) | (go_simp; rfl)) (hK _ _ (below_then hB hB.size (below_alloc (Below.refl _ _) _)) (Mono.alloc _ _) ?_)
    exact RowsB.lit (l := [c.said, c.ct, (be 2 c.sl.length), c.sl]) (vs := #[.slice X4 (c.said).length y4, .slice A7 c.ct.length c7, .slice X11 ((be 2 c.sl.length)).length y11, .slice A8 c.sl.length c8]) (RowL.cons k4 (RowL.cons ((R7.mono hM).lower (Nat.zero_le _)) (RowL.cons k11 (RowL.cons ((R8.mono hM).lower (Nat.zero_le _)) (RowL.nil _))))) (by simp)
   ·refine stp rfl rfl rfl rfl rfl fun a w' hB hM hoff hp K hK => ?_
    obtain ⟨v14, e14, h14⟩ := hp 11 rfl 14 _ rfl rfl
    refine op_call Try.func26 (by kernel_rfl) rfl #[v14] rfl (by simp [ev e14]) ((join_calls _ (by simp) (by simp [be_length, said_length]; omega) _ _ h14).mono (fun e w' h => by simpa [Cp.inner, List.append_assoc] using h)) ?_
    rintro e w1 ⟨u, rfl, hR, hb⟩
    exact ⟨u, rfl, hK _ _ (below_then hB hB.size hb) (Mono.of_below hb) (hR.lower hB.size)⟩
   ·refine stp rfl rfl rfl rfl rfl fun a w' hB hM hoff hp K hK => ?_
    obtain ⟨v15, e15, h15⟩ := hp 12 rfl 15 _ rfl rfl
    exact op_val (by first | (go_simp; done) | (go_simp; rfl)) (hK _ _ hB (Mono.refl _) h15)
  intro V2 w2 HB2 M2 hφ
  simp only [fillAll, Act.put, List.setIfInBounds_toArray, List.set_cons_zero, List.set_cons_succ]
  replace R6 := R6.mono M2
  replace R7 := R7.mono M2
  replace R8 := R8.mono M2
  replace R9 := R9.mono M2
  replace CV := CV.mono M2
  replace C1 := C1.mono M2
  replace K2 := K2.mono M2
  have z3 : V2 0 = .agg #[.int .i64 c.fr, .int .i64 c.tt, .int .u32 c.tid, .int .u32 c.key, .int .u64 c.lo, .int .u64 c.hi, .slice A6 c.pub.length c6, .slice A7 c.ct.length c7, .slice A8 c.sl.length c8, .slice A9 c.sig.length c9] := hφ 0 _ rfl (by decide)
  have K4 : Row w.heap.size w2 (V2 1) c.said := hφ 1 _ rfl (by decide)
  have z5 : V2 2 = .pointer (some ⟨b27_1, 7, none⟩) := hφ 2 _ rfl (by decide)
  have z6 : V2 3 = .slice A7 c.ct.length c7 := hφ 3 _ rfl (by decide)
  have z7 : V2 4 = .pointer (some ⟨b27_1, 8, none⟩) := hφ 4 _ rfl (by decide)
  have z8 : V2 5 = .slice A8 c.sl.length c8 := hφ 5 _ rfl (by decide)
  have z9 : V2 6 = .int .i64 c.sl.length := hφ 6 _ rfl (by decide)
  have z10 : V2 7 = .int .u16 c.sl.length := hφ 7 _ rfl (by decide)
  have K11 : Row w.heap.size w2 (V2 8) ((be 2 c.sl.length)) := hφ 8 _ rfl (by decide)
  have z12 : V2 9 = .pointer (some ⟨b27_1, 8, none⟩) := hφ 9 _ rfl (by decide)
  have z13 : V2 10 = .slice A8 c.sl.length c8 := hφ 10 _ rfl (by decide)
  have K14 : RowsB w2 (V2 11) [c.said, c.ct, (be 2 c.sl.length), c.sl] := hφ 11 _ rfl (by decide)
  have K15 : Row w.heap.size w2 (V2 12) c.inner := hφ 12 _ rfl (by decide)
  have K2 : Row w.heap.size w2 (V2 13) c.inner := hφ 13 _ rfl (by decide)
  simp only [z3, z5, z6, z7, z8, z9, z10, z12, z13]
  clear hφ
  (try simp only [Exit.inBlock, Exit.then])
  refine wp_ret ?_
  (try simp only [Exit.inBlock, Exit.then])
  go_ret
  exact ⟨_, rfl, K2, HB2⟩
set_option maxHeartbeats 1000000 in
set_option maxRecDepth 100000 in
theorem Said_calls (c : Cp) (ho : c.Ok) (hs : c.pub.length < 65536) (hs2 : c.sl.length < 65536) (hs3 : c.ct.length < 65536) (hs4 : c.sig.length < 65536) (v : Value) (w : World) (hv : CapV 0 w v c) : Ret 16 #[v] w (isRow w.heap.size (if c.Spoken then c.said else [])) := by
  obtain ⟨_, _, _, _, rfl, ⟨A6, c6, rfl, l6, r6, _⟩, ⟨A7, c7, rfl, l7, r7, _⟩, ⟨A8, c8, rfl, l8, r8, _⟩, ⟨A9, c9, rfl, l9, r9, _⟩⟩ := hv
  have R6 : Row 0 w (.slice A6 c.pub.length c6) c.pub := Row.of_C r6 l6
  have R7 : Row 0 w (.slice A7 c.ct.length c7) c.ct := Row.of_C r7 l7
  have R8 : Row 0 w (.slice A8 c.sl.length c8) c.sl := Row.of_C r8 l8
  have R9 : Row 0 w (.slice A9 c.sig.length c9) c.sig := Row.of_C r9 l9
  have CV : CapV 0 w (.agg #[.int .i64 c.fr, .int .i64 c.tt, .int .u32 c.tid, .int .u32 c.key, .int .u64 c.lo, .int .u64 c.hi, .slice A6 c.pub.length c6, .slice A7 c.ct.length c7, .slice A8 c.sl.length c8, .slice A9 c.sig.length c9]) c := ⟨_, _, _, _, rfl, R6, R7, R8, R9⟩
  by_cases h : c.Spoken
  · rw [if_pos h]
    go_enter Try.func16, Try.ntmps16
    have HBw : Below w.heap.size w w := Below.refl _ _
    (try simp only [Exit.inBlock, Exit.then])
    repeat (refine wp_seq ?_)
    refine rgs (B := w.heap.size) (w0 := w) [1, 2] [isBox w.heap.size [.int .i64 c.fr, .int .i64 c.tt, .int .u32 c.tid, .int .u32 c.key, .int .u64 c.lo, .int .u64 c.hi, .slice A6 c.pub.length c6, .slice A7 c.ct.length c7, .slice A8 c.sl.length c8, .slice A9 c.sig.length c9], isRow w.heap.size []] rfl (by decide) rfl HBw ?_ ?_ ?_
    · exact (stb_cons (stb_Box _ _) (stb_cons (stb_Row _ _) stb_nil))
    ·refine stepf_cons ?_ (stepf_cons ?_ stepf_nil)
     ·refine stp rfl rfl rfl rfl rfl fun a w' hB hM hoff hp K hK => ?_
      have e0 : a.tmps[0]? = some (.agg #[.int .i64 c.fr, .int .i64 c.tt, .int .u32 c.tid, .int .u32 c.key, .int .u64 c.lo, .int .u64 c.hi, .slice A6 c.pub.length c6, .slice A7 c.ct.length c7, .slice A8 c.sl.length c8, .slice A9 c.sig.length c9]) := (hoff 0 rfl).trans rfl
      have hu := Try.underlying28
      have hu2 := Try.underlying25
      refine op_val (v := .pointer (some ⟨w'.heap.size, 0, none⟩)) (w' := w'.alloc (.cells #[.int .i64 c.fr, .int .i64 c.tt, .int .u32 c.tid, .int .u32 c.key, .int .u64 c.lo, .int .u64 c.hi, .slice A6 c.pub.length c6, .slice A7 c.ct.length c7, .slice A8 c.sl.length c8, .slice A9 c.sig.length c9] 28)) (by first | (go_simp; done) | (go_simp; rfl)) (hK _ _ (below_then hB hB.size (below_alloc (Below.refl _ _) _)) (Mono.alloc _ _) ?_)
      exact ⟨_, rfl, hB.size, boxAt_alloc _ _ [.int .i64 c.fr, .int .i64 c.tt, .int .u32 c.tid, .int .u32 c.key, .int .u64 c.lo, .int .u64 c.hi, .slice A6 c.pub.length c6, .slice A7 c.ct.length c7, .slice A8 c.sl.length c8, .slice A9 c.sig.length c9]⟩
     ·refine stp rfl rfl rfl rfl rfl fun a w' hB hM hoff hp K hK => ?_
      exact op_val (by first | (go_simp; done) | (go_simp; rfl)) (hK _ _ hB (Mono.refl _) (Row.nil _ _))
    intro V1 w1 HB1 M1 hφ
    simp only [fillAll, Act.put, List.setIfInBounds_toArray, List.set_cons_zero, List.set_cons_succ]
    replace R6 := R6.mono M1
    replace R7 := R7.mono M1
    replace R8 := R8.mono M1
    replace R9 := R9.mono M1
    replace CV := CV.mono M1
    obtain ⟨b16_1, z1, hb1, C1⟩ := hφ 0 _ rfl (by decide)
    have K2 : Row w.heap.size w1 (V1 1) [] := hφ 1 _ rfl (by decide)
    simp only [z1]
    clear hφ
    (try simp only [Exit.inBlock, Exit.then])
    repeat (refine wp_seq ?_)
    refine rgs (B := w.heap.size) (w0 := w) [3, 4, 5] [isV (.agg #[.int .i64 c.fr, .int .i64 c.tt, .int .u32 c.tid, .int .u32 c.key, .int .u64 c.lo, .int .u64 c.hi, .slice A6 c.pub.length c6, .slice A7 c.ct.length c7, .slice A8 c.sl.length c8, .slice A9 c.sig.length c9]), isV (.bool true), isV (.bool false)] rfl (by decide) rfl HB1 ?_ ?_ ?_
    · exact (stb_cons (stb_V _) (stb_cons (stb_V _) (stb_cons (stb_V _) stb_nil)))
    ·refine stepf_cons ?_ (stepf_cons ?_ (stepf_cons ?_ stepf_nil))
     ·refine stp rfl rfl rfl rfl rfl fun a w' hB hM hoff hp K hK => ?_
      have e1 : a.tmps[1]? = some (.pointer (some ⟨b16_1, 0, none⟩)) := (hoff 1 rfl).trans rfl
      obtain ⟨d0, d1, d2, d3, d4, d5, d6, d7, d8, d9⟩ := (C1.mono hM).ten
      have hu := Try.underlying28
      have hu2 := Try.underlying25
      exact op_val (by first | (go_simp; done) | (go_simp; rfl)) (hK _ _ hB (Mono.refl _) rfl)
     ·refine stp rfl rfl rfl rfl rfl fun a w' hB hM hoff hp K hK => ?_
      obtain ⟨_, e3, rfl⟩ := hp 0 rfl 3 _ rfl rfl
      refine op_call Try.func29 (by kernel_rfl) rfl #[.agg #[.int .i64 c.fr, .int .i64 c.tt, .int .u32 c.tid, .int .u32 c.key, .int .u64 c.lo, .int .u64 c.hi, .slice A6 c.pub.length c6, .slice A7 c.ct.length c7, .slice A8 c.sl.length c8, .slice A9 c.sig.length c9]] rfl (by simp [ev e3]) (spoken_calls c _ (decide_eq_true h) _ _ (CV.mono hM)) ?_
      rintro e w1 ⟨u, rfl, hR, hb⟩
      exact ⟨u, rfl, hK _ _ (below_then hB hB.size hb) (Mono.of_below hb) hR⟩
     ·refine stp rfl rfl rfl rfl rfl fun a w' hB hM hoff hp K hK => ?_
      obtain ⟨_, e4, rfl⟩ := hp 1 rfl 4 _ rfl rfl
      exact op_val (by first | (go_simp; done) | (go_simp; rfl)) (hK _ _ hB (Mono.refl _) rfl)
    intro V2 w2 HB2 M2 hφ
    simp only [fillAll, Act.put, List.setIfInBounds_toArray, List.set_cons_zero, List.set_cons_succ]
    replace R6 := R6.mono M2
    replace R7 := R7.mono M2
    replace R8 := R8.mono M2
    replace R9 := R9.mono M2
    replace CV := CV.mono M2
    replace C1 := C1.mono M2
    replace K2 := K2.mono M2
    have z3 : V2 0 = .agg #[.int .i64 c.fr, .int .i64 c.tt, .int .u32 c.tid, .int .u32 c.key, .int .u64 c.lo, .int .u64 c.hi, .slice A6 c.pub.length c6, .slice A7 c.ct.length c7, .slice A8 c.sl.length c8, .slice A9 c.sig.length c9] := hφ 0 _ rfl (by decide)
    have z4 : V2 1 = .bool true := hφ 1 _ rfl (by decide)
    have z5 : V2 2 = .bool false := hφ 2 _ rfl (by decide)
    simp only [z3, z4, z5]
    clear hφ
    (try simp only [Exit.inBlock, Exit.then])
    repeat (refine wp_seq ?_)
    (try simp only [Exit.inBlock, Exit.then])
    refine wp_cond_false rfl ?_
    refine wp_skip ?_
    (try simp only [Exit.inBlock, Exit.then])
    repeat (refine wp_seq ?_)
    refine rgs (B := w.heap.size) (w0 := w) [6, 7, 2] [isV (.agg #[.int .i64 c.fr, .int .i64 c.tt, .int .u32 c.tid, .int .u32 c.key, .int .u64 c.lo, .int .u64 c.hi, .slice A6 c.pub.length c6, .slice A7 c.ct.length c7, .slice A8 c.sl.length c8, .slice A9 c.sig.length c9]), isRow w.heap.size c.said, isRow w.heap.size c.said] rfl (by decide) rfl HB2 ?_ ?_ ?_
    · exact (stb_cons (stb_V _) (stb_cons (stb_Row _ _) (stb_cons (stb_Row _ _) stb_nil)))
    ·refine stepf_cons ?_ (stepf_cons ?_ (stepf_cons ?_ stepf_nil))
     ·refine stp rfl rfl rfl rfl rfl fun a w' hB hM hoff hp K hK => ?_
      have e1 : a.tmps[1]? = some (.pointer (some ⟨b16_1, 0, none⟩)) := (hoff 1 rfl).trans rfl
      obtain ⟨d0, d1, d2, d3, d4, d5, d6, d7, d8, d9⟩ := (C1.mono hM).ten
      have hu := Try.underlying28
      have hu2 := Try.underlying25
      exact op_val (by first | (go_simp; done) | (go_simp; rfl)) (hK _ _ hB (Mono.refl _) rfl)
     ·refine stp rfl rfl rfl rfl rfl fun a w' hB hM hoff hp K hK => ?_
      obtain ⟨_, e6, rfl⟩ := hp 0 rfl 6 _ rfl rfl
      refine op_call Try.func30 (by kernel_rfl) rfl #[.agg #[.int .i64 c.fr, .int .i64 c.tt, .int .u32 c.tid, .int .u32 c.key, .int .u64 c.lo, .int .u64 c.hi, .slice A6 c.pub.length c6, .slice A7 c.ct.length c7, .slice A8 c.sl.length c8, .slice A9 c.sig.length c9]] rfl (by simp [ev e6]) (said_calls c ho hs hs2 hs3 hs4 _ _ (CV.mono hM)) ?_
      rintro e w1 ⟨u, rfl, hR, hb⟩
      exact ⟨u, rfl, hK _ _ (below_then hB hB.size hb) (Mono.of_below hb) (hR.lower hB.size)⟩
     ·refine stp rfl rfl rfl rfl rfl fun a w' hB hM hoff hp K hK => ?_
      obtain ⟨v7, e7, h7⟩ := hp 1 rfl 7 _ rfl rfl
      exact op_val (by first | (go_simp; done) | (go_simp; rfl)) (hK _ _ hB (Mono.refl _) h7)
    intro V3 w3 HB3 M3 hφ
    simp only [fillAll, Act.put, List.setIfInBounds_toArray, List.set_cons_zero, List.set_cons_succ]
    replace R6 := R6.mono M3
    replace R7 := R7.mono M3
    replace R8 := R8.mono M3
    replace R9 := R9.mono M3
    replace CV := CV.mono M3
    replace C1 := C1.mono M3
    replace K2 := K2.mono M3
    have z6 : V3 0 = .agg #[.int .i64 c.fr, .int .i64 c.tt, .int .u32 c.tid, .int .u32 c.key, .int .u64 c.lo, .int .u64 c.hi, .slice A6 c.pub.length c6, .slice A7 c.ct.length c7, .slice A8 c.sl.length c8, .slice A9 c.sig.length c9] := hφ 0 _ rfl (by decide)
    have K7 : Row w.heap.size w3 (V3 1) c.said := hφ 1 _ rfl (by decide)
    have K2 : Row w.heap.size w3 (V3 2) c.said := hφ 2 _ rfl (by decide)
    simp only [z6]
    clear hφ
    (try simp only [Exit.inBlock, Exit.then])
    repeat (refine wp_seq ?_)
    (try simp only [Exit.inBlock, Exit.then])
    refine wp_ret ?_
    (try simp only [Exit.inBlock, Exit.then])
    go_ret
    exact ⟨_, rfl, K2, HB3⟩
  · rw [if_neg h]
    go_enter Try.func16, Try.ntmps16
    have HBw : Below w.heap.size w w := Below.refl _ _
    (try simp only [Exit.inBlock, Exit.then])
    repeat (refine wp_seq ?_)
    refine rgs (B := w.heap.size) (w0 := w) [1, 2] [isBox w.heap.size [.int .i64 c.fr, .int .i64 c.tt, .int .u32 c.tid, .int .u32 c.key, .int .u64 c.lo, .int .u64 c.hi, .slice A6 c.pub.length c6, .slice A7 c.ct.length c7, .slice A8 c.sl.length c8, .slice A9 c.sig.length c9], isRow w.heap.size []] rfl (by decide) rfl HBw ?_ ?_ ?_
    · exact (stb_cons (stb_Box _ _) (stb_cons (stb_Row _ _) stb_nil))
    ·refine stepf_cons ?_ (stepf_cons ?_ stepf_nil)
     ·refine stp rfl rfl rfl rfl rfl fun a w' hB hM hoff hp K hK => ?_
      have e0 : a.tmps[0]? = some (.agg #[.int .i64 c.fr, .int .i64 c.tt, .int .u32 c.tid, .int .u32 c.key, .int .u64 c.lo, .int .u64 c.hi, .slice A6 c.pub.length c6, .slice A7 c.ct.length c7, .slice A8 c.sl.length c8, .slice A9 c.sig.length c9]) := (hoff 0 rfl).trans rfl
      have hu := Try.underlying28
      have hu2 := Try.underlying25
      refine op_val (v := .pointer (some ⟨w'.heap.size, 0, none⟩)) (w' := w'.alloc (.cells #[.int .i64 c.fr, .int .i64 c.tt, .int .u32 c.tid, .int .u32 c.key, .int .u64 c.lo, .int .u64 c.hi, .slice A6 c.pub.length c6, .slice A7 c.ct.length c7, .slice A8 c.sl.length c8, .slice A9 c.sig.length c9] 28)) (by first | (go_simp; done) | (go_simp; rfl)) (hK _ _ (below_then hB hB.size (below_alloc (Below.refl _ _) _)) (Mono.alloc _ _) ?_)
      exact ⟨_, rfl, hB.size, boxAt_alloc _ _ [.int .i64 c.fr, .int .i64 c.tt, .int .u32 c.tid, .int .u32 c.key, .int .u64 c.lo, .int .u64 c.hi, .slice A6 c.pub.length c6, .slice A7 c.ct.length c7, .slice A8 c.sl.length c8, .slice A9 c.sig.length c9]⟩
     ·refine stp rfl rfl rfl rfl rfl fun a w' hB hM hoff hp K hK => ?_
      exact op_val (by first | (go_simp; done) | (go_simp; rfl)) (hK _ _ hB (Mono.refl _) (Row.nil _ _))
    intro V1 w1 HB1 M1 hφ
    simp only [fillAll, Act.put, List.setIfInBounds_toArray, List.set_cons_zero, List.set_cons_succ]
    replace R6 := R6.mono M1
    replace R7 := R7.mono M1
    replace R8 := R8.mono M1
    replace R9 := R9.mono M1
    replace CV := CV.mono M1
    obtain ⟨b16_1, z1, hb1, C1⟩ := hφ 0 _ rfl (by decide)
    have K2 : Row w.heap.size w1 (V1 1) [] := hφ 1 _ rfl (by decide)
    simp only [z1]
    clear hφ
    (try simp only [Exit.inBlock, Exit.then])
    repeat (refine wp_seq ?_)
    refine rgs (B := w.heap.size) (w0 := w) [3, 4, 5] [isV (.agg #[.int .i64 c.fr, .int .i64 c.tt, .int .u32 c.tid, .int .u32 c.key, .int .u64 c.lo, .int .u64 c.hi, .slice A6 c.pub.length c6, .slice A7 c.ct.length c7, .slice A8 c.sl.length c8, .slice A9 c.sig.length c9]), isV (.bool false), isV (.bool true)] rfl (by decide) rfl HB1 ?_ ?_ ?_
    · exact (stb_cons (stb_V _) (stb_cons (stb_V _) (stb_cons (stb_V _) stb_nil)))
    ·refine stepf_cons ?_ (stepf_cons ?_ (stepf_cons ?_ stepf_nil))
     ·refine stp rfl rfl rfl rfl rfl fun a w' hB hM hoff hp K hK => ?_
      have e1 : a.tmps[1]? = some (.pointer (some ⟨b16_1, 0, none⟩)) := (hoff 1 rfl).trans rfl
      obtain ⟨d0, d1, d2, d3, d4, d5, d6, d7, d8, d9⟩ := (C1.mono hM).ten
      have hu := Try.underlying28
      have hu2 := Try.underlying25
      exact op_val (by first | (go_simp; done) | (go_simp; rfl)) (hK _ _ hB (Mono.refl _) rfl)
     ·refine stp rfl rfl rfl rfl rfl fun a w' hB hM hoff hp K hK => ?_
      obtain ⟨_, e3, rfl⟩ := hp 0 rfl 3 _ rfl rfl
      refine op_call Try.func29 (by kernel_rfl) rfl #[.agg #[.int .i64 c.fr, .int .i64 c.tt, .int .u32 c.tid, .int .u32 c.key, .int .u64 c.lo, .int .u64 c.hi, .slice A6 c.pub.length c6, .slice A7 c.ct.length c7, .slice A8 c.sl.length c8, .slice A9 c.sig.length c9]] rfl (by simp [ev e3]) (spoken_calls c _ (decide_eq_false h) _ _ (CV.mono hM)) ?_
      rintro e w1 ⟨u, rfl, hR, hb⟩
      exact ⟨u, rfl, hK _ _ (below_then hB hB.size hb) (Mono.of_below hb) hR⟩
     ·refine stp rfl rfl rfl rfl rfl fun a w' hB hM hoff hp K hK => ?_
      obtain ⟨_, e4, rfl⟩ := hp 1 rfl 4 _ rfl rfl
      exact op_val (by first | (go_simp; done) | (go_simp; rfl)) (hK _ _ hB (Mono.refl _) rfl)
    intro V2 w2 HB2 M2 hφ
    simp only [fillAll, Act.put, List.setIfInBounds_toArray, List.set_cons_zero, List.set_cons_succ]
    replace R6 := R6.mono M2
    replace R7 := R7.mono M2
    replace R8 := R8.mono M2
    replace R9 := R9.mono M2
    replace CV := CV.mono M2
    replace C1 := C1.mono M2
    replace K2 := K2.mono M2
    have z3 : V2 0 = .agg #[.int .i64 c.fr, .int .i64 c.tt, .int .u32 c.tid, .int .u32 c.key, .int .u64 c.lo, .int .u64 c.hi, .slice A6 c.pub.length c6, .slice A7 c.ct.length c7, .slice A8 c.sl.length c8, .slice A9 c.sig.length c9] := hφ 0 _ rfl (by decide)
    have z4 : V2 1 = .bool false := hφ 1 _ rfl (by decide)
    have z5 : V2 2 = .bool true := hφ 2 _ rfl (by decide)
    simp only [z3, z4, z5]
    clear hφ
    (try simp only [Exit.inBlock, Exit.then])
    repeat (refine wp_seq ?_)
    (try simp only [Exit.inBlock, Exit.then])
    refine wp_cond_true rfl ?_
    (try simp only [Exit.inBlock, Exit.then])
    repeat (refine wp_seq ?_)
    refine rgs (B := w.heap.size) (w0 := w) [2] [isRow w.heap.size []] rfl (by decide) rfl HB2 ?_ ?_ ?_
    · exact (stb_cons (stb_Row _ _) stb_nil)
    ·refine stepf_cons ?_ stepf_nil
     ·refine stp rfl rfl rfl rfl rfl fun a w' hB hM hoff hp K hK => ?_
      exact op_val (by first | (go_simp; done) | (go_simp; rfl)) (hK _ _ hB (Mono.refl _) (Row.nil _ _))
    intro V3 w3 HB3 M3 hφ
    simp only [fillAll, Act.put, List.setIfInBounds_toArray, List.set_cons_zero, List.set_cons_succ]
    replace R6 := R6.mono M3
    replace R7 := R7.mono M3
    replace R8 := R8.mono M3
    replace R9 := R9.mono M3
    replace CV := CV.mono M3
    replace C1 := C1.mono M3
    replace K2 := K2.mono M3
    have K2 : Row w.heap.size w3 (V3 0) [] := hφ 0 _ rfl (by decide)
    clear hφ
    (try simp only [Exit.inBlock, Exit.then])
    repeat (refine wp_seq ?_)
    (try simp only [Exit.inBlock, Exit.then])
    refine wp_ret ?_
    (try simp only [Exit.inBlock, Exit.then])
    go_ret
    exact ⟨_, rfl, K2, HB3⟩
end Go.Proofs.Ytgacaemgmgoiaaa.QLeaf
