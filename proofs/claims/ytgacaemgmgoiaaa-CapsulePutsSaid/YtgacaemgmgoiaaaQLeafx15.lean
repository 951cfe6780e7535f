-- written by wip/printx of this session, out of the translation; not trusted: Lean checks it
import Derived.Test.YtgacaemgmgoiaaaQLeafx0
import Derived.Test.YtgacaemgmgoiaaaQLeafx1
import Derived.Test.YtgacaemgmgoiaaaQLeafx4
namespace Go.Proofs.Ytgacaemgmgoiaaa.QLeaf
open Go.RowKit Go.Proofs.YtgacaemgmgoiaaaW.PrintWords Go.Proofs.YtgacaemgmgoiaaaW.PrintLast Go.Proofs.YtgacaemgmgoiaaaW.PrintMore
attribute [local go_sem] max2_int min2_int max_two min_two max_three min_three max_four min_four   -- for this text's walks alone
set_option linter.unusedVariables false
set_option linter.unusedSimpArgs false

attribute [local go_sem high] eqA25
/-! ### capsule_Same: function 12 -/
def capsule_Same.j0 : Nat → Bool → Int → Int → Int → Int → Int → Int → List Int → List Int → List Int → List Int → Int → Int → Int → Int → Int → Int → List Int → List Int → List Int → List Int → Option (Bool)
 | 0, _, _, _, _, _, _, _, _, _, _, _, _, _, _, _, _, _, _, _, _, _ => none
 | k + 1, x5, x174000, x174001, x174002, x174003, x174004, x174005, x174006, x174007, x174008, x174009, x175000, x175001, x175002, x175003, x175004, x175005, x175006, x175007, x175008, x175009 => if x5 = true then ((octet_Same.f k x174006 x175006).bind fun t175 => (if t175 = true then ((octet_Same.f k x174007 x175007).bind fun t176 => (if t176 = true then ((octet_Same.f k x174008 x175008).bind fun t177 => (if t177 = true then ((octet_Same.f k x174009 x175009).bind fun t178 => (some t178)) else (some false))) else (some false))) else (some false))) else (some false)
def capsule_Same.f (k : Nat) (a0_0 : Int) (a0_1 : Int) (a0_2 : Int) (a0_3 : Int) (a0_4 : Int) (a0_5 : Int) (l0_6 : List Int) (l0_7 : List Int) (l0_8 : List Int) (l0_9 : List Int) (a1_0 : Int) (a1_1 : Int) (a1_2 : Int) (a1_3 : Int) (a1_4 : Int) (a1_5 : Int) (l1_6 : List Int) (l1_7 : List Int) (l1_8 : List Int) (l1_9 : List Int) : Option (Bool) := if a0_0 = a1_0 then (if a0_1 = a1_1 then (if a0_2 = a1_2 then (if a0_3 = a1_3 then (capsule_Same.j0 k (a0_4 == a1_4 && (a0_5 == a1_5)) a0_0 a0_1 a0_2 a0_3 a0_4 a0_5 l0_6 l0_7 l0_8 l0_9 a1_0 a1_1 a1_2 a1_3 a1_4 a1_5 l1_6 l1_7 l1_8 l1_9) else (capsule_Same.j0 k false a0_0 a0_1 a0_2 a0_3 a0_4 a0_5 l0_6 l0_7 l0_8 l0_9 a1_0 a1_1 a1_2 a1_3 a1_4 a1_5 l1_6 l1_7 l1_8 l1_9)) else (capsule_Same.j0 k false a0_0 a0_1 a0_2 a0_3 a0_4 a0_5 l0_6 l0_7 l0_8 l0_9 a1_0 a1_1 a1_2 a1_3 a1_4 a1_5 l1_6 l1_7 l1_8 l1_9)) else (capsule_Same.j0 k false a0_0 a0_1 a0_2 a0_3 a0_4 a0_5 l0_6 l0_7 l0_8 l0_9 a1_0 a1_1 a1_2 a1_3 a1_4 a1_5 l1_6 l1_7 l1_8 l1_9)) else (capsule_Same.j0 k false a0_0 a0_1 a0_2 a0_3 a0_4 a0_5 l0_6 l0_7 l0_8 l0_9 a1_0 a1_1 a1_2 a1_3 a1_4 a1_5 l1_6 l1_7 l1_8 l1_9)
theorem capsule_Same.mono_l : ∀ k, (∀ y0 y1 y2 y3 y4 y5 y6 y7 y8 y9 y10 y11 y12 y13 y14 y15 y16 y17 y18 y19 y20, LeO (capsule_Same.j0 k y0 y1 y2 y3 y4 y5 y6 y7 y8 y9 y10 y11 y12 y13 y14 y15 y16 y17 y18 y19 y20) (capsule_Same.j0 (k + 1) y0 y1 y2 y3 y4 y5 y6 y7 y8 y9 y10 y11 y12 y13 y14 y15 y16 y17 y18 y19 y20))
 | 0 => fun _ _ _ _ _ _ _ _ _ _ _ _ _ _ _ _ _ _ _ _ _ r h => by simp [capsule_Same.j0] at h
 | k + 1 => by
  have ih0 := capsule_Same.mono_l k
  ·intro y0 y1 y2 y3 y4 y5 y6 y7 y8 y9 y10 y11 y12 y13 y14 y15 y16 y17 y18 y19 y20
   unfold capsule_Same.j0
   repeat' first
   | (with_reducible exact ih0 _ _ _ _ _ _ _ _ _ _ _ _ _ _ _ _ _ _ _ _ _)
   | (with_reducible exact octet_Same.mono _ _ _)
   | (with_reducible exact LeO.refl _)
   | (with_reducible exact LeO.none _)
   | (with_reducible refine LeO.ite ?_ ?_)
   | (with_reducible refine LeO.bind ?_ (fun _ => ?_))
   | exact ih0 _ _ _ _ _ _ _ _ _ _ _ _ _ _ _ _ _ _ _ _ _
   | exact octet_Same.mono _ _ _
   | exact LeO.none _
   | refine LeO.ite ?_ ?_
   | refine LeO.bind ?_ (fun _ => ?_)
theorem capsule_Same.mono : ∀ a0 a1 a2 a3 a4 a5 a6 a7 a8 a9 a10 a11 a12 a13 a14 a15 a16 a17 a18 a19 k, LeO (capsule_Same.f k a0 a1 a2 a3 a4 a5 a6 a7 a8 a9 a10 a11 a12 a13 a14 a15 a16 a17 a18 a19) (capsule_Same.f (k + 1) a0 a1 a2 a3 a4 a5 a6 a7 a8 a9 a10 a11 a12 a13 a14 a15 a16 a17 a18 a19) := by
 intro a0 a1 a2 a3 a4 a5 a6 a7 a8 a9 a10 a11 a12 a13 a14 a15 a16 a17 a18 a19 k
 have ih0 := capsule_Same.mono_l k
 unfold capsule_Same.f
 repeat' first
   | (with_reducible exact ih0 _ _ _ _ _ _ _ _ _ _ _ _ _ _ _ _ _ _ _ _ _)
   | (with_reducible exact octet_Same.mono _ _ _)
   | (with_reducible exact LeO.refl _)
   | (with_reducible exact LeO.none _)
   | (with_reducible refine LeO.ite ?_ ?_)
   | (with_reducible refine LeO.bind ?_ (fun _ => ?_))
   | exact ih0 _ _ _ _ _ _ _ _ _ _ _ _ _ _ _ _ _ _ _ _ _
   | exact octet_Same.mono _ _ _
   | exact LeO.none _
   | refine LeO.ite ?_ ?_
   | refine LeO.bind ?_ (fun _ => ?_)
set_option maxHeartbeats 8000000 in
set_option maxRecDepth 100000 in
theorem capsule_Same.calls (k : Nat) (a0_0 : Int) (a0_1 : Int) (a0_2 : Int) (a0_3 : Int) (a0_4 : Int) (a0_5 : Int) (A0_6 : Option Addr) (c0_6 : Nat) (l0_6 : List Int) (A0_7 : Option Addr) (c0_7 : Nat) (l0_7 : List Int) (A0_8 : Option Addr) (c0_8 : Nat) (l0_8 : List Int) (A0_9 : Option Addr) (c0_9 : Nat) (l0_9 : List Int) (a1_0 : Int) (a1_1 : Int) (a1_2 : Int) (a1_3 : Int) (a1_4 : Int) (a1_5 : Int) (A1_6 : Option Addr) (c1_6 : Nat) (l1_6 : List Int) (A1_7 : Option Addr) (c1_7 : Nat) (l1_7 : List Int) (A1_8 : Option Addr) (c1_8 : Nat) (l1_8 : List Int) (A1_9 : Option Addr) (c1_9 : Nat) (l1_9 : List Int) (r : Bool) (w : World) (hr0_6 : Kd.C (Kd.int .u8) w A0_6 l0_6.length l0_6) (hc0_6 : l0_6.length ≤ c0_6) (hr0_7 : Kd.C (Kd.int .u8) w A0_7 l0_7.length l0_7) (hc0_7 : l0_7.length ≤ c0_7) (hr0_8 : Kd.C (Kd.int .u8) w A0_8 l0_8.length l0_8) (hc0_8 : l0_8.length ≤ c0_8) (hr0_9 : Kd.C (Kd.int .u8) w A0_9 l0_9.length l0_9) (hc0_9 : l0_9.length ≤ c0_9) (hr1_6 : Kd.C (Kd.int .u8) w A1_6 l1_6.length l1_6) (hc1_6 : l1_6.length ≤ c1_6) (hr1_7 : Kd.C (Kd.int .u8) w A1_7 l1_7.length l1_7) (hc1_7 : l1_7.length ≤ c1_7) (hr1_8 : Kd.C (Kd.int .u8) w A1_8 l1_8.length l1_8) (hc1_8 : l1_8.length ≤ c1_8) (hr1_9 : Kd.C (Kd.int .u8) w A1_9 l1_9.length l1_9) (hc1_9 : l1_9.length ≤ c1_9) (h : capsule_Same.f k a0_0 a0_1 a0_2 a0_3 a0_4 a0_5 l0_6 l0_7 l0_8 l0_9 a1_0 a1_1 a1_2 a1_3 a1_4 a1_5 l1_6 l1_7 l1_8 l1_9 = some r) :
  Calls Try.prog 12 #[.agg #[.int .i64 a0_0, .int .i64 a0_1, .int .u32 a0_2, .int .u32 a0_3, .int .u64 a0_4, .int .u64 a0_5, .slice A0_6 l0_6.length c0_6, .slice A0_7 l0_7.length c0_7, .slice A0_8 l0_8.length c0_8, .slice A0_9 l0_9.length c0_9], .agg #[.int .i64 a1_0, .int .i64 a1_1, .int .u32 a1_2, .int .u32 a1_3, .int .u64 a1_4, .int .u64 a1_5, .slice A1_6 l1_6.length c1_6, .slice A1_7 l1_7.length c1_7, .slice A1_8 l1_8.length c1_8, .slice A1_9 l1_9.length c1_9]] w fun e w' => e = .returned (.bool r) ∧ Below w.heap.size w w' := by
 have hu28 := Try.underlying28
 have hu25 := Try.underlying25
 have HR0_6 := Aside0.mk hr0_6
 have HC0_6 := Aside0.mk hc0_6
 clear hr0_6 hc0_6
 have HR0_7 := Aside0.mk hr0_7
 have HC0_7 := Aside0.mk hc0_7
 clear hr0_7 hc0_7
 have HR0_8 := Aside0.mk hr0_8
 have HC0_8 := Aside0.mk hc0_8
 clear hr0_8 hc0_8
 have HR0_9 := Aside0.mk hr0_9
 have HC0_9 := Aside0.mk hc0_9
 clear hr0_9 hc0_9
 have HR1_6 := Aside0.mk hr1_6
 have HC1_6 := Aside0.mk hc1_6
 clear hr1_6 hc1_6
 have HR1_7 := Aside0.mk hr1_7
 have HC1_7 := Aside0.mk hc1_7
 clear hr1_7 hc1_7
 have HR1_8 := Aside0.mk hr1_8
 have HC1_8 := Aside0.mk hc1_8
 clear hr1_8 hc1_8
 have HR1_9 := Aside0.mk hr1_9
 have HC1_9 := Aside0.mk hc1_9
 clear hr1_9 hc1_9
 have HB := Aside0.mk (Below.refl w.heap.size w)
 have H : (if a0_0 = a1_0 then (if a0_1 = a1_1 then (if a0_2 = a1_2 then (if a0_3 = a1_3 then (capsule_Same.j0 k (a0_4 == a1_4 && (a0_5 == a1_5)) a0_0 a0_1 a0_2 a0_3 a0_4 a0_5 l0_6 l0_7 l0_8 l0_9 a1_0 a1_1 a1_2 a1_3 a1_4 a1_5 l1_6 l1_7 l1_8 l1_9) else (capsule_Same.j0 k false a0_0 a0_1 a0_2 a0_3 a0_4 a0_5 l0_6 l0_7 l0_8 l0_9 a1_0 a1_1 a1_2 a1_3 a1_4 a1_5 l1_6 l1_7 l1_8 l1_9)) else (capsule_Same.j0 k false a0_0 a0_1 a0_2 a0_3 a0_4 a0_5 l0_6 l0_7 l0_8 l0_9 a1_0 a1_1 a1_2 a1_3 a1_4 a1_5 l1_6 l1_7 l1_8 l1_9)) else (capsule_Same.j0 k false a0_0 a0_1 a0_2 a0_3 a0_4 a0_5 l0_6 l0_7 l0_8 l0_9 a1_0 a1_1 a1_2 a1_3 a1_4 a1_5 l1_6 l1_7 l1_8 l1_9)) else (capsule_Same.j0 k false a0_0 a0_1 a0_2 a0_3 a0_4 a0_5 l0_6 l0_7 l0_8 l0_9 a1_0 a1_1 a1_2 a1_3 a1_4 a1_5 l1_6 l1_7 l1_8 l1_9)) = some r := h
 clear h
 have HC3 := Aside0.mk H
 clear H
 go_enter Try.func12, Try.ntmps12
 go_upto_region 1 with (first | ((with_reducible refine gate_dst (N := 2) rfl ?_); refine box_event ?hg (N := 2) ?hd (cs := #[.int .i64 a0_0, .int .i64 a0_1, .int .u32 a0_2, .int .u32 a0_3, .int .u64 a0_4, .int .u64 a0_5, .slice A0_6 l0_6.length c0_6, .slice A0_7 l0_7.length c0_7, .slice A0_8 l0_8.length c0_8, .slice A0_9 l0_9.length c0_9]) (t := 28) ?hr ?_; (case hd => rfl); (case hg => rfl); (case hr => first | (go_simp; done) | (go_simp; rfl)); intro gb173 hg w4 hbox hb; have n0_ := Aside0.mk (below_step (by repeat (first | (with_reducible first | exact HB.out | apply below_alloc | apply pw_below_drewN | apply below_drew1) | exact HB.out)) hb); have n1_ := Aside0.mk (hbox); have n2_ := Aside0.mk ((by rw [hg]; exact (below_size (by repeat (first | (with_reducible first | exact HB.out | apply below_alloc | apply pw_below_drewN | apply below_drew1) | exact HB.out))) : w.heap.size ≤ gb173)); have n3_ := Aside0.mk ((by rw [hg]; exact (below_size (by repeat (first | (with_reducible first | exact HB.out | apply below_alloc | apply pw_below_drewN | apply below_drew1) | exact HB.out))) : w.heap.size ≤ gb173)); clear HB; have HB := n0_; have BK173 := n1_; have GW173 := n2_; have GE173 := n3_; clear n0_ n1_ n2_ n3_; clear hb hbox hg) | ((with_reducible refine gate_dst (N := 3) rfl ?_); refine box_event ?hg (N := 3) ?hd (cs := #[.int .i64 a1_0, .int .i64 a1_1, .int .u32 a1_2, .int .u32 a1_3, .int .u64 a1_4, .int .u64 a1_5, .slice A1_6 l1_6.length c1_6, .slice A1_7 l1_7.length c1_7, .slice A1_8 l1_8.length c1_8, .slice A1_9 l1_9.length c1_9]) (t := 28) ?hr ?_; (case hd => rfl); (case hg => rfl); (case hr => first | (go_simp; done) | (go_simp; rfl)); intro gb174 hg w5 hbox hb; have n0_ := Aside0.mk (blk_below (g := gb173) (o := .cells #[.int .i64 a0_0, .int .i64 a0_1, .int .u32 a0_2, .int .u32 a0_3, .int .u64 a0_4, .int .u64 a0_5, .slice A0_6 l0_6.length c0_6, .slice A0_7 l0_7.length c0_7, .slice A0_8 l0_8.length c0_8, .slice A0_9 l0_9.length c0_9] 28 (0, 0)) (by (with_reducible repeat (first | refine blk_drewN ?_ _ | refine blk_drew ?_ | refine blk_alloc ?_ _)); exact BK173.out) hb); have n1_ := Aside0.mk (below_step (by repeat (first | (with_reducible first | exact HB.out | apply below_alloc | apply pw_below_drewN | apply below_drew1 | refine below_set ?_ GE173.out) | exact HB.out)) hb); have n2_ := Aside0.mk (hbox); have n3_ := Aside0.mk ((by rw [hg]; exact (below_size (by repeat (first | (with_reducible first | exact HB.out | apply below_alloc | apply pw_below_drewN | apply below_drew1 | refine below_set ?_ GE173.out) | exact HB.out))) : w.heap.size ≤ gb174)); have n4_ := Aside0.mk ((by rw [hg]; exact (below_size (by repeat (first | (with_reducible first | exact HB.out | apply below_alloc | apply pw_below_drewN | apply below_drew1 | refine below_set ?_ GE173.out) | exact HB.out))) : w.heap.size ≤ gb174)); have n5_ := Aside0.mk ((by rw [hg]; exact Nat.ne_of_lt (blk_lt (g := gb173) (o := .cells #[.int .i64 a0_0, .int .i64 a0_1, .int .u32 a0_2, .int .u32 a0_3, .int .u64 a0_4, .int .u64 a0_5, .slice A0_6 l0_6.length c0_6, .slice A0_7 l0_7.length c0_7, .slice A0_8 l0_8.length c0_8, .slice A0_9 l0_9.length c0_9] 28 (0, 0)) (by (with_reducible repeat (first | refine blk_drewN ?_ _ | refine blk_drew ?_ | refine blk_alloc ?_ _)); exact BK173.out)) : gb173 ≠ gb174)); have n6_ := Aside0.mk ((by rw [hg]; exact Nat.ne_of_gt (blk_lt (g := gb173) (o := .cells #[.int .i64 a0_0, .int .i64 a0_1, .int .u32 a0_2, .int .u32 a0_3, .int .u64 a0_4, .int .u64 a0_5, .slice A0_6 l0_6.length c0_6, .slice A0_7 l0_7.length c0_7, .slice A0_8 l0_8.length c0_8, .slice A0_9 l0_9.length c0_9] 28 (0, 0)) (by (with_reducible repeat (first | refine blk_drewN ?_ _ | refine blk_drew ?_ | refine blk_alloc ?_ _)); exact BK173.out)) : gb174 ≠ gb173)); clear BK173; clear HB; have BK173 := n0_; have HB := n1_; have BK174 := n2_; have GW174 := n3_; have GE174 := n4_; have NB173_174 := n5_; have NB174_173 := n6_; clear n0_ n1_ n2_ n3_ n4_ n5_ n6_; clear hb hbox hg))
 (try simp only [Act.put, List.setIfInBounds_toArray, List.set_cons_zero, List.set_cons_succ])
 go_cut [5] (fun v5 wc => ∃ (kq : Nat) (x5_2 : Bool), v5 = .bool x5_2 ∧ Aside0 (capsule_Same.j0 kq x5_2 a0_0 a0_1 a0_2 a0_3 a0_4 a0_5 l0_6 l0_7 l0_8 l0_9 a1_0 a1_1 a1_2 a1_3 a1_4 a1_5 l1_6 l1_7 l1_8 l1_9 = some r) ∧ Aside0 (kq ≤ k) ∧ Aside0 (wc.heap[gb173]? = some (.cells #[.int .i64 a0_0, .int .i64 a0_1, .int .u32 a0_2, .int .u32 a0_3, .int .u64 a0_4, .int .u64 a0_5, (.slice A0_6 l0_6.length c0_6), (.slice A0_7 l0_7.length c0_7), (.slice A0_8 l0_8.length c0_8), (.slice A0_9 l0_9.length c0_9)] 28 (0, 0))) ∧ Aside0 (wc.heap[gb174]? = some (.cells #[.int .i64 a1_0, .int .i64 a1_1, .int .u32 a1_2, .int .u32 a1_3, .int .u64 a1_4, .int .u64 a1_5, (.slice A1_6 l1_6.length c1_6), (.slice A1_7 l1_7.length c1_7), (.slice A1_8 l1_8.length c1_8), (.slice A1_9 l1_9.length c1_9)] 28 (0, 0))) ∧ Aside0 (Below w.heap.size w wc))
 case first =>
  have H := HC3.out
  clear HC3
  by_cases c6 : a0_0 = a1_0
  ·rw [if_pos c6] at H
   have c6b0 : (a0_0 == a1_0) = true := beq_iff_eq.mpr c6
   have c6b1 : (a0_0 != a1_0) = false := bne_eq_false_iff_eq.mpr c6
   clear c6
   (first | rw [c6b0] | (simp only [i64_w, i32_w]; rw [c6b0]) | skip)
   by_cases c7 : a0_1 = a1_1
   ·rw [if_pos c7] at H
    have c7b0 : (a0_1 == a1_1) = true := beq_iff_eq.mpr c7
    have c7b1 : (a0_1 != a1_1) = false := bne_eq_false_iff_eq.mpr c7
    clear c7
    by_cases c8 : a0_2 = a1_2
    ·rw [if_pos c8] at H
     have c8b0 : (a0_2 == a1_2) = true := beq_iff_eq.mpr c8
     have c8b1 : (a0_2 != a1_2) = false := bne_eq_false_iff_eq.mpr c8
     clear c8
     by_cases c9 : a0_3 = a1_3
     ·rw [if_pos c9] at H
      have c9b0 : (a0_3 == a1_3) = true := beq_iff_eq.mpr c9
      have c9b1 : (a0_3 != a1_3) = false := bne_eq_false_iff_eq.mpr c9
      clear c9
      have H' := Aside0.mk H
      clear H
      have hnb10 := NB173_174.out
      have hnc10 := NB174_173.out
      have hcz11_0 : w5.cell? ⟨gb173, 0, none⟩ = some (.int .i64 a0_0) := (blk_cell BK173.out 0).trans rfl
      have hcz11_1 : w5.cell? ⟨gb173, 1, none⟩ = some (.int .i64 a0_1) := (blk_cell BK173.out 1).trans rfl
      have hcz11_2 : w5.cell? ⟨gb173, 2, none⟩ = some (.int .u32 a0_2) := (blk_cell BK173.out 2).trans rfl
      have hcz11_3 : w5.cell? ⟨gb173, 3, none⟩ = some (.int .u32 a0_3) := (blk_cell BK173.out 3).trans rfl
      have hcz11_4 : w5.cell? ⟨gb173, 4, none⟩ = some (.int .u64 a0_4) := (blk_cell BK173.out 4).trans rfl
      have hcz11_5 : w5.cell? ⟨gb173, 5, none⟩ = some (.int .u64 a0_5) := (blk_cell BK173.out 5).trans rfl
      have hcz11_6 : w5.cell? ⟨gb173, 6, none⟩ = some (.slice A0_6 l0_6.length c0_6) := (blk_cell BK173.out 6).trans rfl
      have hcz11_7 : w5.cell? ⟨gb173, 7, none⟩ = some (.slice A0_7 l0_7.length c0_7) := (blk_cell BK173.out 7).trans rfl
      have hcz11_8 : w5.cell? ⟨gb173, 8, none⟩ = some (.slice A0_8 l0_8.length c0_8) := (blk_cell BK173.out 8).trans rfl
      have hcz11_9 : w5.cell? ⟨gb173, 9, none⟩ = some (.slice A0_9 l0_9.length c0_9) := (blk_cell BK173.out 9).trans rfl
      have hfz11_0 := blk_frozen BK173.out 0
      have hfz11_1 := blk_frozen BK173.out 1
      have hfz11_2 := blk_frozen BK173.out 2
      have hfz11_3 := blk_frozen BK173.out 3
      have hfz11_4 := blk_frozen BK173.out 4
      have hfz11_5 := blk_frozen BK173.out 5
      have hfz11_6 := blk_frozen BK173.out 6
      have hfz11_7 := blk_frozen BK173.out 7
      have hfz11_8 := blk_frozen BK173.out 8
      have hfz11_9 := blk_frozen BK173.out 9
      have hcz12_0 : w5.cell? ⟨gb174, 0, none⟩ = some (.int .i64 a1_0) := (blk_cell BK174.out 0).trans rfl
      have hcz12_1 : w5.cell? ⟨gb174, 1, none⟩ = some (.int .i64 a1_1) := (blk_cell BK174.out 1).trans rfl
      have hcz12_2 : w5.cell? ⟨gb174, 2, none⟩ = some (.int .u32 a1_2) := (blk_cell BK174.out 2).trans rfl
      have hcz12_3 : w5.cell? ⟨gb174, 3, none⟩ = some (.int .u32 a1_3) := (blk_cell BK174.out 3).trans rfl
      have hcz12_4 : w5.cell? ⟨gb174, 4, none⟩ = some (.int .u64 a1_4) := (blk_cell BK174.out 4).trans rfl
      have hcz12_5 : w5.cell? ⟨gb174, 5, none⟩ = some (.int .u64 a1_5) := (blk_cell BK174.out 5).trans rfl
      have hcz12_6 : w5.cell? ⟨gb174, 6, none⟩ = some (.slice A1_6 l1_6.length c1_6) := (blk_cell BK174.out 6).trans rfl
      have hcz12_7 : w5.cell? ⟨gb174, 7, none⟩ = some (.slice A1_7 l1_7.length c1_7) := (blk_cell BK174.out 7).trans rfl
      have hcz12_8 : w5.cell? ⟨gb174, 8, none⟩ = some (.slice A1_8 l1_8.length c1_8) := (blk_cell BK174.out 8).trans rfl
      have hcz12_9 : w5.cell? ⟨gb174, 9, none⟩ = some (.slice A1_9 l1_9.length c1_9) := (blk_cell BK174.out 9).trans rfl
      have hfz12_0 := blk_frozen BK174.out 0
      have hfz12_1 := blk_frozen BK174.out 1
      have hfz12_2 := blk_frozen BK174.out 2
      have hfz12_3 := blk_frozen BK174.out 3
      have hfz12_4 := blk_frozen BK174.out 4
      have hfz12_5 := blk_frozen BK174.out 5
      have hfz12_6 := blk_frozen BK174.out 6
      have hfz12_7 := blk_frozen BK174.out 7
      have hfz12_8 := blk_frozen BK174.out 8
      have hfz12_9 := blk_frozen BK174.out 9
      go_wp2
      go_meet
      case rel => exact ⟨_, ((a0_4 == a1_4 && (a0_5 == a1_5))), (by first | rfl | (simp; done) | (simp [*]; done)), H', ⟨by first | omega | exact Nat.le_refl _⟩, ⟨by (with_reducible repeat (first | refine blk_drewN ?_ _ | refine blk_drew ?_ | refine blk_alloc ?_ _)); exact BK173.out⟩, ⟨by (with_reducible repeat (first | refine blk_drewN ?_ _ | refine blk_drew ?_ | refine blk_alloc ?_ _)); exact BK174.out⟩, ⟨by repeat (first | (with_reducible first | exact HB.out | apply below_alloc | apply pw_below_drewN | apply below_drew1 | refine below_set ?_ GE173.out | refine below_set ?_ GE174.out) | exact HB.out)⟩⟩
     ·rw [if_neg c9] at H
      have c9b0 : (a0_3 == a1_3) = false := beq_eq_false_iff_ne.mpr c9
      have c9b1 : (a0_3 != a1_3) = true := bne_iff_ne.mpr c9
      have H' := Aside0.mk H
      clear H
      have hnb13 := NB173_174.out
      have hnc13 := NB174_173.out
      have hcz14_0 : w5.cell? ⟨gb173, 0, none⟩ = some (.int .i64 a0_0) := (blk_cell BK173.out 0).trans rfl
      have hcz14_1 : w5.cell? ⟨gb173, 1, none⟩ = some (.int .i64 a0_1) := (blk_cell BK173.out 1).trans rfl
      have hcz14_2 : w5.cell? ⟨gb173, 2, none⟩ = some (.int .u32 a0_2) := (blk_cell BK173.out 2).trans rfl
      have hcz14_3 : w5.cell? ⟨gb173, 3, none⟩ = some (.int .u32 a0_3) := (blk_cell BK173.out 3).trans rfl
      have hcz14_4 : w5.cell? ⟨gb173, 4, none⟩ = some (.int .u64 a0_4) := (blk_cell BK173.out 4).trans rfl
      have hcz14_5 : w5.cell? ⟨gb173, 5, none⟩ = some (.int .u64 a0_5) := (blk_cell BK173.out 5).trans rfl
      have hcz14_6 : w5.cell? ⟨gb173, 6, none⟩ = some (.slice A0_6 l0_6.length c0_6) := (blk_cell BK173.out 6).trans rfl
      have hcz14_7 : w5.cell? ⟨gb173, 7, none⟩ = some (.slice A0_7 l0_7.length c0_7) := (blk_cell BK173.out 7).trans rfl
      have hcz14_8 : w5.cell? ⟨gb173, 8, none⟩ = some (.slice A0_8 l0_8.length c0_8) := (blk_cell BK173.out 8).trans rfl
      have hcz14_9 : w5.cell? ⟨gb173, 9, none⟩ = some (.slice A0_9 l0_9.length c0_9) := (blk_cell BK173.out 9).trans rfl
      have hfz14_0 := blk_frozen BK173.out 0
      have hfz14_1 := blk_frozen BK173.out 1
      have hfz14_2 := blk_frozen BK173.out 2
      have hfz14_3 := blk_frozen BK173.out 3
      have hfz14_4 := blk_frozen BK173.out 4
      have hfz14_5 := blk_frozen BK173.out 5
      have hfz14_6 := blk_frozen BK173.out 6
      have hfz14_7 := blk_frozen BK173.out 7
      have hfz14_8 := blk_frozen BK173.out 8
      have hfz14_9 := blk_frozen BK173.out 9
      have hcz15_0 : w5.cell? ⟨gb174, 0, none⟩ = some (.int .i64 a1_0) := (blk_cell BK174.out 0).trans rfl
      have hcz15_1 : w5.cell? ⟨gb174, 1, none⟩ = some (.int .i64 a1_1) := (blk_cell BK174.out 1).trans rfl
      have hcz15_2 : w5.cell? ⟨gb174, 2, none⟩ = some (.int .u32 a1_2) := (blk_cell BK174.out 2).trans rfl
      have hcz15_3 : w5.cell? ⟨gb174, 3, none⟩ = some (.int .u32 a1_3) := (blk_cell BK174.out 3).trans rfl
      have hcz15_4 : w5.cell? ⟨gb174, 4, none⟩ = some (.int .u64 a1_4) := (blk_cell BK174.out 4).trans rfl
      have hcz15_5 : w5.cell? ⟨gb174, 5, none⟩ = some (.int .u64 a1_5) := (blk_cell BK174.out 5).trans rfl
      have hcz15_6 : w5.cell? ⟨gb174, 6, none⟩ = some (.slice A1_6 l1_6.length c1_6) := (blk_cell BK174.out 6).trans rfl
      have hcz15_7 : w5.cell? ⟨gb174, 7, none⟩ = some (.slice A1_7 l1_7.length c1_7) := (blk_cell BK174.out 7).trans rfl
      have hcz15_8 : w5.cell? ⟨gb174, 8, none⟩ = some (.slice A1_8 l1_8.length c1_8) := (blk_cell BK174.out 8).trans rfl
      have hcz15_9 : w5.cell? ⟨gb174, 9, none⟩ = some (.slice A1_9 l1_9.length c1_9) := (blk_cell BK174.out 9).trans rfl
      have hfz15_0 := blk_frozen BK174.out 0
      have hfz15_1 := blk_frozen BK174.out 1
      have hfz15_2 := blk_frozen BK174.out 2
      have hfz15_3 := blk_frozen BK174.out 3
      have hfz15_4 := blk_frozen BK174.out 4
      have hfz15_5 := blk_frozen BK174.out 5
      have hfz15_6 := blk_frozen BK174.out 6
      have hfz15_7 := blk_frozen BK174.out 7
      have hfz15_8 := blk_frozen BK174.out 8
      have hfz15_9 := blk_frozen BK174.out 9
      go_wp2
      go_meet
      case rel => exact ⟨_, (false), (by first | rfl | (simp; done) | (simp [*]; done)), H', ⟨by first | omega | exact Nat.le_refl _⟩, ⟨by (with_reducible repeat (first | refine blk_drewN ?_ _ | refine blk_drew ?_ | refine blk_alloc ?_ _)); exact BK173.out⟩, ⟨by (with_reducible repeat (first | refine blk_drewN ?_ _ | refine blk_drew ?_ | refine blk_alloc ?_ _)); exact BK174.out⟩, ⟨by repeat (first | (with_reducible first | exact HB.out | apply below_alloc | apply pw_below_drewN | apply below_drew1 | refine below_set ?_ GE173.out | refine below_set ?_ GE174.out) | exact HB.out)⟩⟩
    ·rw [if_neg c8] at H
     have c8b0 : (a0_2 == a1_2) = false := beq_eq_false_iff_ne.mpr c8
     have c8b1 : (a0_2 != a1_2) = true := bne_iff_ne.mpr c8
     have H' := Aside0.mk H
     clear H
     have hnb16 := NB173_174.out
     have hnc16 := NB174_173.out
     have hcz17_0 : w5.cell? ⟨gb173, 0, none⟩ = some (.int .i64 a0_0) := (blk_cell BK173.out 0).trans rfl
     have hcz17_1 : w5.cell? ⟨gb173, 1, none⟩ = some (.int .i64 a0_1) := (blk_cell BK173.out 1).trans rfl
     have hcz17_2 : w5.cell? ⟨gb173, 2, none⟩ = some (.int .u32 a0_2) := (blk_cell BK173.out 2).trans rfl
     have hcz17_3 : w5.cell? ⟨gb173, 3, none⟩ = some (.int .u32 a0_3) := (blk_cell BK173.out 3).trans rfl
     have hcz17_4 : w5.cell? ⟨gb173, 4, none⟩ = some (.int .u64 a0_4) := (blk_cell BK173.out 4).trans rfl
     have hcz17_5 : w5.cell? ⟨gb173, 5, none⟩ = some (.int .u64 a0_5) := (blk_cell BK173.out 5).trans rfl
     have hcz17_6 : w5.cell? ⟨gb173, 6, none⟩ = some (.slice A0_6 l0_6.length c0_6) := (blk_cell BK173.out 6).trans rfl
     have hcz17_7 : w5.cell? ⟨gb173, 7, none⟩ = some (.slice A0_7 l0_7.length c0_7) := (blk_cell BK173.out 7).trans rfl
     have hcz17_8 : w5.cell? ⟨gb173, 8, none⟩ = some (.slice A0_8 l0_8.length c0_8) := (blk_cell BK173.out 8).trans rfl
     have hcz17_9 : w5.cell? ⟨gb173, 9, none⟩ = some (.slice A0_9 l0_9.length c0_9) := (blk_cell BK173.out 9).trans rfl
     have hfz17_0 := blk_frozen BK173.out 0
     have hfz17_1 := blk_frozen BK173.out 1
     have hfz17_2 := blk_frozen BK173.out 2
     have hfz17_3 := blk_frozen BK173.out 3
     have hfz17_4 := blk_frozen BK173.out 4
     have hfz17_5 := blk_frozen BK173.out 5
     have hfz17_6 := blk_frozen BK173.out 6
     have hfz17_7 := blk_frozen BK173.out 7
     have hfz17_8 := blk_frozen BK173.out 8
     have hfz17_9 := blk_frozen BK173.out 9
     have hcz18_0 : w5.cell? ⟨gb174, 0, none⟩ = some (.int .i64 a1_0) := (blk_cell BK174.out 0).trans rfl
     have hcz18_1 : w5.cell? ⟨gb174, 1, none⟩ = some (.int .i64 a1_1) := (blk_cell BK174.out 1).trans rfl
     have hcz18_2 : w5.cell? ⟨gb174, 2, none⟩ = some (.int .u32 a1_2) := (blk_cell BK174.out 2).trans rfl
     have hcz18_3 : w5.cell? ⟨gb174, 3, none⟩ = some (.int .u32 a1_3) := (blk_cell BK174.out 3).trans rfl
     have hcz18_4 : w5.cell? ⟨gb174, 4, none⟩ = some (.int .u64 a1_4) := (blk_cell BK174.out 4).trans rfl
     have hcz18_5 : w5.cell? ⟨gb174, 5, none⟩ = some (.int .u64 a1_5) := (blk_cell BK174.out 5).trans rfl
     have hcz18_6 : w5.cell? ⟨gb174, 6, none⟩ = some (.slice A1_6 l1_6.length c1_6) := (blk_cell BK174.out 6).trans rfl
     have hcz18_7 : w5.cell? ⟨gb174, 7, none⟩ = some (.slice A1_7 l1_7.length c1_7) := (blk_cell BK174.out 7).trans rfl
     have hcz18_8 : w5.cell? ⟨gb174, 8, none⟩ = some (.slice A1_8 l1_8.length c1_8) := (blk_cell BK174.out 8).trans rfl
     have hcz18_9 : w5.cell? ⟨gb174, 9, none⟩ = some (.slice A1_9 l1_9.length c1_9) := (blk_cell BK174.out 9).trans rfl
     have hfz18_0 := blk_frozen BK174.out 0
     have hfz18_1 := blk_frozen BK174.out 1
     have hfz18_2 := blk_frozen BK174.out 2
     have hfz18_3 := blk_frozen BK174.out 3
     have hfz18_4 := blk_frozen BK174.out 4
     have hfz18_5 := blk_frozen BK174.out 5
     have hfz18_6 := blk_frozen BK174.out 6
     have hfz18_7 := blk_frozen BK174.out 7
     have hfz18_8 := blk_frozen BK174.out 8
     have hfz18_9 := blk_frozen BK174.out 9
     go_wp2
     go_meet
     case rel => exact ⟨_, (false), (by first | rfl | (simp; done) | (simp [*]; done)), H', ⟨by first | omega | exact Nat.le_refl _⟩, ⟨by (with_reducible repeat (first | refine blk_drewN ?_ _ | refine blk_drew ?_ | refine blk_alloc ?_ _)); exact BK173.out⟩, ⟨by (with_reducible repeat (first | refine blk_drewN ?_ _ | refine blk_drew ?_ | refine blk_alloc ?_ _)); exact BK174.out⟩, ⟨by repeat (first | (with_reducible first | exact HB.out | apply below_alloc | apply pw_below_drewN | apply below_drew1 | refine below_set ?_ GE173.out | refine below_set ?_ GE174.out) | exact HB.out)⟩⟩
   ·rw [if_neg c7] at H
    have c7b0 : (a0_1 == a1_1) = false := beq_eq_false_iff_ne.mpr c7
    have c7b1 : (a0_1 != a1_1) = true := bne_iff_ne.mpr c7
    have H' := Aside0.mk H
    clear H
    have hnb19 := NB173_174.out
    have hnc19 := NB174_173.out
    have hcz20_0 : w5.cell? ⟨gb173, 0, none⟩ = some (.int .i64 a0_0) := (blk_cell BK173.out 0).trans rfl
    have hcz20_1 : w5.cell? ⟨gb173, 1, none⟩ = some (.int .i64 a0_1) := (blk_cell BK173.out 1).trans rfl
    have hcz20_2 : w5.cell? ⟨gb173, 2, none⟩ = some (.int .u32 a0_2) := (blk_cell BK173.out 2).trans rfl
    have hcz20_3 : w5.cell? ⟨gb173, 3, none⟩ = some (.int .u32 a0_3) := (blk_cell BK173.out 3).trans rfl
    have hcz20_4 : w5.cell? ⟨gb173, 4, none⟩ = some (.int .u64 a0_4) := (blk_cell BK173.out 4).trans rfl
    have hcz20_5 : w5.cell? ⟨gb173, 5, none⟩ = some (.int .u64 a0_5) := (blk_cell BK173.out 5).trans rfl
    have hcz20_6 : w5.cell? ⟨gb173, 6, none⟩ = some (.slice A0_6 l0_6.length c0_6) := (blk_cell BK173.out 6).trans rfl
    have hcz20_7 : w5.cell? ⟨gb173, 7, none⟩ = some (.slice A0_7 l0_7.length c0_7) := (blk_cell BK173.out 7).trans rfl
    have hcz20_8 : w5.cell? ⟨gb173, 8, none⟩ = some (.slice A0_8 l0_8.length c0_8) := (blk_cell BK173.out 8).trans rfl
    have hcz20_9 : w5.cell? ⟨gb173, 9, none⟩ = some (.slice A0_9 l0_9.length c0_9) := (blk_cell BK173.out 9).trans rfl
    have hfz20_0 := blk_frozen BK173.out 0
    have hfz20_1 := blk_frozen BK173.out 1
    have hfz20_2 := blk_frozen BK173.out 2
    have hfz20_3 := blk_frozen BK173.out 3
    have hfz20_4 := blk_frozen BK173.out 4
    have hfz20_5 := blk_frozen BK173.out 5
    have hfz20_6 := blk_frozen BK173.out 6
    have hfz20_7 := blk_frozen BK173.out 7
    have hfz20_8 := blk_frozen BK173.out 8
    have hfz20_9 := blk_frozen BK173.out 9
    have hcz21_0 : w5.cell? ⟨gb174, 0, none⟩ = some (.int .i64 a1_0) := (blk_cell BK174.out 0).trans rfl
    have hcz21_1 : w5.cell? ⟨gb174, 1, none⟩ = some (.int .i64 a1_1) := (blk_cell BK174.out 1).trans rfl
    have hcz21_2 : w5.cell? ⟨gb174, 2, none⟩ = some (.int .u32 a1_2) := (blk_cell BK174.out 2).trans rfl
    have hcz21_3 : w5.cell? ⟨gb174, 3, none⟩ = some (.int .u32 a1_3) := (blk_cell BK174.out 3).trans rfl
    have hcz21_4 : w5.cell? ⟨gb174, 4, none⟩ = some (.int .u64 a1_4) := (blk_cell BK174.out 4).trans rfl
    have hcz21_5 : w5.cell? ⟨gb174, 5, none⟩ = some (.int .u64 a1_5) := (blk_cell BK174.out 5).trans rfl
    have hcz21_6 : w5.cell? ⟨gb174, 6, none⟩ = some (.slice A1_6 l1_6.length c1_6) := (blk_cell BK174.out 6).trans rfl
    have hcz21_7 : w5.cell? ⟨gb174, 7, none⟩ = some (.slice A1_7 l1_7.length c1_7) := (blk_cell BK174.out 7).trans rfl
    have hcz21_8 : w5.cell? ⟨gb174, 8, none⟩ = some (.slice A1_8 l1_8.length c1_8) := (blk_cell BK174.out 8).trans rfl
    have hcz21_9 : w5.cell? ⟨gb174, 9, none⟩ = some (.slice A1_9 l1_9.length c1_9) := (blk_cell BK174.out 9).trans rfl
    have hfz21_0 := blk_frozen BK174.out 0
    have hfz21_1 := blk_frozen BK174.out 1
    have hfz21_2 := blk_frozen BK174.out 2
    have hfz21_3 := blk_frozen BK174.out 3
    have hfz21_4 := blk_frozen BK174.out 4
    have hfz21_5 := blk_frozen BK174.out 5
    have hfz21_6 := blk_frozen BK174.out 6
    have hfz21_7 := blk_frozen BK174.out 7
    have hfz21_8 := blk_frozen BK174.out 8
    have hfz21_9 := blk_frozen BK174.out 9
    go_wp2
    go_meet
    case rel => exact ⟨_, (false), (by first | rfl | (simp; done) | (simp [*]; done)), H', ⟨by first | omega | exact Nat.le_refl _⟩, ⟨by (with_reducible repeat (first | refine blk_drewN ?_ _ | refine blk_drew ?_ | refine blk_alloc ?_ _)); exact BK173.out⟩, ⟨by (with_reducible repeat (first | refine blk_drewN ?_ _ | refine blk_drew ?_ | refine blk_alloc ?_ _)); exact BK174.out⟩, ⟨by repeat (first | (with_reducible first | exact HB.out | apply below_alloc | apply pw_below_drewN | apply below_drew1 | refine below_set ?_ GE173.out | refine below_set ?_ GE174.out) | exact HB.out)⟩⟩
  ·rw [if_neg c6] at H
   have c6b0 : (a0_0 == a1_0) = false := beq_eq_false_iff_ne.mpr c6
   have c6b1 : (a0_0 != a1_0) = true := bne_iff_ne.mpr c6
   (first | rw [c6b0] | (simp only [i64_w, i32_w]; rw [c6b0]) | skip)
   have H' := Aside0.mk H
   clear H
   have hnb22 := NB173_174.out
   have hnc22 := NB174_173.out
   have hcz23_0 : w5.cell? ⟨gb173, 0, none⟩ = some (.int .i64 a0_0) := (blk_cell BK173.out 0).trans rfl
   have hcz23_1 : w5.cell? ⟨gb173, 1, none⟩ = some (.int .i64 a0_1) := (blk_cell BK173.out 1).trans rfl
   have hcz23_2 : w5.cell? ⟨gb173, 2, none⟩ = some (.int .u32 a0_2) := (blk_cell BK173.out 2).trans rfl
   have hcz23_3 : w5.cell? ⟨gb173, 3, none⟩ = some (.int .u32 a0_3) := (blk_cell BK173.out 3).trans rfl
   have hcz23_4 : w5.cell? ⟨gb173, 4, none⟩ = some (.int .u64 a0_4) := (blk_cell BK173.out 4).trans rfl
   have hcz23_5 : w5.cell? ⟨gb173, 5, none⟩ = some (.int .u64 a0_5) := (blk_cell BK173.out 5).trans rfl
   have hcz23_6 : w5.cell? ⟨gb173, 6, none⟩ = some (.slice A0_6 l0_6.length c0_6) := (blk_cell BK173.out 6).trans rfl
   have hcz23_7 : w5.cell? ⟨gb173, 7, none⟩ = some (.slice A0_7 l0_7.length c0_7) := (blk_cell BK173.out 7).trans rfl
   have hcz23_8 : w5.cell? ⟨gb173, 8, none⟩ = some (.slice A0_8 l0_8.length c0_8) := (blk_cell BK173.out 8).trans rfl
   have hcz23_9 : w5.cell? ⟨gb173, 9, none⟩ = some (.slice A0_9 l0_9.length c0_9) := (blk_cell BK173.out 9).trans rfl
   have hfz23_0 := blk_frozen BK173.out 0
   have hfz23_1 := blk_frozen BK173.out 1
   have hfz23_2 := blk_frozen BK173.out 2
   have hfz23_3 := blk_frozen BK173.out 3
   have hfz23_4 := blk_frozen BK173.out 4
   have hfz23_5 := blk_frozen BK173.out 5
   have hfz23_6 := blk_frozen BK173.out 6
   have hfz23_7 := blk_frozen BK173.out 7
   have hfz23_8 := blk_frozen BK173.out 8
   have hfz23_9 := blk_frozen BK173.out 9
   have hcz24_0 : w5.cell? ⟨gb174, 0, none⟩ = some (.int .i64 a1_0) := (blk_cell BK174.out 0).trans rfl
   have hcz24_1 : w5.cell? ⟨gb174, 1, none⟩ = some (.int .i64 a1_1) := (blk_cell BK174.out 1).trans rfl
   have hcz24_2 : w5.cell? ⟨gb174, 2, none⟩ = some (.int .u32 a1_2) := (blk_cell BK174.out 2).trans rfl
   have hcz24_3 : w5.cell? ⟨gb174, 3, none⟩ = some (.int .u32 a1_3) := (blk_cell BK174.out 3).trans rfl
   have hcz24_4 : w5.cell? ⟨gb174, 4, none⟩ = some (.int .u64 a1_4) := (blk_cell BK174.out 4).trans rfl
   have hcz24_5 : w5.cell? ⟨gb174, 5, none⟩ = some (.int .u64 a1_5) := (blk_cell BK174.out 5).trans rfl
   have hcz24_6 : w5.cell? ⟨gb174, 6, none⟩ = some (.slice A1_6 l1_6.length c1_6) := (blk_cell BK174.out 6).trans rfl
   have hcz24_7 : w5.cell? ⟨gb174, 7, none⟩ = some (.slice A1_7 l1_7.length c1_7) := (blk_cell BK174.out 7).trans rfl
   have hcz24_8 : w5.cell? ⟨gb174, 8, none⟩ = some (.slice A1_8 l1_8.length c1_8) := (blk_cell BK174.out 8).trans rfl
   have hcz24_9 : w5.cell? ⟨gb174, 9, none⟩ = some (.slice A1_9 l1_9.length c1_9) := (blk_cell BK174.out 9).trans rfl
   have hfz24_0 := blk_frozen BK174.out 0
   have hfz24_1 := blk_frozen BK174.out 1
   have hfz24_2 := blk_frozen BK174.out 2
   have hfz24_3 := blk_frozen BK174.out 3
   have hfz24_4 := blk_frozen BK174.out 4
   have hfz24_5 := blk_frozen BK174.out 5
   have hfz24_6 := blk_frozen BK174.out 6
   have hfz24_7 := blk_frozen BK174.out 7
   have hfz24_8 := blk_frozen BK174.out 8
   have hfz24_9 := blk_frozen BK174.out 9
   go_wp2
   go_meet
   case rel => exact ⟨_, (false), (by first | rfl | (simp; done) | (simp [*]; done)), H', ⟨by first | omega | exact Nat.le_refl _⟩, ⟨by (with_reducible repeat (first | refine blk_drewN ?_ _ | refine blk_drew ?_ | refine blk_alloc ?_ _)); exact BK173.out⟩, ⟨by (with_reducible repeat (first | refine blk_drewN ?_ _ | refine blk_drew ?_ | refine blk_alloc ?_ _)); exact BK174.out⟩, ⟨by repeat (first | (with_reducible first | exact HB.out | apply below_alloc | apply pw_below_drewN | apply below_drew1 | refine below_set ?_ GE173.out | refine below_set ?_ GE174.out) | exact HB.out)⟩⟩
 case rest =>
  clear HC3
  try clear c1
  try clear c2
  try clear p2
  try clear c6
  try clear c6b0
  try clear c6b1
  try clear c7
  try clear c7b0
  try clear c7b1
  try clear c8
  try clear c8b0
  try clear c8b1
  try clear c9
  try clear c9b0
  try clear c9b1
  try clear c10
  try clear c12
  try clear c13
  try clear c16
  try clear c19
  try clear c22
  try clear hcz11_0
  try clear hcz11_1
  try clear hcz11_2
  try clear hcz11_3
  try clear hcz11_4
  try clear hcz11_5
  try clear hcz11_6
  try clear hcz11_7
  try clear hcz11_8
  try clear hcz11_9
  try clear hcz12_0
  try clear hcz12_1
  try clear hcz12_2
  try clear hcz12_3
  try clear hcz12_4
  try clear hcz12_5
  try clear hcz12_6
  try clear hcz12_7
  try clear hcz12_8
  try clear hcz12_9
  try clear hcz14_0
  try clear hcz14_1
  try clear hcz14_2
  try clear hcz14_3
  try clear hcz14_4
  try clear hcz14_5
  try clear hcz14_6
  try clear hcz14_7
  try clear hcz14_8
  try clear hcz14_9
  try clear hcz15_0
  try clear hcz15_1
  try clear hcz15_2
  try clear hcz15_3
  try clear hcz15_4
  try clear hcz15_5
  try clear hcz15_6
  try clear hcz15_7
  try clear hcz15_8
  try clear hcz15_9
  try clear hcz17_0
  try clear hcz17_1
  try clear hcz17_2
  try clear hcz17_3
  try clear hcz17_4
  try clear hcz17_5
  try clear hcz17_6
  try clear hcz17_7
  try clear hcz17_8
  try clear hcz17_9
  try clear hcz18_0
  try clear hcz18_1
  try clear hcz18_2
  try clear hcz18_3
  try clear hcz18_4
  try clear hcz18_5
  try clear hcz18_6
  try clear hcz18_7
  try clear hcz18_8
  try clear hcz18_9
  try clear hcz20_0
  try clear hcz20_1
  try clear hcz20_2
  try clear hcz20_3
  try clear hcz20_4
  try clear hcz20_5
  try clear hcz20_6
  try clear hcz20_7
  try clear hcz20_8
  try clear hcz20_9
  try clear hcz21_0
  try clear hcz21_1
  try clear hcz21_2
  try clear hcz21_3
  try clear hcz21_4
  try clear hcz21_5
  try clear hcz21_6
  try clear hcz21_7
  try clear hcz21_8
  try clear hcz21_9
  try clear hcz23_0
  try clear hcz23_1
  try clear hcz23_2
  try clear hcz23_3
  try clear hcz23_4
  try clear hcz23_5
  try clear hcz23_6
  try clear hcz23_7
  try clear hcz23_8
  try clear hcz23_9
  try clear hcz24_0
  try clear hcz24_1
  try clear hcz24_2
  try clear hcz24_3
  try clear hcz24_4
  try clear hcz24_5
  try clear hcz24_6
  try clear hcz24_7
  try clear hcz24_8
  try clear hcz24_9
  try clear hfz11_0
  try clear hfz11_1
  try clear hfz11_2
  try clear hfz11_3
  try clear hfz11_4
  try clear hfz11_5
  try clear hfz11_6
  try clear hfz11_7
  try clear hfz11_8
  try clear hfz11_9
  try clear hfz12_0
  try clear hfz12_1
  try clear hfz12_2
  try clear hfz12_3
  try clear hfz12_4
  try clear hfz12_5
  try clear hfz12_6
  try clear hfz12_7
  try clear hfz12_8
  try clear hfz12_9
  try clear hfz14_0
  try clear hfz14_1
  try clear hfz14_2
  try clear hfz14_3
  try clear hfz14_4
  try clear hfz14_5
  try clear hfz14_6
  try clear hfz14_7
  try clear hfz14_8
  try clear hfz14_9
  try clear hfz15_0
  try clear hfz15_1
  try clear hfz15_2
  try clear hfz15_3
  try clear hfz15_4
  try clear hfz15_5
  try clear hfz15_6
  try clear hfz15_7
  try clear hfz15_8
  try clear hfz15_9
  try clear hfz17_0
  try clear hfz17_1
  try clear hfz17_2
  try clear hfz17_3
  try clear hfz17_4
  try clear hfz17_5
  try clear hfz17_6
  try clear hfz17_7
  try clear hfz17_8
  try clear hfz17_9
  try clear hfz18_0
  try clear hfz18_1
  try clear hfz18_2
  try clear hfz18_3
  try clear hfz18_4
  try clear hfz18_5
  try clear hfz18_6
  try clear hfz18_7
  try clear hfz18_8
  try clear hfz18_9
  try clear hfz20_0
  try clear hfz20_1
  try clear hfz20_2
  try clear hfz20_3
  try clear hfz20_4
  try clear hfz20_5
  try clear hfz20_6
  try clear hfz20_7
  try clear hfz20_8
  try clear hfz20_9
  try clear hfz21_0
  try clear hfz21_1
  try clear hfz21_2
  try clear hfz21_3
  try clear hfz21_4
  try clear hfz21_5
  try clear hfz21_6
  try clear hfz21_7
  try clear hfz21_8
  try clear hfz21_9
  try clear hfz23_0
  try clear hfz23_1
  try clear hfz23_2
  try clear hfz23_3
  try clear hfz23_4
  try clear hfz23_5
  try clear hfz23_6
  try clear hfz23_7
  try clear hfz23_8
  try clear hfz23_9
  try clear hfz24_0
  try clear hfz24_1
  try clear hfz24_2
  try clear hfz24_3
  try clear hfz24_4
  try clear hfz24_5
  try clear hfz24_6
  try clear hfz24_7
  try clear hfz24_8
  try clear hfz24_9
  obtain ⟨kq, x5_2, rfl, HA, HJ2, BK173, BK174, HB⟩ := hcut
  cases kq with
  | zero => exact absurd HA.out (by simp [capsule_Same.j0])
  | succ kj2 =>
   have H := HA.out
   clear HA
   simp only [capsule_Same.j0] at H
   by_cases c25 : x5_2 = true
   ·subst c25
    have H1 : ((octet_Same.f kj2 l0_6 l1_6).bind fun t175 => (if t175 = true then ((octet_Same.f kj2 l0_7 l1_7).bind fun t176 => (if t176 = true then ((octet_Same.f kj2 l0_8 l1_8).bind fun t177 => (if t177 = true then ((octet_Same.f kj2 l0_9 l1_9).bind fun t178 => (some t178)) else (some false))) else (some false))) else (some false))) = some r := by rw [if_pos rfl] at H; exact H
    clear H
    have H := H1
    clear H1
    replace H := Option.bind_eq_some_iff.mp H
    obtain ⟨t175, A260, H⟩ := H
    replace H : (if t175 = true then ((octet_Same.f kj2 l0_7 l1_7).bind fun t176 => (if t176 = true then ((octet_Same.f kj2 l0_8 l1_8).bind fun t177 => (if t177 = true then ((octet_Same.f kj2 l0_9 l1_9).bind fun t178 => (some t178)) else (some false))) else (some false))) else (some false)) = some r := H
    have A26 := Aside0.mk A260
    clear A260
    by_cases c27 : t175 = true
    ·subst c27
     have H1 : ((octet_Same.f kj2 l0_7 l1_7).bind fun t176 => (if t176 = true then ((octet_Same.f kj2 l0_8 l1_8).bind fun t177 => (if t177 = true then ((octet_Same.f kj2 l0_9 l1_9).bind fun t178 => (some t178)) else (some false))) else (some false))) = some r := by rw [if_pos rfl] at H; exact H
     clear H
     have H := H1
     clear H1
     replace H := Option.bind_eq_some_iff.mp H
     obtain ⟨t176, A280, H⟩ := H
     replace H : (if t176 = true then ((octet_Same.f kj2 l0_8 l1_8).bind fun t177 => (if t177 = true then ((octet_Same.f kj2 l0_9 l1_9).bind fun t178 => (some t178)) else (some false))) else (some false)) = some r := H
     have A28 := Aside0.mk A280
     clear A280
     by_cases c29 : t176 = true
     ·subst c29
      have H1 : ((octet_Same.f kj2 l0_8 l1_8).bind fun t177 => (if t177 = true then ((octet_Same.f kj2 l0_9 l1_9).bind fun t178 => (some t178)) else (some false))) = some r := by rw [if_pos rfl] at H; exact H
      clear H
      have H := H1
      clear H1
      replace H := Option.bind_eq_some_iff.mp H
      obtain ⟨t177, A300, H⟩ := H
      replace H : (if t177 = true then ((octet_Same.f kj2 l0_9 l1_9).bind fun t178 => (some t178)) else (some false)) = some r := H
      have A30 := Aside0.mk A300
      clear A300
      by_cases c31 : t177 = true
      ·subst c31
       have H1 : ((octet_Same.f kj2 l0_9 l1_9).bind fun t178 => (some t178)) = some r := by rw [if_pos rfl] at H; exact H
       clear H
       have H := H1
       clear H1
       replace H := Option.bind_eq_some_iff.mp H
       obtain ⟨t178, A320, H⟩ := H
       replace H : (some t178) = some r := H
       have A32 := Aside0.mk A320
       clear A320
       obtain rfl := Option.some.inj H
       have hnb33 := NB173_174.out
       have hnc33 := NB174_173.out
       have hcz34_0 : wc.cell? ⟨gb173, 0, none⟩ = some (.int .i64 a0_0) := (blk_cell BK173.out 0).trans rfl
       have hcz34_1 : wc.cell? ⟨gb173, 1, none⟩ = some (.int .i64 a0_1) := (blk_cell BK173.out 1).trans rfl
       have hcz34_2 : wc.cell? ⟨gb173, 2, none⟩ = some (.int .u32 a0_2) := (blk_cell BK173.out 2).trans rfl
       have hcz34_3 : wc.cell? ⟨gb173, 3, none⟩ = some (.int .u32 a0_3) := (blk_cell BK173.out 3).trans rfl
       have hcz34_4 : wc.cell? ⟨gb173, 4, none⟩ = some (.int .u64 a0_4) := (blk_cell BK173.out 4).trans rfl
       have hcz34_5 : wc.cell? ⟨gb173, 5, none⟩ = some (.int .u64 a0_5) := (blk_cell BK173.out 5).trans rfl
       have hcz34_6 : wc.cell? ⟨gb173, 6, none⟩ = some (.slice A0_6 l0_6.length c0_6) := (blk_cell BK173.out 6).trans rfl
       have hcz34_7 : wc.cell? ⟨gb173, 7, none⟩ = some (.slice A0_7 l0_7.length c0_7) := (blk_cell BK173.out 7).trans rfl
       have hcz34_8 : wc.cell? ⟨gb173, 8, none⟩ = some (.slice A0_8 l0_8.length c0_8) := (blk_cell BK173.out 8).trans rfl
       have hcz34_9 : wc.cell? ⟨gb173, 9, none⟩ = some (.slice A0_9 l0_9.length c0_9) := (blk_cell BK173.out 9).trans rfl
       have hfz34_0 := blk_frozen BK173.out 0
       have hfz34_1 := blk_frozen BK173.out 1
       have hfz34_2 := blk_frozen BK173.out 2
       have hfz34_3 := blk_frozen BK173.out 3
       have hfz34_4 := blk_frozen BK173.out 4
       have hfz34_5 := blk_frozen BK173.out 5
       have hfz34_6 := blk_frozen BK173.out 6
       have hfz34_7 := blk_frozen BK173.out 7
       have hfz34_8 := blk_frozen BK173.out 8
       have hfz34_9 := blk_frozen BK173.out 9
       have hcz35_0 : wc.cell? ⟨gb174, 0, none⟩ = some (.int .i64 a1_0) := (blk_cell BK174.out 0).trans rfl
       have hcz35_1 : wc.cell? ⟨gb174, 1, none⟩ = some (.int .i64 a1_1) := (blk_cell BK174.out 1).trans rfl
       have hcz35_2 : wc.cell? ⟨gb174, 2, none⟩ = some (.int .u32 a1_2) := (blk_cell BK174.out 2).trans rfl
       have hcz35_3 : wc.cell? ⟨gb174, 3, none⟩ = some (.int .u32 a1_3) := (blk_cell BK174.out 3).trans rfl
       have hcz35_4 : wc.cell? ⟨gb174, 4, none⟩ = some (.int .u64 a1_4) := (blk_cell BK174.out 4).trans rfl
       have hcz35_5 : wc.cell? ⟨gb174, 5, none⟩ = some (.int .u64 a1_5) := (blk_cell BK174.out 5).trans rfl
       have hcz35_6 : wc.cell? ⟨gb174, 6, none⟩ = some (.slice A1_6 l1_6.length c1_6) := (blk_cell BK174.out 6).trans rfl
       have hcz35_7 : wc.cell? ⟨gb174, 7, none⟩ = some (.slice A1_7 l1_7.length c1_7) := (blk_cell BK174.out 7).trans rfl
       have hcz35_8 : wc.cell? ⟨gb174, 8, none⟩ = some (.slice A1_8 l1_8.length c1_8) := (blk_cell BK174.out 8).trans rfl
       have hcz35_9 : wc.cell? ⟨gb174, 9, none⟩ = some (.slice A1_9 l1_9.length c1_9) := (blk_cell BK174.out 9).trans rfl
       have hfz35_0 := blk_frozen BK174.out 0
       have hfz35_1 := blk_frozen BK174.out 1
       have hfz35_2 := blk_frozen BK174.out 2
       have hfz35_3 := blk_frozen BK174.out 3
       have hfz35_4 := blk_frozen BK174.out 4
       have hfz35_5 := blk_frozen BK174.out 5
       have hfz35_6 := blk_frozen BK174.out 6
       have hfz35_7 := blk_frozen BK174.out 7
       have hfz35_8 := blk_frozen BK174.out 8
       have hfz35_9 := blk_frozen BK174.out 9
       go_wp2_with (first | (go_at_call 28; (with_reducible refine (octet_Same.calls kj2 _ _ l0_6 _ _ l1_6 true _ ?side1 ?side2 ?side3 ?side4 A26.out).mono ?_); (case side1 => repeat (first | exact (Kd.C_below HR0_6.out HB.out) | (with_reducible refine Kd.C_alloc ?_ _) | (with_reducible refine Kd.C_drewN ?_ _) | (with_reducible refine Kd.C_drew ?_))); (case side2 => exact HC0_6.out); (case side3 => repeat (first | exact (Kd.C_below HR1_6.out HB.out) | (with_reducible refine Kd.C_alloc ?_ _) | (with_reducible refine Kd.C_drewN ?_ _) | (with_reducible refine Kd.C_drew ?_))); (case side4 => exact HC1_6.out); rintro e w' ⟨rfl, ⟨nd, rfl⟩⟩) | (go_at_call 28; (with_reducible refine (octet_Same.calls kj2 _ _ l0_7 _ _ l1_7 true _ ?side1 ?side2 ?side3 ?side4 A28.out).mono ?_); (case side1 => repeat (first | exact (Kd.C_below HR0_7.out (by repeat (first | (with_reducible first | exact HB.out | apply below_alloc | apply pw_below_drewN | apply below_drew1 | refine below_set ?_ GE173.out | refine below_set ?_ GE174.out) | exact HB.out))) | (with_reducible refine Kd.C_alloc ?_ _) | (with_reducible refine Kd.C_drewN ?_ _) | (with_reducible refine Kd.C_drew ?_))); (case side2 => exact HC0_7.out); (case side3 => repeat (first | exact (Kd.C_below HR1_7.out (by repeat (first | (with_reducible first | exact HB.out | apply below_alloc | apply pw_below_drewN | apply below_drew1 | refine below_set ?_ GE173.out | refine below_set ?_ GE174.out) | exact HB.out))) | (with_reducible refine Kd.C_alloc ?_ _) | (with_reducible refine Kd.C_drewN ?_ _) | (with_reducible refine Kd.C_drew ?_))); (case side4 => exact HC1_7.out); rintro e w' ⟨rfl, ⟨nd, rfl⟩⟩) | (go_at_call 28; (with_reducible refine (octet_Same.calls kj2 _ _ l0_8 _ _ l1_8 true _ ?side1 ?side2 ?side3 ?side4 A30.out).mono ?_); (case side1 => repeat (first | exact (Kd.C_below HR0_8.out (by repeat (first | (with_reducible first | exact HB.out | apply below_alloc | apply pw_below_drewN | apply below_drew1 | refine below_set ?_ GE173.out | refine below_set ?_ GE174.out) | exact HB.out))) | (with_reducible refine Kd.C_alloc ?_ _) | (with_reducible refine Kd.C_drewN ?_ _) | (with_reducible refine Kd.C_drew ?_))); (case side2 => exact HC0_8.out); (case side3 => repeat (first | exact (Kd.C_below HR1_8.out (by repeat (first | (with_reducible first | exact HB.out | apply below_alloc | apply pw_below_drewN | apply below_drew1 | refine below_set ?_ GE173.out | refine below_set ?_ GE174.out) | exact HB.out))) | (with_reducible refine Kd.C_alloc ?_ _) | (with_reducible refine Kd.C_drewN ?_ _) | (with_reducible refine Kd.C_drew ?_))); (case side4 => exact HC1_8.out); rintro e w' ⟨rfl, ⟨nd, rfl⟩⟩) | (go_at_call 28; (with_reducible refine (octet_Same.calls kj2 _ _ l0_9 _ _ l1_9 t178 _ ?side1 ?side2 ?side3 ?side4 A32.out).mono ?_); (case side1 => repeat (first | exact (Kd.C_below HR0_9.out (by repeat (first | (with_reducible first | exact HB.out | apply below_alloc | apply pw_below_drewN | apply below_drew1 | refine below_set ?_ GE173.out | refine below_set ?_ GE174.out) | exact HB.out))) | (with_reducible refine Kd.C_alloc ?_ _) | (with_reducible refine Kd.C_drewN ?_ _) | (with_reducible refine Kd.C_drew ?_))); (case side2 => exact HC0_9.out); (case side3 => repeat (first | exact (Kd.C_below HR1_9.out (by repeat (first | (with_reducible first | exact HB.out | apply below_alloc | apply pw_below_drewN | apply below_drew1 | refine below_set ?_ GE173.out | refine below_set ?_ GE174.out) | exact HB.out))) | (with_reducible refine Kd.C_alloc ?_ _) | (with_reducible refine Kd.C_drewN ?_ _) | (with_reducible refine Kd.C_drew ?_))); (case side4 => exact HC1_9.out); rintro e w' ⟨rfl, ⟨nd, rfl⟩⟩))
       go_ret
       exact ⟨by first | rfl | (simp [errW_none, errW_some] <;> rfl) | (simp [*, errW_none, errW_some] <;> rfl), by repeat (first | (with_reducible first | exact HB.out | apply below_alloc | apply pw_below_drewN | apply below_drew1 | refine below_set ?_ GE173.out | refine below_set ?_ GE174.out) | exact HB.out)⟩
      ·replace c31 := Bool.eq_false_iff.mpr c31
       subst c31
       have H1 : (some false) = some r := by rw [if_neg (show ¬ (false = true) by decide)] at H; exact H
       clear H
       have H := H1
       clear H1
       obtain rfl := Option.some.inj H
       have hnb36 := NB173_174.out
       have hnc36 := NB174_173.out
       have hcz37_0 : wc.cell? ⟨gb173, 0, none⟩ = some (.int .i64 a0_0) := (blk_cell BK173.out 0).trans rfl
       have hcz37_1 : wc.cell? ⟨gb173, 1, none⟩ = some (.int .i64 a0_1) := (blk_cell BK173.out 1).trans rfl
       have hcz37_2 : wc.cell? ⟨gb173, 2, none⟩ = some (.int .u32 a0_2) := (blk_cell BK173.out 2).trans rfl
       have hcz37_3 : wc.cell? ⟨gb173, 3, none⟩ = some (.int .u32 a0_3) := (blk_cell BK173.out 3).trans rfl
       have hcz37_4 : wc.cell? ⟨gb173, 4, none⟩ = some (.int .u64 a0_4) := (blk_cell BK173.out 4).trans rfl
       have hcz37_5 : wc.cell? ⟨gb173, 5, none⟩ = some (.int .u64 a0_5) := (blk_cell BK173.out 5).trans rfl
       have hcz37_6 : wc.cell? ⟨gb173, 6, none⟩ = some (.slice A0_6 l0_6.length c0_6) := (blk_cell BK173.out 6).trans rfl
       have hcz37_7 : wc.cell? ⟨gb173, 7, none⟩ = some (.slice A0_7 l0_7.length c0_7) := (blk_cell BK173.out 7).trans rfl
       have hcz37_8 : wc.cell? ⟨gb173, 8, none⟩ = some (.slice A0_8 l0_8.length c0_8) := (blk_cell BK173.out 8).trans rfl
       have hcz37_9 : wc.cell? ⟨gb173, 9, none⟩ = some (.slice A0_9 l0_9.length c0_9) := (blk_cell BK173.out 9).trans rfl
       have hfz37_0 := blk_frozen BK173.out 0
       have hfz37_1 := blk_frozen BK173.out 1
       have hfz37_2 := blk_frozen BK173.out 2
       have hfz37_3 := blk_frozen BK173.out 3
       have hfz37_4 := blk_frozen BK173.out 4
       have hfz37_5 := blk_frozen BK173.out 5
       have hfz37_6 := blk_frozen BK173.out 6
       have hfz37_7 := blk_frozen BK173.out 7
       have hfz37_8 := blk_frozen BK173.out 8
       have hfz37_9 := blk_frozen BK173.out 9
       have hcz38_0 : wc.cell? ⟨gb174, 0, none⟩ = some (.int .i64 a1_0) := (blk_cell BK174.out 0).trans rfl
       have hcz38_1 : wc.cell? ⟨gb174, 1, none⟩ = some (.int .i64 a1_1) := (blk_cell BK174.out 1).trans rfl
       have hcz38_2 : wc.cell? ⟨gb174, 2, none⟩ = some (.int .u32 a1_2) := (blk_cell BK174.out 2).trans rfl
       have hcz38_3 : wc.cell? ⟨gb174, 3, none⟩ = some (.int .u32 a1_3) := (blk_cell BK174.out 3).trans rfl
       have hcz38_4 : wc.cell? ⟨gb174, 4, none⟩ = some (.int .u64 a1_4) := (blk_cell BK174.out 4).trans rfl
       have hcz38_5 : wc.cell? ⟨gb174, 5, none⟩ = some (.int .u64 a1_5) := (blk_cell BK174.out 5).trans rfl
       have hcz38_6 : wc.cell? ⟨gb174, 6, none⟩ = some (.slice A1_6 l1_6.length c1_6) := (blk_cell BK174.out 6).trans rfl
       have hcz38_7 : wc.cell? ⟨gb174, 7, none⟩ = some (.slice A1_7 l1_7.length c1_7) := (blk_cell BK174.out 7).trans rfl
       have hcz38_8 : wc.cell? ⟨gb174, 8, none⟩ = some (.slice A1_8 l1_8.length c1_8) := (blk_cell BK174.out 8).trans rfl
       have hcz38_9 : wc.cell? ⟨gb174, 9, none⟩ = some (.slice A1_9 l1_9.length c1_9) := (blk_cell BK174.out 9).trans rfl
       have hfz38_0 := blk_frozen BK174.out 0
       have hfz38_1 := blk_frozen BK174.out 1
       have hfz38_2 := blk_frozen BK174.out 2
       have hfz38_3 := blk_frozen BK174.out 3
       have hfz38_4 := blk_frozen BK174.out 4
       have hfz38_5 := blk_frozen BK174.out 5
       have hfz38_6 := blk_frozen BK174.out 6
       have hfz38_7 := blk_frozen BK174.out 7
       have hfz38_8 := blk_frozen BK174.out 8
       have hfz38_9 := blk_frozen BK174.out 9
       go_wp2_with (first | (go_at_call 28; (with_reducible refine (octet_Same.calls kj2 _ _ l0_6 _ _ l1_6 true _ ?side1 ?side2 ?side3 ?side4 A26.out).mono ?_); (case side1 => repeat (first | exact (Kd.C_below HR0_6.out HB.out) | (with_reducible refine Kd.C_alloc ?_ _) | (with_reducible refine Kd.C_drewN ?_ _) | (with_reducible refine Kd.C_drew ?_))); (case side2 => exact HC0_6.out); (case side3 => repeat (first | exact (Kd.C_below HR1_6.out HB.out) | (with_reducible refine Kd.C_alloc ?_ _) | (with_reducible refine Kd.C_drewN ?_ _) | (with_reducible refine Kd.C_drew ?_))); (case side4 => exact HC1_6.out); rintro e w' ⟨rfl, ⟨nd, rfl⟩⟩) | (go_at_call 28; (with_reducible refine (octet_Same.calls kj2 _ _ l0_7 _ _ l1_7 true _ ?side1 ?side2 ?side3 ?side4 A28.out).mono ?_); (case side1 => repeat (first | exact (Kd.C_below HR0_7.out (by repeat (first | (with_reducible first | exact HB.out | apply below_alloc | apply pw_below_drewN | apply below_drew1 | refine below_set ?_ GE173.out | refine below_set ?_ GE174.out) | exact HB.out))) | (with_reducible refine Kd.C_alloc ?_ _) | (with_reducible refine Kd.C_drewN ?_ _) | (with_reducible refine Kd.C_drew ?_))); (case side2 => exact HC0_7.out); (case side3 => repeat (first | exact (Kd.C_below HR1_7.out (by repeat (first | (with_reducible first | exact HB.out | apply below_alloc | apply pw_below_drewN | apply below_drew1 | refine below_set ?_ GE173.out | refine below_set ?_ GE174.out) | exact HB.out))) | (with_reducible refine Kd.C_alloc ?_ _) | (with_reducible refine Kd.C_drewN ?_ _) | (with_reducible refine Kd.C_drew ?_))); (case side4 => exact HC1_7.out); rintro e w' ⟨rfl, ⟨nd, rfl⟩⟩) | (go_at_call 28; (with_reducible refine (octet_Same.calls kj2 _ _ l0_8 _ _ l1_8 false _ ?side1 ?side2 ?side3 ?side4 A30.out).mono ?_); (case side1 => repeat (first | exact (Kd.C_below HR0_8.out (by repeat (first | (with_reducible first | exact HB.out | apply below_alloc | apply pw_below_drewN | apply below_drew1 | refine below_set ?_ GE173.out | refine below_set ?_ GE174.out) | exact HB.out))) | (with_reducible refine Kd.C_alloc ?_ _) | (with_reducible refine Kd.C_drewN ?_ _) | (with_reducible refine Kd.C_drew ?_))); (case side2 => exact HC0_8.out); (case side3 => repeat (first | exact (Kd.C_below HR1_8.out (by repeat (first | (with_reducible first | exact HB.out | apply below_alloc | apply pw_below_drewN | apply below_drew1 | refine below_set ?_ GE173.out | refine below_set ?_ GE174.out) | exact HB.out))) | (with_reducible refine Kd.C_alloc ?_ _) | (with_reducible refine Kd.C_drewN ?_ _) | (with_reducible refine Kd.C_drew ?_))); (case side4 => exact HC1_8.out); rintro e w' ⟨rfl, ⟨nd, rfl⟩⟩))
       go_ret
       exact ⟨by first | rfl | (simp [errW_none, errW_some] <;> rfl) | (simp [*, errW_none, errW_some] <;> rfl), by repeat (first | (with_reducible first | exact HB.out | apply below_alloc | apply pw_below_drewN | apply below_drew1 | refine below_set ?_ GE173.out | refine below_set ?_ GE174.out) | exact HB.out)⟩
     ·replace c29 := Bool.eq_false_iff.mpr c29
      subst c29
      have H1 : (some false) = some r := by rw [if_neg (show ¬ (false = true) by decide)] at H; exact H
      clear H
      have H := H1
      clear H1
      obtain rfl := Option.some.inj H
      have hnb39 := NB173_174.out
      have hnc39 := NB174_173.out
      have hcz40_0 : wc.cell? ⟨gb173, 0, none⟩ = some (.int .i64 a0_0) := (blk_cell BK173.out 0).trans rfl
      have hcz40_1 : wc.cell? ⟨gb173, 1, none⟩ = some (.int .i64 a0_1) := (blk_cell BK173.out 1).trans rfl
      have hcz40_2 : wc.cell? ⟨gb173, 2, none⟩ = some (.int .u32 a0_2) := (blk_cell BK173.out 2).trans rfl
      have hcz40_3 : wc.cell? ⟨gb173, 3, none⟩ = some (.int .u32 a0_3) := (blk_cell BK173.out 3).trans rfl
      have hcz40_4 : wc.cell? ⟨gb173, 4, none⟩ = some (.int .u64 a0_4) := (blk_cell BK173.out 4).trans rfl
      have hcz40_5 : wc.cell? ⟨gb173, 5, none⟩ = some (.int .u64 a0_5) := (blk_cell BK173.out 5).trans rfl
      have hcz40_6 : wc.cell? ⟨gb173, 6, none⟩ = some (.slice A0_6 l0_6.length c0_6) := (blk_cell BK173.out 6).trans rfl
      have hcz40_7 : wc.cell? ⟨gb173, 7, none⟩ = some (.slice A0_7 l0_7.length c0_7) := (blk_cell BK173.out 7).trans rfl
      have hcz40_8 : wc.cell? ⟨gb173, 8, none⟩ = some (.slice A0_8 l0_8.length c0_8) := (blk_cell BK173.out 8).trans rfl
      have hcz40_9 : wc.cell? ⟨gb173, 9, none⟩ = some (.slice A0_9 l0_9.length c0_9) := (blk_cell BK173.out 9).trans rfl
      have hfz40_0 := blk_frozen BK173.out 0
      have hfz40_1 := blk_frozen BK173.out 1
      have hfz40_2 := blk_frozen BK173.out 2
      have hfz40_3 := blk_frozen BK173.out 3
      have hfz40_4 := blk_frozen BK173.out 4
      have hfz40_5 := blk_frozen BK173.out 5
      have hfz40_6 := blk_frozen BK173.out 6
      have hfz40_7 := blk_frozen BK173.out 7
      have hfz40_8 := blk_frozen BK173.out 8
      have hfz40_9 := blk_frozen BK173.out 9
      have hcz41_0 : wc.cell? ⟨gb174, 0, none⟩ = some (.int .i64 a1_0) := (blk_cell BK174.out 0).trans rfl
      have hcz41_1 : wc.cell? ⟨gb174, 1, none⟩ = some (.int .i64 a1_1) := (blk_cell BK174.out 1).trans rfl
      have hcz41_2 : wc.cell? ⟨gb174, 2, none⟩ = some (.int .u32 a1_2) := (blk_cell BK174.out 2).trans rfl
      have hcz41_3 : wc.cell? ⟨gb174, 3, none⟩ = some (.int .u32 a1_3) := (blk_cell BK174.out 3).trans rfl
      have hcz41_4 : wc.cell? ⟨gb174, 4, none⟩ = some (.int .u64 a1_4) := (blk_cell BK174.out 4).trans rfl
      have hcz41_5 : wc.cell? ⟨gb174, 5, none⟩ = some (.int .u64 a1_5) := (blk_cell BK174.out 5).trans rfl
      have hcz41_6 : wc.cell? ⟨gb174, 6, none⟩ = some (.slice A1_6 l1_6.length c1_6) := (blk_cell BK174.out 6).trans rfl
      have hcz41_7 : wc.cell? ⟨gb174, 7, none⟩ = some (.slice A1_7 l1_7.length c1_7) := (blk_cell BK174.out 7).trans rfl
      have hcz41_8 : wc.cell? ⟨gb174, 8, none⟩ = some (.slice A1_8 l1_8.length c1_8) := (blk_cell BK174.out 8).trans rfl
      have hcz41_9 : wc.cell? ⟨gb174, 9, none⟩ = some (.slice A1_9 l1_9.length c1_9) := (blk_cell BK174.out 9).trans rfl
      have hfz41_0 := blk_frozen BK174.out 0
      have hfz41_1 := blk_frozen BK174.out 1
      have hfz41_2 := blk_frozen BK174.out 2
      have hfz41_3 := blk_frozen BK174.out 3
      have hfz41_4 := blk_frozen BK174.out 4
      have hfz41_5 := blk_frozen BK174.out 5
      have hfz41_6 := blk_frozen BK174.out 6
      have hfz41_7 := blk_frozen BK174.out 7
      have hfz41_8 := blk_frozen BK174.out 8
      have hfz41_9 := blk_frozen BK174.out 9
      go_wp2_with (first | (go_at_call 28; (with_reducible refine (octet_Same.calls kj2 _ _ l0_6 _ _ l1_6 true _ ?side1 ?side2 ?side3 ?side4 A26.out).mono ?_); (case side1 => repeat (first | exact (Kd.C_below HR0_6.out HB.out) | (with_reducible refine Kd.C_alloc ?_ _) | (with_reducible refine Kd.C_drewN ?_ _) | (with_reducible refine Kd.C_drew ?_))); (case side2 => exact HC0_6.out); (case side3 => repeat (first | exact (Kd.C_below HR1_6.out HB.out) | (with_reducible refine Kd.C_alloc ?_ _) | (with_reducible refine Kd.C_drewN ?_ _) | (with_reducible refine Kd.C_drew ?_))); (case side4 => exact HC1_6.out); rintro e w' ⟨rfl, ⟨nd, rfl⟩⟩) | (go_at_call 28; (with_reducible refine (octet_Same.calls kj2 _ _ l0_7 _ _ l1_7 false _ ?side1 ?side2 ?side3 ?side4 A28.out).mono ?_); (case side1 => repeat (first | exact (Kd.C_below HR0_7.out (by repeat (first | (with_reducible first | exact HB.out | apply below_alloc | apply pw_below_drewN | apply below_drew1 | refine below_set ?_ GE173.out | refine below_set ?_ GE174.out) | exact HB.out))) | (with_reducible refine Kd.C_alloc ?_ _) | (with_reducible refine Kd.C_drewN ?_ _) | (with_reducible refine Kd.C_drew ?_))); (case side2 => exact HC0_7.out); (case side3 => repeat (first | exact (Kd.C_below HR1_7.out (by repeat (first | (with_reducible first | exact HB.out | apply below_alloc | apply pw_below_drewN | apply below_drew1 | refine below_set ?_ GE173.out | refine below_set ?_ GE174.out) | exact HB.out))) | (with_reducible refine Kd.C_alloc ?_ _) | (with_reducible refine Kd.C_drewN ?_ _) | (with_reducible refine Kd.C_drew ?_))); (case side4 => exact HC1_7.out); rintro e w' ⟨rfl, ⟨nd, rfl⟩⟩))
      go_ret
      exact ⟨by first | rfl | (simp [errW_none, errW_some] <;> rfl) | (simp [*, errW_none, errW_some] <;> rfl), by repeat (first | (with_reducible first | exact HB.out | apply below_alloc | apply pw_below_drewN | apply below_drew1 | refine below_set ?_ GE173.out | refine below_set ?_ GE174.out) | exact HB.out)⟩
    ·replace c27 := Bool.eq_false_iff.mpr c27
     subst c27
     have H1 : (some false) = some r := by rw [if_neg (show ¬ (false = true) by decide)] at H; exact H
     clear H
     have H := H1
     clear H1
     obtain rfl := Option.some.inj H
     have hnb42 := NB173_174.out
     have hnc42 := NB174_173.out
     have hcz43_0 : wc.cell? ⟨gb173, 0, none⟩ = some (.int .i64 a0_0) := (blk_cell BK173.out 0).trans rfl
     have hcz43_1 : wc.cell? ⟨gb173, 1, none⟩ = some (.int .i64 a0_1) := (blk_cell BK173.out 1).trans rfl
     have hcz43_2 : wc.cell? ⟨gb173, 2, none⟩ = some (.int .u32 a0_2) := (blk_cell BK173.out 2).trans rfl
     have hcz43_3 : wc.cell? ⟨gb173, 3, none⟩ = some (.int .u32 a0_3) := (blk_cell BK173.out 3).trans rfl
     have hcz43_4 : wc.cell? ⟨gb173, 4, none⟩ = some (.int .u64 a0_4) := (blk_cell BK173.out 4).trans rfl
     have hcz43_5 : wc.cell? ⟨gb173, 5, none⟩ = some (.int .u64 a0_5) := (blk_cell BK173.out 5).trans rfl
     have hcz43_6 : wc.cell? ⟨gb173, 6, none⟩ = some (.slice A0_6 l0_6.length c0_6) := (blk_cell BK173.out 6).trans rfl
     have hcz43_7 : wc.cell? ⟨gb173, 7, none⟩ = some (.slice A0_7 l0_7.length c0_7) := (blk_cell BK173.out 7).trans rfl
     have hcz43_8 : wc.cell? ⟨gb173, 8, none⟩ = some (.slice A0_8 l0_8.length c0_8) := (blk_cell BK173.out 8).trans rfl
     have hcz43_9 : wc.cell? ⟨gb173, 9, none⟩ = some (.slice A0_9 l0_9.length c0_9) := (blk_cell BK173.out 9).trans rfl
     have hfz43_0 := blk_frozen BK173.out 0
     have hfz43_1 := blk_frozen BK173.out 1
     have hfz43_2 := blk_frozen BK173.out 2
     have hfz43_3 := blk_frozen BK173.out 3
     have hfz43_4 := blk_frozen BK173.out 4
     have hfz43_5 := blk_frozen BK173.out 5
     have hfz43_6 := blk_frozen BK173.out 6
     have hfz43_7 := blk_frozen BK173.out 7
     have hfz43_8 := blk_frozen BK173.out 8
     have hfz43_9 := blk_frozen BK173.out 9
     have hcz44_0 : wc.cell? ⟨gb174, 0, none⟩ = some (.int .i64 a1_0) := (blk_cell BK174.out 0).trans rfl
     have hcz44_1 : wc.cell? ⟨gb174, 1, none⟩ = some (.int .i64 a1_1) := (blk_cell BK174.out 1).trans rfl
     have hcz44_2 : wc.cell? ⟨gb174, 2, none⟩ = some (.int .u32 a1_2) := (blk_cell BK174.out 2).trans rfl
     have hcz44_3 : wc.cell? ⟨gb174, 3, none⟩ = some (.int .u32 a1_3) := (blk_cell BK174.out 3).trans rfl
     have hcz44_4 : wc.cell? ⟨gb174, 4, none⟩ = some (.int .u64 a1_4) := (blk_cell BK174.out 4).trans rfl
     have hcz44_5 : wc.cell? ⟨gb174, 5, none⟩ = some (.int .u64 a1_5) := (blk_cell BK174.out 5).trans rfl
     have hcz44_6 : wc.cell? ⟨gb174, 6, none⟩ = some (.slice A1_6 l1_6.length c1_6) := (blk_cell BK174.out 6).trans rfl
     have hcz44_7 : wc.cell? ⟨gb174, 7, none⟩ = some (.slice A1_7 l1_7.length c1_7) := (blk_cell BK174.out 7).trans rfl
     have hcz44_8 : wc.cell? ⟨gb174, 8, none⟩ = some (.slice A1_8 l1_8.length c1_8) := (blk_cell BK174.out 8).trans rfl
     have hcz44_9 : wc.cell? ⟨gb174, 9, none⟩ = some (.slice A1_9 l1_9.length c1_9) := (blk_cell BK174.out 9).trans rfl
     have hfz44_0 := blk_frozen BK174.out 0
     have hfz44_1 := blk_frozen BK174.out 1
     have hfz44_2 := blk_frozen BK174.out 2
     have hfz44_3 := blk_frozen BK174.out 3
     have hfz44_4 := blk_frozen BK174.out 4
     have hfz44_5 := blk_frozen BK174.out 5
     have hfz44_6 := blk_frozen BK174.out 6
     have hfz44_7 := blk_frozen BK174.out 7
     have hfz44_8 := blk_frozen BK174.out 8
     have hfz44_9 := blk_frozen BK174.out 9
     go_wp2_with (first | (go_at_call 28; (with_reducible refine (octet_Same.calls kj2 _ _ l0_6 _ _ l1_6 false _ ?side1 ?side2 ?side3 ?side4 A26.out).mono ?_); (case side1 => repeat (first | exact (Kd.C_below HR0_6.out HB.out) | (with_reducible refine Kd.C_alloc ?_ _) | (with_reducible refine Kd.C_drewN ?_ _) | (with_reducible refine Kd.C_drew ?_))); (case side2 => exact HC0_6.out); (case side3 => repeat (first | exact (Kd.C_below HR1_6.out HB.out) | (with_reducible refine Kd.C_alloc ?_ _) | (with_reducible refine Kd.C_drewN ?_ _) | (with_reducible refine Kd.C_drew ?_))); (case side4 => exact HC1_6.out); rintro e w' ⟨rfl, ⟨nd, rfl⟩⟩))
     go_ret
     exact ⟨by first | rfl | (simp [errW_none, errW_some] <;> rfl) | (simp [*, errW_none, errW_some] <;> rfl), by repeat (first | (with_reducible first | exact HB.out | apply below_alloc | apply pw_below_drewN | apply below_drew1 | refine below_set ?_ GE173.out | refine below_set ?_ GE174.out) | exact HB.out)⟩
   ·replace c25 := Bool.eq_false_iff.mpr c25
    subst c25
    have H1 : (some false) = some r := by rw [if_neg (show ¬ (false = true) by decide)] at H; exact H
    clear H
    have H := H1
    clear H1
    obtain rfl := Option.some.inj H
    go_wp2
    go_ret
    exact ⟨by first | rfl | (simp [errW_none, errW_some] <;> rfl) | (simp [*, errW_none, errW_some] <;> rfl), by repeat (first | (with_reducible first | exact HB.out | apply below_alloc | apply pw_below_drewN | apply below_drew1 | refine below_set ?_ GE173.out | refine below_set ?_ GE174.out) | exact HB.out)⟩

end Go.Proofs.Ytgacaemgmgoiaaa.QLeaf
