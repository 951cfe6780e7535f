import Derived.Test.YtgacaemgmgoiaaaAg
import Derived.Test.YtgacaemgmgoiaaaLemG
import Derived.Test.YtgacaemgmgoiaaaCap3b

/- The reader: what take, number and text come to; capsule.Get. -/
namespace Go.Proofs.Ytgacaemgmgoiaaa.QLeaf
open Go.RowKit Go.Proofs.YtgacaemgmgoiaaaW.PrintWords Go.Proofs.YtgacaemgmgoiaaaW.PrintLast Go.Proofs.YtgacaemgmgoiaaaW.PrintMore Go.Proofs.YtgacaemgmgoiaaaW.Cm Go.Proofs.YtgacaemgmgoiaaaW.Rg
set_option linter.unusedVariables false
set_option linter.unusedSimpArgs false
/-- What is taken, what is left, and whether something lacked. -/
def tkv (n : Nat) (l : List Int) (b : Bool) : List Int := if b = true ∨ l.length < n then List.replicate (min n 8) 0 else l.take n
def tkr (n : Nat) (l : List Int) (b : Bool) : List Int := if b = true ∨ l.length < n then l else l.drop n
def tkb (n : Nat) (l : List Int) (b : Bool) : Bool := if b = true ∨ l.length < n then true else false
theorem tk_bad {n : Nat} {l : List Int} {b : Bool} (h : b = true ∨ l.length < n) : tkv n l b = List.replicate (min n 8) 0 ∧ tkr n l b = l ∧ tkb n l b = true := ⟨if_pos h, if_pos h, if_pos h⟩
theorem tk_ok {n : Nat} {l : List Int} {b : Bool} (h : ¬ (b = true ∨ l.length < n)) : tkv n l b = l.take n ∧ tkr n l b = l.drop n ∧ tkb n l b = false := ⟨if_neg h, if_neg h, if_neg h⟩
theorem tkv_byt {n : Nat} {l : List Int} {b : Bool} (h : Byt l) : Byt (tkv n l b) := by
  unfold tkv
  split
  · intro x hx
    have := List.eq_of_mem_replicate hx
    omega
  · exact byt_take h n
theorem tkr_byt {n : Nat} {l : List Int} {b : Bool} (h : Byt l) : Byt (tkr n l b) := by
  unfold tkr
  split
  · exact h
  · exact byt_drop h n
theorem tkr_len (n : Nat) (l : List Int) (b : Bool) : (tkr n l b).length ≤ l.length := by
  unfold tkr
  split
  · exact Nat.le_refl _
  · rw [List.length_drop]; omega
theorem tkv_len {n : Nat} (l : List Int) (b : Bool) (h : n ≤ 8) : (tkv n l b).length = n := by
  unfold tkv
  split
  · rw [List.length_replicate]; omega
  · rw [List.length_take]; omega
/-- The reader's box. -/
def Rd (b : Nat) (w : World) (l : List Int) (bad : Bool) : Prop := ∃ v, w.heap[b]? = some (.cells #[v, .bool bad] 50 (0, 0)) ∧ Row 0 w v l
/-- What a call that reads yields. -/
abbrev RetS (f : FuncId) (b : Nat) (n : Nat) (w : World) (Φ : Value → World → Prop) (l : List Int) (bad : Bool) : Prop := Calls Try.prog f #[.pointer (some ⟨b, 0, none⟩), .int .i64 (n : Int)] w fun e w' => ∃ u, e = .returned u ∧ Φ u w' ∧ Rd b w' l bad ∧ Chg (· = b) w w' ∧ Keep8 w w'
attribute [local go_sem] min2_int min_two
structure Hq (p : Prop) : Prop where
  out : p
abbrev RdJ (b : Nat) (l : List Int) (bad : Bool) : World → Prop := fun w => Rd b w l bad
theorem Rd.chg {b : Nat} {S : Nat → Prop} {w w' : World} {l : List Int} {bad : Bool} (h : Rd b w l bad) (hc : Chg S w w') (hk : Keep8 w w') (hS : ¬ S b) : Rd b w' l bad := by
  obtain ⟨v, h1, h2⟩ := h
  exact ⟨v, hc.blk h1 hS, h2.keep hk⟩
theorem u32wrap {n : Int} (h0 : 0 ≤ n) (h1 : n < 4294967296) : IntKind.u32.wrap n = n := by simp [IntKind.wrap, IntKind.signed, IntKind.bits]; omega
theorem i64wrap {n : Int} (h0 : -9223372036854775808 ≤ n) (h1 : n ≤ 9223372036854775807) : IntKind.i64.wrap n = n := by simp [IntKind.wrap, IntKind.signed, IntKind.bits]; omega
theorem Rd.below {b : Nat} {w w' : World} {l : List Int} {bad : Bool} (h : Rd b w l bad) (hb : Below w.heap.size w w') : Rd b w' l bad := by
  obtain ⟨v, h1, h2⟩ := h
  exact ⟨v, blk_below h1 hb, h2.mono (Mono.of_below hb)⟩
theorem Rd.lt {b : Nat} {w : World} {l : List Int} {bad : Bool} (h : Rd b w l bad) : b < w.heap.size := by
  obtain ⟨v, h1, h2⟩ := h
  exact blk_lt h1
theorem bigof_calls (l : List Int) (hl : Byt l) (h1 : 1 ≤ l.length) (h8 : l.length ≤ 8) (v : Value) (w : World) {B : Nat} (hv : Row B w v l) : Ret 44 #[v] w (isV (.tuple #[.int .u64 (num l), .int .i64 0])) := by
  obtain ⟨A, c, rfl, k, hC, _⟩ := hv
  exact (octet_BigOf.calls (l.length + 2) A c l (num l) 0 w hC k (bigOf_eq l hl h1 h8 _ (by omega))).mono fun e w' ⟨he, hB⟩ => ⟨_, he, rfl, hB.below⟩
/-- The number of the bytes that are taken. -/
def nmv (n : Nat) (l : List Int) (b : Bool) : Int := num (tkv n l b)
theorem nmv_range {n : Nat} {l : List Int} (b : Bool) (hl : Byt l) (h8 : n ≤ 8) : 0 ≤ nmv n l b ∧ nmv n l b < 256 ^ n := by
  have := num_range (tkv_byt (n := n) (b := b) hl)
  rw [tkv_len l b h8] at this
  exact this

set_option maxHeartbeats 2000000 in
set_option maxRecDepth 100000 in
theorem take_calls (b n : Nat) (hn : n < 100000) (l : List Int) (hl : l.length < 100000) (bad : Bool) (w : World) (hr : Rd b w l bad) : RetS 36 b n w (isRow w.heap.size (tkv n l bad)) (tkr n l bad) (tkb n l bad) := by
  obtain ⟨v, hb, hv⟩ := hr
  by_cases h1 : bad = true
  · subst h1
    obtain ⟨e1, e2, e3⟩ := tk_bad (n := n) (l := l) (b := true) (.inl rfl)
    rw [e1, e2, e3]
    clear e1 e2 e3
    have b_lt := blk_lt hb
    refine enterA (n := 43) Try.func36 rfl rfl fun a0 sz df he => ?_
    have e0 : a0.tmps[0]? = some (.pointer (some ⟨b, 0, none⟩)) := he 0 _ rfl
    have e1 : a0.tmps[1]? = some (.int .i64 (n : Int)) := he 1 _ rfl
    clear he
    have CH : Chg (fun x => x = b) w w := Chg.refl _ _
    have K8 : Keep8 w w := Keep8.refl _
    refine wp_seq_k fun KK1 hKK1 => ?_
    refine raI (S := fun _ => False) 43 1 sz [4] [isV (.slice none 0 0)] [Tr, Tr] rfl (by decide) (by decide) (by decide) ?_ ?_ ?_ ?_
    · intro J hJ; cases hJ; exact trivial
    · exact (sr_cons (sr_V _ _) (sr_nil _))
    ·refine sti_cons ?_ sti_nil
     ·refine sti rfl rfl rfl rfl rfl rfl rfl fun a w' hM hI hoff hp K hK => ?_
      clear hoff hp
      exact ov  (hK _ _ (Rl.refl _ _) trivial rfl)
    intro a1 w1 sz1 df1 hoff hvv hRl hJ
    replace hb := hRl.chg.blk hb (fun h => h.elim)
    replace hv := hv.keep hRl.keep
    replace CH := CH.trans hRl.chg (fun _ _ h => h.elim)
    replace K8 := K8.trans hRl.keep
    obtain ⟨_, e4, rfl⟩ := hvv 0 _ _ rfl rfl
    replace e0 := (hoff 0 rfl).trans e0
    replace e1 := (hoff 1 rfl).trans e1
    replace sz := sz1
    replace df := df1.trans df
    have Zw1 : w.heap.size ≤ w1.heap.size := CH.size
    clear sz1 df1 hoff hvv hRl hJ
    refine wpo_all rfl ?_
    refine hKK1 _ _ ?_
    refine wp_seq_k fun KK2 hKK2 => ?_
    refine wp_seq_k fun KK3 hKK3 => ?_
    refine raI (S := fun _ => False) 43 13 sz [6, 7, 8, 9, 10, 11, 12, 13, 14, 15, 16, 17, 18] [isV (.pointer (some ⟨b, 0, none⟩)), isV (.pointer (some ⟨b, 0, none⟩)), isV (.pointer (some ⟨b, 1, none⟩)), isV (.bool true), isV (.bool true), isV (undef), isV (undef), isV (undef), isV (undef), isV (undef), isV (undef), isV (undef), isV (.bool true)] [Tr, Tr, Tr, Tr, Tr, Tr, Tr, Tr, Tr, Tr, Tr, Tr, Tr, Tr] rfl (by decide) (by decide) (by decide) ?_ ?_ ?_ ?_
    · intro J hJ; cases hJ; exact trivial
    · exact (sr_cons (sr_V _ _) (sr_cons (sr_V _ _) (sr_cons (sr_V _ _) (sr_cons (sr_V _ _) (sr_cons (sr_V _ _) (sr_cons (sr_V _ _) (sr_cons (sr_V _ _) (sr_cons (sr_V _ _) (sr_cons (sr_V _ _) (sr_cons (sr_V _ _) (sr_cons (sr_V _ _) (sr_cons (sr_V _ _) (sr_cons (sr_V _ _) (sr_nil _))))))))))))))
    ·refine sti_cons ?_ (sti_cons ?_ (sti_cons ?_ (sti_cons ?_ (sti_cons ?_ (sti_cons ?_ (sti_cons ?_ (sti_cons ?_ (sti_cons ?_ (sti_cons ?_ (sti_cons ?_ (sti_cons ?_ (sti_cons ?_ sti_nil))))))))))))
     ·refine sti rfl rfl rfl rfl rfl rfl rfl fun a w' hM hI hoff hp K hK => ?_
      have e0 : a.tmps[0]? = some (.pointer (some ⟨b, 0, none⟩)) := (hoff 0 rfl).trans e0
      clear hoff hp
      exact ov  (hK _ _ (Rl.refl _ _) trivial rfl)
     ·refine sti rfl rfl rfl rfl rfl rfl rfl fun a w' hM hI hoff hp K hK => ?_
      obtain ⟨_, e6, rfl⟩ := hp 0 rfl 6 _ rfl rfl
      clear hoff hp
      exact ov  (hK _ _ (Rl.refl _ _) trivial rfl)
     ·refine sti rfl rfl rfl rfl rfl rfl rfl fun a w' hM hI hoff hp K hK => ?_
      obtain ⟨_, e7, rfl⟩ := hp 1 rfl 7 _ rfl rfl
      clear hoff hp
      have hu := Try.underlying50
      exact ov  (hK _ _ (Rl.refl _ _) trivial rfl)
     ·refine sti rfl rfl rfl rfl rfl rfl rfl fun a w' hM hI hoff hp K hK => ?_
      obtain ⟨_, e8, rfl⟩ := hp 2 rfl 8 _ rfl rfl
      clear hoff hp
      have d1 : w'.cell? ⟨b, 1, none⟩ = some (.bool true) := (blk_cell (hM.chg.blk hb (fun h => h)) 1).trans rfl
      exact ov  (hK _ _ (Rl.refl _ _) trivial rfl)
     ·refine sti rfl rfl rfl rfl rfl rfl rfl fun a w' hM hI hoff hp K hK => ?_
      obtain ⟨_, e9, rfl⟩ := hp 3 rfl 9 _ rfl rfl
      clear hoff hp
      exact ov  (hK _ _ (Rl.refl _ _) trivial rfl)
     ·exact stin 4 rfl rfl rfl rfl rfl rfl rfl rfl rfl rfl rfl (by simp)
     ·exact stin 4 rfl rfl rfl rfl rfl rfl rfl rfl rfl rfl rfl (by simp)
     ·exact stin 4 rfl rfl rfl rfl rfl rfl rfl rfl rfl rfl rfl (by simp)
     ·exact stin 4 rfl rfl rfl rfl rfl rfl rfl rfl rfl rfl rfl (by simp)
     ·exact stin 4 rfl rfl rfl rfl rfl rfl rfl rfl rfl rfl rfl (by simp)
     ·exact stin 4 rfl rfl rfl rfl rfl rfl rfl rfl rfl rfl rfl (by simp)
     ·exact stin 4 rfl rfl rfl rfl rfl rfl rfl rfl rfl rfl rfl (by simp)
     ·refine sti rfl rfl rfl rfl rfl rfl rfl fun a w' hM hI hoff hp K hK => ?_
      obtain ⟨_, e10, rfl⟩ := hp 4 rfl 10 _ rfl rfl
      clear hoff hp
      exact ov  (hK _ _ (Rl.refl _ _) trivial rfl)
    intro a2 w2 sz1 df1 hoff hvv hRl hJ
    replace hb := hRl.chg.blk hb (fun h => h.elim)
    replace hv := hv.keep hRl.keep
    replace CH := CH.trans hRl.chg (fun _ _ h => h.elim)
    replace K8 := K8.trans hRl.keep
    obtain ⟨_, e18, rfl⟩ := hvv 12 _ _ rfl rfl
    replace e0 := (hoff 0 rfl).trans e0
    replace e1 := (hoff 1 rfl).trans e1
    replace e4 := (hoff 4 rfl).trans e4
    replace sz := sz1
    replace df := df1.trans df
    have Zw2 : w.heap.size ≤ w2.heap.size := CH.size
    clear sz1 df1 hoff hvv hRl hJ
    refine wpo_all rfl ?_
    refine hKK3 _ _ ?_
    refine wp_cond_true (ev e18) ?_
    refine wp_seq_k fun KK4 hKK4 => ?_
    refine raI (S := fun _ => False) 43 3 sz [19, 20, 21] [isV (.pointer (some ⟨b, 0, none⟩)), isV (.pointer (some ⟨b, 0, none⟩)), isV (.pointer (some ⟨b, 1, none⟩))] [Tr, Tr, Tr, Tr] rfl (by decide) (by decide) (by decide) ?_ ?_ ?_ ?_
    · intro J hJ; cases hJ; exact trivial
    · exact (sr_cons (sr_V _ _) (sr_cons (sr_V _ _) (sr_cons (sr_V _ _) (sr_nil _))))
    ·refine sti_cons ?_ (sti_cons ?_ (sti_cons ?_ sti_nil))
     ·refine sti rfl rfl rfl rfl rfl rfl rfl fun a w' hM hI hoff hp K hK => ?_
      have e0 : a.tmps[0]? = some (.pointer (some ⟨b, 0, none⟩)) := (hoff 0 rfl).trans e0
      clear hoff hp
      exact ov  (hK _ _ (Rl.refl _ _) trivial rfl)
     ·refine sti rfl rfl rfl rfl rfl rfl rfl fun a w' hM hI hoff hp K hK => ?_
      obtain ⟨_, e19, rfl⟩ := hp 0 rfl 19 _ rfl rfl
      clear hoff hp
      exact ov  (hK _ _ (Rl.refl _ _) trivial rfl)
     ·refine sti rfl rfl rfl rfl rfl rfl rfl fun a w' hM hI hoff hp K hK => ?_
      obtain ⟨_, e20, rfl⟩ := hp 1 rfl 20 _ rfl rfl
      clear hoff hp
      have hu := Try.underlying50
      exact ov  (hK _ _ (Rl.refl _ _) trivial rfl)
    intro a3 w3 sz1 df1 hoff hvv hRl hJ
    replace hb := hRl.chg.blk hb (fun h => h.elim)
    replace hv := hv.keep hRl.keep
    replace CH := CH.trans hRl.chg (fun _ _ h => h.elim)
    replace K8 := K8.trans hRl.keep
    obtain ⟨_, e21, rfl⟩ := hvv 2 _ _ rfl rfl
    replace e0 := (hoff 0 rfl).trans e0
    replace e1 := (hoff 1 rfl).trans e1
    replace e4 := (hoff 4 rfl).trans e4
    replace e18 := (hoff 18 rfl).trans e18
    replace sz := sz1
    replace df := df1.trans df
    have Zw3 : w.heap.size ≤ w3.heap.size := CH.size
    clear sz1 df1 hoff hvv hRl hJ
    refine wpo_step 3 _ rfl rfl (og_plain rfl ?_)
    refine op_store_cell 4 _ _ rfl b 1 (.bool true) (ev e21) rfl 50 _ hb (by kernel_rfl) (by simp) rfl (nbl ⟨row_nb hv, rfl, trivial⟩) ?_
    intro w4 H_ hC hK
    change wpOps _ _ _ _ a3 w4
    replace hv := hv.keep hK
    replace CH := CH.trans hC (fun _ _ h => h)
    replace K8 := K8.trans hK
    replace hb : w4.heap[b]? = some (.cells #[v, .bool true] 50 (0, 0)) := H_
    clear hC hK
    have Zw4 : w.heap.size ≤ w4.heap.size := CH.size
    refine wpo_all rfl ?_
    refine hKK4 _ _ ?_
    refine wp_seq_k fun KK5 hKK5 => ?_
    refine raI (S := fun _ => False) 43 4 sz [22, 23, 24, 4] [isV (.int .i64 (n : Int)), isV (.int .i64 ((min n 8 : Nat) : Int)), isRow w4.heap.size (List.replicate (min n 8) 0), isRow w4.heap.size (List.replicate (min n 8) 0)] [Tr, Tr, Tr, Tr, Tr] rfl (by decide) (by decide) (by decide) ?_ ?_ ?_ ?_
    · intro J hJ; cases hJ; exact trivial
    · exact (sr_cons (sr_V _ _) (sr_cons (sr_V _ _) (sr_cons (sr_Row _ _ _) (sr_cons (sr_Row _ _ _) (sr_nil _)))))
    ·refine sti_cons ?_ (sti_cons ?_ (sti_cons ?_ (sti_cons ?_ sti_nil)))
     ·refine sti rfl rfl rfl rfl rfl rfl rfl fun a w' hM hI hoff hp K hK => ?_
      have e1 : a.tmps[1]? = some (.int .i64 (n : Int)) := (hoff 1 rfl).trans e1
      clear hoff hp
      exact ov  (hK _ _ (Rl.refl _ _) trivial rfl)
     ·refine sti rfl rfl rfl rfl rfl rfl rfl fun a w' hM hI hoff hp K hK => ?_
      obtain ⟨_, e22, rfl⟩ := hp 0 rfl 22 _ rfl rfl
      clear hoff hp
      have hmn : (if (8 : Int) < (n : Int) then (8 : Int) else (n : Int)) = ((min n 8 : Nat) : Int) := by split <;> omega
      exact ov  (hK _ _ (Rl.refl _ _) trivial rfl)
     ·refine sti rfl rfl rfl rfl rfl rfl rfl fun a w' hM hI hoff hp K hK => ?_
      obtain ⟨_, e23, rfl⟩ := hp 1 rfl 23 _ rfl rfl
      clear hoff hp
      obtain ⟨w2, hmk, hbl, hR⟩ := mk_row (P := Try.prog) w' (min n 8) Try.underlying26 info5 (by omega)
      exact ov (w' := w2)  (hK _ _ (Rl.of_below hbl) trivial (hR.lower hM.keep.size))
     ·refine sti rfl rfl rfl rfl rfl rfl rfl fun a w' hM hI hoff hp K hK => ?_
      obtain ⟨v24, e24, h24⟩ := hp 2 rfl 24 _ rfl rfl
      clear hoff hp
      exact ov  (hK _ _ (Rl.refl _ _) trivial h24)
    intro a5 w5 sz1 df1 hoff hvv hRl hJ
    replace hb := hRl.chg.blk hb (fun h => h.elim)
    replace hv := hv.keep hRl.keep
    replace CH := CH.trans hRl.chg (fun _ _ h => h.elim)
    replace K8 := K8.trans hRl.keep
    obtain ⟨u4_5, e4, Kr4⟩ := hvv 3 _ _ rfl rfl
    replace Kr4 : Row w4.heap.size w5 u4_5 (List.replicate (min n 8) 0) := Kr4
    replace e0 := (hoff 0 rfl).trans e0
    replace e1 := (hoff 1 rfl).trans e1
    replace e18 := (hoff 18 rfl).trans e18
    replace e21 := (hoff 21 rfl).trans e21
    replace sz := sz1
    replace df := df1.trans df
    have Zw5 : w.heap.size ≤ w5.heap.size := CH.size
    clear sz1 df1 hoff hvv hRl hJ
    refine wpo_all rfl ?_
    refine hKK5 _ _ ?_
    refine wp_ret ?_
    refine then_r ?_
    exact ret1 rfl df e4 ⟨_, rfl, (Kr4.lower Zw4), ⟨_, hb, hv⟩, CH, K8⟩
  obtain rfl : bad = false := by simpa using h1
  clear h1
  by_cases h2 : l.length < n
  · obtain ⟨e1, e2, e3⟩ := tk_bad (n := n) (l := l) (b := false) (.inr h2)
    rw [e1, e2, e3]
    clear e1 e2 e3
    have b_lt := blk_lt hb
    refine enterA (n := 43) Try.func36 rfl rfl fun a0 sz df he => ?_
    have e0 : a0.tmps[0]? = some (.pointer (some ⟨b, 0, none⟩)) := he 0 _ rfl
    have e1 : a0.tmps[1]? = some (.int .i64 (n : Int)) := he 1 _ rfl
    clear he
    have CH : Chg (fun x => x = b) w w := Chg.refl _ _
    have K8 : Keep8 w w := Keep8.refl _
    refine wp_seq_k fun KK1 hKK1 => ?_
    refine raI (S := fun _ => False) 43 1 sz [4] [isV (.slice none 0 0)] [Tr, Tr] rfl (by decide) (by decide) (by decide) ?_ ?_ ?_ ?_
    · intro J hJ; cases hJ; exact trivial
    · exact (sr_cons (sr_V _ _) (sr_nil _))
    ·refine sti_cons ?_ sti_nil
     ·refine sti rfl rfl rfl rfl rfl rfl rfl fun a w' hM hI hoff hp K hK => ?_
      clear hoff hp
      exact ov  (hK _ _ (Rl.refl _ _) trivial rfl)
    intro a1 w1 sz1 df1 hoff hvv hRl hJ
    replace hb := hRl.chg.blk hb (fun h => h.elim)
    replace hv := hv.keep hRl.keep
    replace CH := CH.trans hRl.chg (fun _ _ h => h.elim)
    replace K8 := K8.trans hRl.keep
    obtain ⟨_, e4, rfl⟩ := hvv 0 _ _ rfl rfl
    replace e0 := (hoff 0 rfl).trans e0
    replace e1 := (hoff 1 rfl).trans e1
    replace sz := sz1
    replace df := df1.trans df
    have Zw1 : w.heap.size ≤ w1.heap.size := CH.size
    clear sz1 df1 hoff hvv hRl hJ
    refine wpo_all rfl ?_
    refine hKK1 _ _ ?_
    refine wp_seq_k fun KK2 hKK2 => ?_
    refine wp_seq_k fun KK3 hKK3 => ?_
    refine raI (S := fun _ => False) 43 13 sz [6, 7, 8, 9, 10, 11, 12, 13, 14, 15, 16, 17, 18] [isV (.pointer (some ⟨b, 0, none⟩)), isV (.pointer (some ⟨b, 0, none⟩)), isV (.pointer (some ⟨b, 1, none⟩)), isV (.bool false), isV (.bool false), isV (.pointer (some ⟨b, 0, none⟩)), isV (.pointer (some ⟨b, 0, none⟩)), isV (.pointer (some ⟨b, 0, none⟩)), isRow 0 l, isV (.int .i64 (l).length), isV (.int .i64 (n : Int)), isV (.bool true), isV (.bool true)] [Tr, Tr, Tr, Tr, Tr, Tr, Tr, Tr, Tr, Tr, Tr, Tr, Tr, Tr] rfl (by decide) (by decide) (by decide) ?_ ?_ ?_ ?_
    · intro J hJ; cases hJ; exact trivial
    · exact (sr_cons (sr_V _ _) (sr_cons (sr_V _ _) (sr_cons (sr_V _ _) (sr_cons (sr_V _ _) (sr_cons (sr_V _ _) (sr_cons (sr_V _ _) (sr_cons (sr_V _ _) (sr_cons (sr_V _ _) (sr_cons (sr_Row _ _ _) (sr_cons (sr_V _ _) (sr_cons (sr_V _ _) (sr_cons (sr_V _ _) (sr_cons (sr_V _ _) (sr_nil _))))))))))))))
    ·refine sti_cons ?_ (sti_cons ?_ (sti_cons ?_ (sti_cons ?_ (sti_cons ?_ (sti_cons ?_ (sti_cons ?_ (sti_cons ?_ (sti_cons ?_ (sti_cons ?_ (sti_cons ?_ (sti_cons ?_ (sti_cons ?_ sti_nil))))))))))))
     ·refine sti rfl rfl rfl rfl rfl rfl rfl fun a w' hM hI hoff hp K hK => ?_
      have e0 : a.tmps[0]? = some (.pointer (some ⟨b, 0, none⟩)) := (hoff 0 rfl).trans e0
      clear hoff hp
      exact ov  (hK _ _ (Rl.refl _ _) trivial rfl)
     ·refine sti rfl rfl rfl rfl rfl rfl rfl fun a w' hM hI hoff hp K hK => ?_
      obtain ⟨_, e6, rfl⟩ := hp 0 rfl 6 _ rfl rfl
      clear hoff hp
      exact ov  (hK _ _ (Rl.refl _ _) trivial rfl)
     ·refine sti rfl rfl rfl rfl rfl rfl rfl fun a w' hM hI hoff hp K hK => ?_
      obtain ⟨_, e7, rfl⟩ := hp 1 rfl 7 _ rfl rfl
      clear hoff hp
      have hu := Try.underlying50
      exact ov  (hK _ _ (Rl.refl _ _) trivial rfl)
     ·refine sti rfl rfl rfl rfl rfl rfl rfl fun a w' hM hI hoff hp K hK => ?_
      obtain ⟨_, e8, rfl⟩ := hp 2 rfl 8 _ rfl rfl
      clear hoff hp
      have d1 : w'.cell? ⟨b, 1, none⟩ = some (.bool false) := (blk_cell (hM.chg.blk hb (fun h => h)) 1).trans rfl
      exact ov  (hK _ _ (Rl.refl _ _) trivial rfl)
     ·refine sti rfl rfl rfl rfl rfl rfl rfl fun a w' hM hI hoff hp K hK => ?_
      obtain ⟨_, e9, rfl⟩ := hp 3 rfl 9 _ rfl rfl
      clear hoff hp
      exact ov  (hK _ _ (Rl.refl _ _) trivial rfl)
     ·refine stiy 4 rfl rfl rfl rfl rfl rfl rfl rfl rfl rfl rfl fun a w' hM hI hoff hp K hK => ?_
      have e0 : a.tmps[0]? = some (.pointer (some ⟨b, 0, none⟩)) := (hoff 0 rfl).trans e0
      clear hoff hp
      exact ov  (hK _ _ (Rl.refl _ _) trivial rfl)
     ·refine stiy 4 rfl rfl rfl rfl rfl rfl rfl rfl rfl rfl rfl fun a w' hM hI hoff hp K hK => ?_
      obtain ⟨_, e11, rfl⟩ := hp 5 rfl 11 _ rfl rfl
      clear hoff hp
      exact ov  (hK _ _ (Rl.refl _ _) trivial rfl)
     ·refine stiy 4 rfl rfl rfl rfl rfl rfl rfl rfl rfl rfl rfl fun a w' hM hI hoff hp K hK => ?_
      obtain ⟨_, e12, rfl⟩ := hp 6 rfl 12 _ rfl rfl
      clear hoff hp
      have hu := Try.underlying50
      exact ov  (hK _ _ (Rl.refl _ _) trivial rfl)
     ·refine stiy 4 rfl rfl rfl rfl rfl rfl rfl rfl rfl rfl rfl fun a w' hM hI hoff hp K hK => ?_
      obtain ⟨_, e13, rfl⟩ := hp 7 rfl 13 _ rfl rfl
      clear hoff hp
      have d0 : w'.cell? ⟨b, 0, none⟩ = some (v) := (blk_cell (hM.chg.blk hb (fun h => h)) 0).trans rfl
      exact ov  (hK _ _ (Rl.refl _ _) trivial (hv.keep hM.keep))
     ·refine stiy 4 rfl rfl rfl rfl rfl rfl rfl rfl rfl rfl rfl fun a w' hM hI hoff hp K hK => ?_
      obtain ⟨v14, e14, h14⟩ := hp 8 rfl 14 _ rfl rfl
      clear hoff hp
      have hlen := row_len (P := Try.prog) h14 ⟨_, Try.underlying26⟩
      exact ov  (hK _ _ (Rl.refl _ _) trivial rfl)
     ·refine stiy 4 rfl rfl rfl rfl rfl rfl rfl rfl rfl rfl rfl fun a w' hM hI hoff hp K hK => ?_
      have e1 : a.tmps[1]? = some (.int .i64 (n : Int)) := (hoff 1 rfl).trans e1
      clear hoff hp
      exact ov  (hK _ _ (Rl.refl _ _) trivial rfl)
     ·refine stiy 4 rfl rfl rfl rfl rfl rfl rfl rfl rfl rfl rfl fun a w' hM hI hoff hp K hK => ?_
      obtain ⟨_, e15, rfl⟩ := hp 9 rfl 15 _ rfl rfl
      obtain ⟨_, e16, rfl⟩ := hp 10 rfl 16 _ rfl rfl
      clear hoff hp
      have q1 : decide ((l.length : Int) < (n : Int)) = true := by simp; omega
      exact ov  (hK _ _ (Rl.refl _ _) trivial rfl)
     ·refine sti rfl rfl rfl rfl rfl rfl rfl fun a w' hM hI hoff hp K hK => ?_
      obtain ⟨_, e10, rfl⟩ := hp 4 rfl 10 _ rfl rfl
      obtain ⟨_, e17, rfl⟩ := hp 11 rfl 17 _ rfl rfl
      clear hoff hp
      exact ov  (hK _ _ (Rl.refl _ _) trivial rfl)
    intro a2 w2 sz1 df1 hoff hvv hRl hJ
    replace hb := hRl.chg.blk hb (fun h => h.elim)
    replace hv := hv.keep hRl.keep
    replace CH := CH.trans hRl.chg (fun _ _ h => h.elim)
    replace K8 := K8.trans hRl.keep
    obtain ⟨_, e18, rfl⟩ := hvv 12 _ _ rfl rfl
    replace e0 := (hoff 0 rfl).trans e0
    replace e1 := (hoff 1 rfl).trans e1
    replace e4 := (hoff 4 rfl).trans e4
    replace sz := sz1
    replace df := df1.trans df
    have Zw2 : w.heap.size ≤ w2.heap.size := CH.size
    clear sz1 df1 hoff hvv hRl hJ
    refine wpo_all rfl ?_
    refine hKK3 _ _ ?_
    refine wp_cond_true (ev e18) ?_
    refine wp_seq_k fun KK4 hKK4 => ?_
    refine raI (S := fun _ => False) 43 3 sz [19, 20, 21] [isV (.pointer (some ⟨b, 0, none⟩)), isV (.pointer (some ⟨b, 0, none⟩)), isV (.pointer (some ⟨b, 1, none⟩))] [Tr, Tr, Tr, Tr] rfl (by decide) (by decide) (by decide) ?_ ?_ ?_ ?_
    · intro J hJ; cases hJ; exact trivial
    · exact (sr_cons (sr_V _ _) (sr_cons (sr_V _ _) (sr_cons (sr_V _ _) (sr_nil _))))
    ·refine sti_cons ?_ (sti_cons ?_ (sti_cons ?_ sti_nil))
     ·refine sti rfl rfl rfl rfl rfl rfl rfl fun a w' hM hI hoff hp K hK => ?_
      have e0 : a.tmps[0]? = some (.pointer (some ⟨b, 0, none⟩)) := (hoff 0 rfl).trans e0
      clear hoff hp
      exact ov  (hK _ _ (Rl.refl _ _) trivial rfl)
     ·refine sti rfl rfl rfl rfl rfl rfl rfl fun a w' hM hI hoff hp K hK => ?_
      obtain ⟨_, e19, rfl⟩ := hp 0 rfl 19 _ rfl rfl
      clear hoff hp
      exact ov  (hK _ _ (Rl.refl _ _) trivial rfl)
     ·refine sti rfl rfl rfl rfl rfl rfl rfl fun a w' hM hI hoff hp K hK => ?_
      obtain ⟨_, e20, rfl⟩ := hp 1 rfl 20 _ rfl rfl
      clear hoff hp
      have hu := Try.underlying50
      exact ov  (hK _ _ (Rl.refl _ _) trivial rfl)
    intro a3 w3 sz1 df1 hoff hvv hRl hJ
    replace hb := hRl.chg.blk hb (fun h => h.elim)
    replace hv := hv.keep hRl.keep
    replace CH := CH.trans hRl.chg (fun _ _ h => h.elim)
    replace K8 := K8.trans hRl.keep
    obtain ⟨_, e21, rfl⟩ := hvv 2 _ _ rfl rfl
    replace e0 := (hoff 0 rfl).trans e0
    replace e1 := (hoff 1 rfl).trans e1
    replace e4 := (hoff 4 rfl).trans e4
    replace e18 := (hoff 18 rfl).trans e18
    replace sz := sz1
    replace df := df1.trans df
    have Zw3 : w.heap.size ≤ w3.heap.size := CH.size
    clear sz1 df1 hoff hvv hRl hJ
    refine wpo_step 3 _ rfl rfl (og_plain rfl ?_)
    refine op_store_cell 4 _ _ rfl b 1 (.bool true) (ev e21) rfl 50 _ hb (by kernel_rfl) (by simp) rfl (nbl ⟨row_nb hv, rfl, trivial⟩) ?_
    intro w4 H_ hC hK
    change wpOps _ _ _ _ a3 w4
    replace hv := hv.keep hK
    replace CH := CH.trans hC (fun _ _ h => h)
    replace K8 := K8.trans hK
    replace hb : w4.heap[b]? = some (.cells #[v, .bool true] 50 (0, 0)) := H_
    clear hC hK
    have Zw4 : w.heap.size ≤ w4.heap.size := CH.size
    refine wpo_all rfl ?_
    refine hKK4 _ _ ?_
    refine wp_seq_k fun KK5 hKK5 => ?_
    refine raI (S := fun _ => False) 43 4 sz [22, 23, 24, 4] [isV (.int .i64 (n : Int)), isV (.int .i64 ((min n 8 : Nat) : Int)), isRow w4.heap.size (List.replicate (min n 8) 0), isRow w4.heap.size (List.replicate (min n 8) 0)] [Tr, Tr, Tr, Tr, Tr] rfl (by decide) (by decide) (by decide) ?_ ?_ ?_ ?_
    · intro J hJ; cases hJ; exact trivial
    · exact (sr_cons (sr_V _ _) (sr_cons (sr_V _ _) (sr_cons (sr_Row _ _ _) (sr_cons (sr_Row _ _ _) (sr_nil _)))))
    ·refine sti_cons ?_ (sti_cons ?_ (sti_cons ?_ (sti_cons ?_ sti_nil)))
     ·refine sti rfl rfl rfl rfl rfl rfl rfl fun a w' hM hI hoff hp K hK => ?_
      have e1 : a.tmps[1]? = some (.int .i64 (n : Int)) := (hoff 1 rfl).trans e1
      clear hoff hp
      exact ov  (hK _ _ (Rl.refl _ _) trivial rfl)
     ·refine sti rfl rfl rfl rfl rfl rfl rfl fun a w' hM hI hoff hp K hK => ?_
      obtain ⟨_, e22, rfl⟩ := hp 0 rfl 22 _ rfl rfl
      clear hoff hp
      have hmn : (if (8 : Int) < (n : Int) then (8 : Int) else (n : Int)) = ((min n 8 : Nat) : Int) := by split <;> omega
      exact ov  (hK _ _ (Rl.refl _ _) trivial rfl)
     ·refine sti rfl rfl rfl rfl rfl rfl rfl fun a w' hM hI hoff hp K hK => ?_
      obtain ⟨_, e23, rfl⟩ := hp 1 rfl 23 _ rfl rfl
      clear hoff hp
      obtain ⟨w2, hmk, hbl, hR⟩ := mk_row (P := Try.prog) w' (min n 8) Try.underlying26 info5 (by omega)
      exact ov (w' := w2)  (hK _ _ (Rl.of_below hbl) trivial (hR.lower hM.keep.size))
     ·refine sti rfl rfl rfl rfl rfl rfl rfl fun a w' hM hI hoff hp K hK => ?_
      obtain ⟨v24, e24, h24⟩ := hp 2 rfl 24 _ rfl rfl
      clear hoff hp
      exact ov  (hK _ _ (Rl.refl _ _) trivial h24)
    intro a5 w5 sz1 df1 hoff hvv hRl hJ
    replace hb := hRl.chg.blk hb (fun h => h.elim)
    replace hv := hv.keep hRl.keep
    replace CH := CH.trans hRl.chg (fun _ _ h => h.elim)
    replace K8 := K8.trans hRl.keep
    obtain ⟨u4_5, e4, Kr4⟩ := hvv 3 _ _ rfl rfl
    replace Kr4 : Row w4.heap.size w5 u4_5 (List.replicate (min n 8) 0) := Kr4
    replace e0 := (hoff 0 rfl).trans e0
    replace e1 := (hoff 1 rfl).trans e1
    replace e18 := (hoff 18 rfl).trans e18
    replace e21 := (hoff 21 rfl).trans e21
    replace sz := sz1
    replace df := df1.trans df
    have Zw5 : w.heap.size ≤ w5.heap.size := CH.size
    clear sz1 df1 hoff hvv hRl hJ
    refine wpo_all rfl ?_
    refine hKK5 _ _ ?_
    refine wp_ret ?_
    refine then_r ?_
    exact ret1 rfl df e4 ⟨_, rfl, (Kr4.lower Zw4), ⟨_, hb, hv⟩, CH, K8⟩
  · obtain ⟨e1, e2, e3⟩ := tk_ok (n := n) (l := l) (b := false) (by simpa using h2)
    rw [e1, e2, e3]
    clear e1 e2 e3
    have b_lt := blk_lt hb
    refine enterA (n := 43) Try.func36 rfl rfl fun a0 sz df he => ?_
    have e0 : a0.tmps[0]? = some (.pointer (some ⟨b, 0, none⟩)) := he 0 _ rfl
    have e1 : a0.tmps[1]? = some (.int .i64 (n : Int)) := he 1 _ rfl
    clear he
    have CH : Chg (fun x => x = b) w w := Chg.refl _ _
    have K8 : Keep8 w w := Keep8.refl _
    refine wp_seq_k fun KK1 hKK1 => ?_
    refine raI (S := fun _ => False) 43 1 sz [4] [isV (.slice none 0 0)] [Tr, Tr] rfl (by decide) (by decide) (by decide) ?_ ?_ ?_ ?_
    · intro J hJ; cases hJ; exact trivial
    · exact (sr_cons (sr_V _ _) (sr_nil _))
    ·refine sti_cons ?_ sti_nil
     ·refine sti rfl rfl rfl rfl rfl rfl rfl fun a w' hM hI hoff hp K hK => ?_
      clear hoff hp
      exact ov  (hK _ _ (Rl.refl _ _) trivial rfl)
    intro a1 w1 sz1 df1 hoff hvv hRl hJ
    replace hb := hRl.chg.blk hb (fun h => h.elim)
    replace hv := hv.keep hRl.keep
    replace CH := CH.trans hRl.chg (fun _ _ h => h.elim)
    replace K8 := K8.trans hRl.keep
    obtain ⟨_, e4, rfl⟩ := hvv 0 _ _ rfl rfl
    replace e0 := (hoff 0 rfl).trans e0
    replace e1 := (hoff 1 rfl).trans e1
    replace sz := sz1
    replace df := df1.trans df
    have Zw1 : w.heap.size ≤ w1.heap.size := CH.size
    clear sz1 df1 hoff hvv hRl hJ
    refine wpo_all rfl ?_
    refine hKK1 _ _ ?_
    refine wp_seq_k fun KK2 hKK2 => ?_
    refine wp_seq_k fun KK3 hKK3 => ?_
    refine raI (S := fun _ => False) 43 13 sz [6, 7, 8, 9, 10, 11, 12, 13, 14, 15, 16, 17, 18] [isV (.pointer (some ⟨b, 0, none⟩)), isV (.pointer (some ⟨b, 0, none⟩)), isV (.pointer (some ⟨b, 1, none⟩)), isV (.bool false), isV (.bool false), isV (.pointer (some ⟨b, 0, none⟩)), isV (.pointer (some ⟨b, 0, none⟩)), isV (.pointer (some ⟨b, 0, none⟩)), isRow 0 l, isV (.int .i64 (l).length), isV (.int .i64 (n : Int)), isV (.bool false), isV (.bool false)] [Tr, Tr, Tr, Tr, Tr, Tr, Tr, Tr, Tr, Tr, Tr, Tr, Tr, Tr] rfl (by decide) (by decide) (by decide) ?_ ?_ ?_ ?_
    · intro J hJ; cases hJ; exact trivial
    · exact (sr_cons (sr_V _ _) (sr_cons (sr_V _ _) (sr_cons (sr_V _ _) (sr_cons (sr_V _ _) (sr_cons (sr_V _ _) (sr_cons (sr_V _ _) (sr_cons (sr_V _ _) (sr_cons (sr_V _ _) (sr_cons (sr_Row _ _ _) (sr_cons (sr_V _ _) (sr_cons (sr_V _ _) (sr_cons (sr_V _ _) (sr_cons (sr_V _ _) (sr_nil _))))))))))))))
    ·refine sti_cons ?_ (sti_cons ?_ (sti_cons ?_ (sti_cons ?_ (sti_cons ?_ (sti_cons ?_ (sti_cons ?_ (sti_cons ?_ (sti_cons ?_ (sti_cons ?_ (sti_cons ?_ (sti_cons ?_ (sti_cons ?_ sti_nil))))))))))))
     ·refine sti rfl rfl rfl rfl rfl rfl rfl fun a w' hM hI hoff hp K hK => ?_
      have e0 : a.tmps[0]? = some (.pointer (some ⟨b, 0, none⟩)) := (hoff 0 rfl).trans e0
      clear hoff hp
      exact ov  (hK _ _ (Rl.refl _ _) trivial rfl)
     ·refine sti rfl rfl rfl rfl rfl rfl rfl fun a w' hM hI hoff hp K hK => ?_
      obtain ⟨_, e6, rfl⟩ := hp 0 rfl 6 _ rfl rfl
      clear hoff hp
      exact ov  (hK _ _ (Rl.refl _ _) trivial rfl)
     ·refine sti rfl rfl rfl rfl rfl rfl rfl fun a w' hM hI hoff hp K hK => ?_
      obtain ⟨_, e7, rfl⟩ := hp 1 rfl 7 _ rfl rfl
      clear hoff hp
      have hu := Try.underlying50
      exact ov  (hK _ _ (Rl.refl _ _) trivial rfl)
     ·refine sti rfl rfl rfl rfl rfl rfl rfl fun a w' hM hI hoff hp K hK => ?_
      obtain ⟨_, e8, rfl⟩ := hp 2 rfl 8 _ rfl rfl
      clear hoff hp
      have d1 : w'.cell? ⟨b, 1, none⟩ = some (.bool false) := (blk_cell (hM.chg.blk hb (fun h => h)) 1).trans rfl
      exact ov  (hK _ _ (Rl.refl _ _) trivial rfl)
     ·refine sti rfl rfl rfl rfl rfl rfl rfl fun a w' hM hI hoff hp K hK => ?_
      obtain ⟨_, e9, rfl⟩ := hp 3 rfl 9 _ rfl rfl
      clear hoff hp
      exact ov  (hK _ _ (Rl.refl _ _) trivial rfl)
     ·refine stiy 4 rfl rfl rfl rfl rfl rfl rfl rfl rfl rfl rfl fun a w' hM hI hoff hp K hK => ?_
      have e0 : a.tmps[0]? = some (.pointer (some ⟨b, 0, none⟩)) := (hoff 0 rfl).trans e0
      clear hoff hp
      exact ov  (hK _ _ (Rl.refl _ _) trivial rfl)
     ·refine stiy 4 rfl rfl rfl rfl rfl rfl rfl rfl rfl rfl rfl fun a w' hM hI hoff hp K hK => ?_
      obtain ⟨_, e11, rfl⟩ := hp 5 rfl 11 _ rfl rfl
      clear hoff hp
      exact ov  (hK _ _ (Rl.refl _ _) trivial rfl)
     ·refine stiy 4 rfl rfl rfl rfl rfl rfl rfl rfl rfl rfl rfl fun a w' hM hI hoff hp K hK => ?_
      obtain ⟨_, e12, rfl⟩ := hp 6 rfl 12 _ rfl rfl
      clear hoff hp
      have hu := Try.underlying50
      exact ov  (hK _ _ (Rl.refl _ _) trivial rfl)
     ·refine stiy 4 rfl rfl rfl rfl rfl rfl rfl rfl rfl rfl rfl fun a w' hM hI hoff hp K hK => ?_
      obtain ⟨_, e13, rfl⟩ := hp 7 rfl 13 _ rfl rfl
      clear hoff hp
      have d0 : w'.cell? ⟨b, 0, none⟩ = some (v) := (blk_cell (hM.chg.blk hb (fun h => h)) 0).trans rfl
      exact ov  (hK _ _ (Rl.refl _ _) trivial (hv.keep hM.keep))
     ·refine stiy 4 rfl rfl rfl rfl rfl rfl rfl rfl rfl rfl rfl fun a w' hM hI hoff hp K hK => ?_
      obtain ⟨v14, e14, h14⟩ := hp 8 rfl 14 _ rfl rfl
      clear hoff hp
      have hlen := row_len (P := Try.prog) h14 ⟨_, Try.underlying26⟩
      exact ov  (hK _ _ (Rl.refl _ _) trivial rfl)
     ·refine stiy 4 rfl rfl rfl rfl rfl rfl rfl rfl rfl rfl rfl fun a w' hM hI hoff hp K hK => ?_
      have e1 : a.tmps[1]? = some (.int .i64 (n : Int)) := (hoff 1 rfl).trans e1
      clear hoff hp
      exact ov  (hK _ _ (Rl.refl _ _) trivial rfl)
     ·refine stiy 4 rfl rfl rfl rfl rfl rfl rfl rfl rfl rfl rfl fun a w' hM hI hoff hp K hK => ?_
      obtain ⟨_, e15, rfl⟩ := hp 9 rfl 15 _ rfl rfl
      obtain ⟨_, e16, rfl⟩ := hp 10 rfl 16 _ rfl rfl
      clear hoff hp
      have q1 : decide ((l.length : Int) < (n : Int)) = false := by simp; omega
      exact ov  (hK _ _ (Rl.refl _ _) trivial rfl)
     ·refine sti rfl rfl rfl rfl rfl rfl rfl fun a w' hM hI hoff hp K hK => ?_
      obtain ⟨_, e10, rfl⟩ := hp 4 rfl 10 _ rfl rfl
      obtain ⟨_, e17, rfl⟩ := hp 11 rfl 17 _ rfl rfl
      clear hoff hp
      exact ov  (hK _ _ (Rl.refl _ _) trivial rfl)
    intro a2 w2 sz1 df1 hoff hvv hRl hJ
    replace hb := hRl.chg.blk hb (fun h => h.elim)
    replace hv := hv.keep hRl.keep
    replace CH := CH.trans hRl.chg (fun _ _ h => h.elim)
    replace K8 := K8.trans hRl.keep
    obtain ⟨_, e18, rfl⟩ := hvv 12 _ _ rfl rfl
    replace e0 := (hoff 0 rfl).trans e0
    replace e1 := (hoff 1 rfl).trans e1
    replace e4 := (hoff 4 rfl).trans e4
    replace sz := sz1
    replace df := df1.trans df
    have Zw2 : w.heap.size ≤ w2.heap.size := CH.size
    clear sz1 df1 hoff hvv hRl hJ
    refine wpo_all rfl ?_
    refine hKK3 _ _ ?_
    refine wp_cond_false (ev e18) ?_
    refine wp_skip ?_
    refine hKK2 _ _ ?_
    refine wp_seq_k fun KK4 hKK4 => ?_
    refine raI (S := fun _ => False) 43 9 sz [25, 26, 27, 28, 29, 30, 31, 32, 5] [isV (.pointer (some ⟨b, 0, none⟩)), isV (.pointer (some ⟨b, 0, none⟩)), isV (.pointer (some ⟨b, 0, none⟩)), isRow 0 l, isV (.int .i64 (n : Int)), isRow 0 (l.take n), isRowsS (fun _ => False) [l.take n], isRow w2.heap.size (l.take n), isRow w2.heap.size (l.take n)] [Tr, Tr, Tr, Tr, Tr, Tr, Tr, Tr, Tr, Tr] rfl (by decide) (by decide) (by decide) ?_ ?_ ?_ ?_
    · intro J hJ; cases hJ; exact trivial
    · exact (sr_cons (sr_V _ _) (sr_cons (sr_V _ _) (sr_cons (sr_V _ _) (sr_cons (sr_Row _ _ _) (sr_cons (sr_V _ _) (sr_cons (sr_Row _ _ _) (sr_cons (sr_Rows _ _) (sr_cons (sr_Row _ _ _) (sr_cons (sr_Row _ _ _) (sr_nil _))))))))))
    ·refine sti_cons ?_ (sti_cons ?_ (sti_cons ?_ (sti_cons ?_ (sti_cons ?_ (sti_cons ?_ (sti_cons ?_ (sti_cons ?_ (sti_cons ?_ sti_nil))))))))
     ·refine sti rfl rfl rfl rfl rfl rfl rfl fun a w' hM hI hoff hp K hK => ?_
      have e0 : a.tmps[0]? = some (.pointer (some ⟨b, 0, none⟩)) := (hoff 0 rfl).trans e0
      clear hoff hp
      exact ov  (hK _ _ (Rl.refl _ _) trivial rfl)
     ·refine sti rfl rfl rfl rfl rfl rfl rfl fun a w' hM hI hoff hp K hK => ?_
      obtain ⟨_, e25, rfl⟩ := hp 0 rfl 25 _ rfl rfl
      clear hoff hp
      exact ov  (hK _ _ (Rl.refl _ _) trivial rfl)
     ·refine sti rfl rfl rfl rfl rfl rfl rfl fun a w' hM hI hoff hp K hK => ?_
      obtain ⟨_, e26, rfl⟩ := hp 1 rfl 26 _ rfl rfl
      clear hoff hp
      have hu := Try.underlying50
      exact ov  (hK _ _ (Rl.refl _ _) trivial rfl)
     ·refine sti rfl rfl rfl rfl rfl rfl rfl fun a w' hM hI hoff hp K hK => ?_
      obtain ⟨_, e27, rfl⟩ := hp 2 rfl 27 _ rfl rfl
      clear hoff hp
      have d0 : w'.cell? ⟨b, 0, none⟩ = some (v) := (blk_cell (hM.chg.blk hb (fun h => h)) 0).trans rfl
      exact ov  (hK _ _ (Rl.refl _ _) trivial (hv.keep hM.keep))
     ·refine sti rfl rfl rfl rfl rfl rfl rfl fun a w' hM hI hoff hp K hK => ?_
      have e1 : a.tmps[1]? = some (.int .i64 (n : Int)) := (hoff 1 rfl).trans e1
      clear hoff hp
      exact ov  (hK _ _ (Rl.refl _ _) trivial rfl)
     ·refine sti rfl rfl rfl rfl rfl rfl rfl fun a w' hM hI hoff hp K hK => ?_
      obtain ⟨v28, e28, h28⟩ := hp 3 rfl 28 _ rfl rfl
      obtain ⟨_, e29, rfl⟩ := hp 4 rfl 29 _ rfl rfl
      clear hoff hp
      obtain ⟨v', hrun, hR⟩ := row_take (P := Try.prog) h28 26 5 Try.underlying26 size5 (n : Int) (by omega) (by omega)
      have hsl := hrun w'
      exact ov (v := v')  (hK _ _ (Rl.refl _ _) trivial hR)
     ·refine sti rfl rfl rfl rfl rfl rfl rfl fun a w' hM hI hoff hp K hK => ?_
      obtain ⟨v30, e30, h30⟩ := hp 5 rfl 30 _ rfl rfl
      clear hoff hp
      have k30 := h30.lower (Nat.zero_le _)
      obtain ⟨X30, y30, rfl, _, _, _⟩ := h30
      refine ov (v := .slice (some ⟨w'.heap.size, 0, none⟩) 1 1) (w' := w'.alloc (.cells #[.slice X30 (l.take n).length y30] 26))  (hK _ _ (Rl.alloc _ _ _) trivial ?_)
      exact isRowsS.of (RowsB.lit (l := [l.take n]) (vs := #[.slice X30 (l.take n).length y30]) (RowL.cons k30 (RowL.nil _)) (by simp)) (fun h => h) (by rw [World.size_alloc]; omega)
     ·refine sti rfl rfl rfl rfl rfl rfl rfl fun a w' hM hI hoff hp K hK => ?_
      obtain ⟨v31, e31, h31⟩ := hp 6 rfl 31 _ rfl rfl
      clear hoff hp
      refine op_call Try.func26 (by kernel_rfl) rfl #[v31] rfl (by simp [Act.eval, e31]) ((join_calls _ (by simp) (by simp; omega) _ _ h31.rows).mono (fun e w' h => by simpa using h)) ?_
      rintro e w1 ⟨u, rfl, hR, hb⟩
      exact ⟨u, rfl, hK _ _ (Rl.of_below hb) trivial (hR.lower hM.keep.size)⟩
     ·refine sti rfl rfl rfl rfl rfl rfl rfl fun a w' hM hI hoff hp K hK => ?_
      obtain ⟨v32, e32, h32⟩ := hp 7 rfl 32 _ rfl rfl
      clear hoff hp
      exact ov  (hK _ _ (Rl.refl _ _) trivial h32)
    intro a3 w3 sz1 df1 hoff hvv hRl hJ
    replace hb := hRl.chg.blk hb (fun h => h.elim)
    replace hv := hv.keep hRl.keep
    replace CH := CH.trans hRl.chg (fun _ _ h => h.elim)
    replace K8 := K8.trans hRl.keep
    obtain ⟨u5_3, e5, Kr5⟩ := hvv 8 _ _ rfl rfl
    replace Kr5 : Row w2.heap.size w3 u5_3 (l.take n) := Kr5
    replace e0 := (hoff 0 rfl).trans e0
    replace e1 := (hoff 1 rfl).trans e1
    replace e4 := (hoff 4 rfl).trans e4
    replace e18 := (hoff 18 rfl).trans e18
    replace sz := sz1
    replace df := df1.trans df
    have Zw3 : w.heap.size ≤ w3.heap.size := CH.size
    clear sz1 df1 hoff hvv hRl hJ
    refine wpo_all rfl ?_
    refine hKK4 _ _ ?_
    refine wp_seq_k fun KK5 hKK5 => ?_
    refine raI (S := fun _ => False) 43 9 sz [33, 34, 35, 36, 37, 38, 39, 40, 41] [isV (.pointer (some ⟨b, 0, none⟩)), isV (.pointer (some ⟨b, 0, none⟩)), isV (.pointer (some ⟨b, 0, none⟩)), isV (.pointer (some ⟨b, 0, none⟩)), isRow 0 l, isV (.int .i64 (n : Int)), isRow 0 (l.drop n), isV (.pointer (some ⟨b, 0, none⟩)), isV (.pointer (some ⟨b, 0, none⟩))] [Tr, Tr, Tr, Tr, Tr, Tr, Tr, Tr, Tr, Tr] rfl (by decide) (by decide) (by decide) ?_ ?_ ?_ ?_
    · intro J hJ; cases hJ; exact trivial
    · exact (sr_cons (sr_V _ _) (sr_cons (sr_V _ _) (sr_cons (sr_V _ _) (sr_cons (sr_V _ _) (sr_cons (sr_Row _ _ _) (sr_cons (sr_V _ _) (sr_cons (sr_Row _ _ _) (sr_cons (sr_V _ _) (sr_cons (sr_V _ _) (sr_nil _))))))))))
    ·refine sti_cons ?_ (sti_cons ?_ (sti_cons ?_ (sti_cons ?_ (sti_cons ?_ (sti_cons ?_ (sti_cons ?_ (sti_cons ?_ (sti_cons ?_ sti_nil))))))))
     ·refine sti rfl rfl rfl rfl rfl rfl rfl fun a w' hM hI hoff hp K hK => ?_
      have e0 : a.tmps[0]? = some (.pointer (some ⟨b, 0, none⟩)) := (hoff 0 rfl).trans e0
      clear hoff hp
      exact ov  (hK _ _ (Rl.refl _ _) trivial rfl)
     ·refine sti rfl rfl rfl rfl rfl rfl rfl fun a w' hM hI hoff hp K hK => ?_
      have e0 : a.tmps[0]? = some (.pointer (some ⟨b, 0, none⟩)) := (hoff 0 rfl).trans e0
      clear hoff hp
      exact ov  (hK _ _ (Rl.refl _ _) trivial rfl)
     ·refine sti rfl rfl rfl rfl rfl rfl rfl fun a w' hM hI hoff hp K hK => ?_
      obtain ⟨_, e34, rfl⟩ := hp 1 rfl 34 _ rfl rfl
      clear hoff hp
      exact ov  (hK _ _ (Rl.refl _ _) trivial rfl)
     ·refine sti rfl rfl rfl rfl rfl rfl rfl fun a w' hM hI hoff hp K hK => ?_
      obtain ⟨_, e35, rfl⟩ := hp 2 rfl 35 _ rfl rfl
      clear hoff hp
      have hu := Try.underlying50
      exact ov  (hK _ _ (Rl.refl _ _) trivial rfl)
     ·refine sti rfl rfl rfl rfl rfl rfl rfl fun a w' hM hI hoff hp K hK => ?_
      obtain ⟨_, e36, rfl⟩ := hp 3 rfl 36 _ rfl rfl
      clear hoff hp
      have d0 : w'.cell? ⟨b, 0, none⟩ = some (v) := (blk_cell (hM.chg.blk hb (fun h => h)) 0).trans rfl
      exact ov  (hK _ _ (Rl.refl _ _) trivial (hv.keep hM.keep))
     ·refine sti rfl rfl rfl rfl rfl rfl rfl fun a w' hM hI hoff hp K hK => ?_
      have e1 : a.tmps[1]? = some (.int .i64 (n : Int)) := (hoff 1 rfl).trans e1
      clear hoff hp
      exact ov  (hK _ _ (Rl.refl _ _) trivial rfl)
     ·refine sti rfl rfl rfl rfl rfl rfl rfl fun a w' hM hI hoff hp K hK => ?_
      obtain ⟨v37, e37, h37⟩ := hp 4 rfl 37 _ rfl rfl
      obtain ⟨_, e38, rfl⟩ := hp 5 rfl 38 _ rfl rfl
      clear hoff hp
      obtain ⟨v', hrun, hR⟩ := row_drop (P := Try.prog) h37 26 5 Try.underlying26 size5 (n : Int) (by omega) (by omega)
      have hsl := hrun w'
      exact ov (v := v')  (hK _ _ (Rl.refl _ _) trivial hR)
     ·refine sti rfl rfl rfl rfl rfl rfl rfl fun a w' hM hI hoff hp K hK => ?_
      obtain ⟨_, e33, rfl⟩ := hp 0 rfl 33 _ rfl rfl
      clear hoff hp
      exact ov  (hK _ _ (Rl.refl _ _) trivial rfl)
     ·refine sti rfl rfl rfl rfl rfl rfl rfl fun a w' hM hI hoff hp K hK => ?_
      obtain ⟨_, e40, rfl⟩ := hp 7 rfl 40 _ rfl rfl
      clear hoff hp
      have hu := Try.underlying50
      exact ov  (hK _ _ (Rl.refl _ _) trivial rfl)
    intro a4 w4 sz1 df1 hoff hvv hRl hJ
    replace hb := hRl.chg.blk hb (fun h => h.elim)
    replace hv := hv.keep hRl.keep
    replace Kr5 := Kr5.keep hRl.keep
    replace CH := CH.trans hRl.chg (fun _ _ h => h.elim)
    replace K8 := K8.trans hRl.keep
    obtain ⟨u39_4, e39, Kr39⟩ := hvv 6 _ _ rfl rfl
    replace Kr39 : Row 0 w4 u39_4 (l.drop n) := Kr39
    obtain ⟨_, e41, rfl⟩ := hvv 8 _ _ rfl rfl
    replace e0 := (hoff 0 rfl).trans e0
    replace e1 := (hoff 1 rfl).trans e1
    replace e4 := (hoff 4 rfl).trans e4
    replace e18 := (hoff 18 rfl).trans e18
    replace e5 := (hoff 5 rfl).trans e5
    replace sz := sz1
    replace df := df1.trans df
    have Zw4 : w.heap.size ≤ w4.heap.size := CH.size
    clear sz1 df1 hoff hvv hRl hJ
    refine wpo_step 9 _ rfl rfl (og_plain rfl ?_)
    refine op_store_cell 26 _ _ rfl b 0 (u39_4) (ev e41) (ev e39) 50 _ hb (by kernel_rfl) (by simp) (row_one Kr39) (nbl ⟨row_nb hv, rfl, trivial⟩) ?_
    intro w5 H_ hC hK
    change wpOps _ _ _ _ a4 w5
    replace hv := hv.keep hK
    replace Kr5 := Kr5.keep hK
    replace Kr39 := Kr39.keep hK
    replace CH := CH.trans hC (fun _ _ h => h)
    replace K8 := K8.trans hK
    replace hb : w5.heap[b]? = some (.cells #[u39_4, .bool false] 50 (0, 0)) := H_
    clear hC hK
    have Zw5 : w.heap.size ≤ w5.heap.size := CH.size
    refine wpo_all rfl ?_
    refine hKK5 _ _ ?_
    refine wp_seq_k fun KK6 hKK6 => ?_
    refine raI (S := fun _ => False) 43 2 sz [42, 4] [isV (u5_3), isV (u5_3)] [Tr, Tr, Tr] rfl (by decide) (by decide) (by decide) ?_ ?_ ?_ ?_
    · intro J hJ; cases hJ; exact trivial
    · exact (sr_cons (sr_V _ _) (sr_cons (sr_V _ _) (sr_nil _)))
    ·refine sti_cons ?_ (sti_cons ?_ sti_nil)
     ·refine sti rfl rfl rfl rfl rfl rfl rfl fun a w' hM hI hoff hp K hK => ?_
      have e5 : a.tmps[5]? = some (u5_3) := (hoff 5 rfl).trans e5
      clear hoff hp
      exact ov  (hK _ _ (Rl.refl _ _) trivial rfl)
     ·refine sti rfl rfl rfl rfl rfl rfl rfl fun a w' hM hI hoff hp K hK => ?_
      obtain ⟨v42, e42, ev42⟩ := hp 0 rfl 42 _ rfl rfl
      replace e42 : a.tmps[42]? = some (u5_3) := e42.trans (congrArg some (show v42 = u5_3 from ev42))
      clear ev42 v42
      clear hoff hp
      exact ov  (hK _ _ (Rl.refl _ _) trivial rfl)
    intro a6 w6 sz1 df1 hoff hvv hRl hJ
    replace hb := hRl.chg.blk hb (fun h => h.elim)
    replace hv := hv.keep hRl.keep
    replace Kr5 := Kr5.keep hRl.keep
    replace Kr39 := Kr39.keep hRl.keep
    replace CH := CH.trans hRl.chg (fun _ _ h => h.elim)
    replace K8 := K8.trans hRl.keep
    obtain ⟨v_, e4, ev_⟩ := hvv 1 _ _ rfl rfl
    replace e4 : a6.tmps[4]? = some (u5_3) := e4.trans (congrArg some (show v_ = u5_3 from ev_))
    clear ev_ v_
    replace e0 := (hoff 0 rfl).trans e0
    replace e1 := (hoff 1 rfl).trans e1
    replace e18 := (hoff 18 rfl).trans e18
    replace e5 := (hoff 5 rfl).trans e5
    replace e39 := (hoff 39 rfl).trans e39
    replace e41 := (hoff 41 rfl).trans e41
    replace sz := sz1
    replace df := df1.trans df
    have Zw6 : w.heap.size ≤ w6.heap.size := CH.size
    clear sz1 df1 hoff hvv hRl hJ
    refine wpo_all rfl ?_
    refine hKK6 _ _ ?_
    refine wp_ret ?_
    exact ret1 rfl df e4 ⟨_, rfl, (Kr5.lower Zw2), ⟨_, hb, Kr39⟩, CH, K8⟩
set_option maxHeartbeats 1000000 in
set_option maxRecDepth 100000 in
theorem number_calls (b n : Nat) (h1 : 1 ≤ n) (h8 : n ≤ 8) (l : List Int) (hbl : Byt l) (hl : l.length < 100000) (bad : Bool) (w : World) (hr : Rd b w l bad) : RetS 34 b n w (isV (.int .u64 (nmv n l bad))) (tkr n l bad) (tkb n l bad) := by
  have b_lt := hr.lt
  refine enterA (n := 15) Try.func34 rfl rfl fun a0 sz df he => ?_
  have e0 : a0.tmps[0]? = some (.pointer (some ⟨b, 0, none⟩)) := he 0 _ rfl
  have e1 : a0.tmps[1]? = some (.int .i64 (n : Int)) := he 1 _ rfl
  clear he
  have CH : Chg (fun x => x = b) w w := Chg.refl _ _
  have K8 : Keep8 w w := Keep8.refl _
  refine wp_seq_k fun KK1 hKK1 => ?_
  refine raI (S := fun _ => False) 15 1 sz [4] [isV (.int .u64 0)] [Tr, Tr] rfl (by decide) (by decide) (by decide) ?_ ?_ ?_ ?_
  · intro J hJ; cases hJ; exact trivial
  · exact (sr_cons (sr_V _ _) (sr_nil _))
  ·refine sti_cons ?_ sti_nil
   ·refine sti rfl rfl rfl rfl rfl rfl rfl fun a w' hM hI hoff hp K hK => ?_
    clear hoff hp
    exact ov  (hK _ _ (Rl.refl _ _) trivial rfl)
  intro a1 w1 sz1 df1 hoff hvv hRl hJ
  replace hr := Rd.chg hr hRl.chg hRl.keep (fun h => h.elim)
  replace CH := CH.trans hRl.chg (fun _ _ h => h.elim)
  replace K8 := K8.trans hRl.keep
  obtain ⟨_, e4, rfl⟩ := hvv 0 _ _ rfl rfl
  replace e0 := (hoff 0 rfl).trans e0
  replace e1 := (hoff 1 rfl).trans e1
  replace sz := sz1
  replace df := df1.trans df
  have Zw1 : w.heap.size ≤ w1.heap.size := CH.size
  clear sz1 df1 hoff hvv hRl hJ
  refine wpo_all rfl ?_
  refine hKK1 _ _ ?_
  refine wp_seq_k fun KK2 hKK2 => ?_
  have L2_b := hr.lt
  refine raI (S := fun x => x = b) 15 9 sz [8, 9, 10, 11, 7, 12, 13, 5, 6] [isV (.pointer (some ⟨b, 0, none⟩)), isV (.int .i64 (n : Int)), isRow w1.heap.size (tkv n l bad), isV (.tuple #[.int .u64 (nmv n l bad), .int .i64 0]), isV (.tuple #[.int .u64 (nmv n l bad), .int .i64 0]), isV (.int .u64 (nmv n l bad)), isV (.int .i64 0), isV (.int .u64 (nmv n l bad)), isV (.int .i64 0)] [RdJ b l bad, RdJ b l bad, RdJ b l bad, RdJ b (tkr n l bad) (tkb n l bad), RdJ b (tkr n l bad) (tkb n l bad), RdJ b (tkr n l bad) (tkb n l bad), RdJ b (tkr n l bad) (tkb n l bad), RdJ b (tkr n l bad) (tkb n l bad), RdJ b (tkr n l bad) (tkb n l bad), RdJ b (tkr n l bad) (tkb n l bad)] rfl (by decide) (by decide) (by decide) ?_ ?_ ?_ ?_
  · intro J hJ; cases hJ; exact hr
  · exact (sr_cons (sr_V _ _) (sr_cons (sr_V _ _) (sr_cons (sr_Row _ _ _) (sr_cons (sr_V _ _) (sr_cons (sr_V _ _) (sr_cons (sr_V _ _) (sr_cons (sr_V _ _) (sr_cons (sr_V _ _) (sr_cons (sr_V _ _) (sr_nil _))))))))))
  ·refine sti_cons ?_ (sti_cons ?_ (sti_cons ?_ (sti_cons ?_ (sti_cons ?_ (sti_cons ?_ (sti_cons ?_ (sti_cons ?_ (sti_cons ?_ sti_nil))))))))
   ·refine sti rfl rfl rfl rfl rfl rfl rfl fun a w' hM hI hoff hp K hK => ?_
    have e0 : a.tmps[0]? = some (.pointer (some ⟨b, 0, none⟩)) := (hoff 0 rfl).trans e0
    clear hoff hp
    exact ov  (hK _ _ (Rl.refl _ _) hI rfl)
   ·refine sti rfl rfl rfl rfl rfl rfl rfl fun a w' hM hI hoff hp K hK => ?_
    have e1 : a.tmps[1]? = some (.int .i64 (n : Int)) := (hoff 1 rfl).trans e1
    clear hoff hp
    exact ov  (hK _ _ (Rl.refl _ _) hI rfl)
   ·refine sti rfl rfl rfl rfl rfl rfl rfl fun a w' hM hI hoff hp K hK => ?_
    obtain ⟨_, e8, rfl⟩ := hp 0 rfl 8 _ rfl rfl
    obtain ⟨_, e9, rfl⟩ := hp 1 rfl 9 _ rfl rfl
    clear hoff hp
    refine op_call Try.func36 (by kernel_rfl) rfl #[.pointer (some ⟨b, 0, none⟩), .int .i64 (n : Int)] rfl (by simp [Act.eval, e8, e9]) (take_calls b n (by omega) _ (by first | omega | (have := tkr_len 2 l bad; omega)) _ _ hI) ?_
    rintro e w1 ⟨u, rfl, hR, hI2, hc, hk⟩
    exact ⟨u, rfl, hK _ _ ⟨hk, hc⟩ hI2 (hR.lower hM.keep.size)⟩
   ·refine sti rfl rfl rfl rfl rfl rfl rfl fun a w' hM hI hoff hp K hK => ?_
    obtain ⟨v10, e10, h10⟩ := hp 2 rfl 10 _ rfl rfl
    clear hoff hp
    refine op_call Try.func44 (by kernel_rfl) rfl #[v10] rfl (by simp [Act.eval, e10]) (bigof_calls _ (tkv_byt hbl) (by rw [tkv_len _ _ h8]; exact h1) (by rw [tkv_len _ _ h8]; exact h8) _ _ h10) ?_
    rintro e w1 ⟨u, rfl, hR, hb⟩
    exact ⟨u, rfl, hK _ _ (Rl.of_below hb) (Rd.below hI hb) hR⟩
   ·refine sti rfl rfl rfl rfl rfl rfl rfl fun a w' hM hI hoff hp K hK => ?_
    obtain ⟨_, e11, rfl⟩ := hp 3 rfl 11 _ rfl rfl
    clear hoff hp
    exact ov  (hK _ _ (Rl.refl _ _) hI rfl)
   ·refine sti rfl rfl rfl rfl rfl rfl rfl fun a w' hM hI hoff hp K hK => ?_
    obtain ⟨_, e7, rfl⟩ := hp 4 rfl 7 _ rfl rfl
    clear hoff hp
    exact ov  (hK _ _ (Rl.refl _ _) hI rfl)
   ·refine sti rfl rfl rfl rfl rfl rfl rfl fun a w' hM hI hoff hp K hK => ?_
    obtain ⟨_, e7, rfl⟩ := hp 4 rfl 7 _ rfl rfl
    clear hoff hp
    exact ov  (hK _ _ (Rl.refl _ _) hI rfl)
   ·refine sti rfl rfl rfl rfl rfl rfl rfl fun a w' hM hI hoff hp K hK => ?_
    obtain ⟨_, e12, rfl⟩ := hp 5 rfl 12 _ rfl rfl
    clear hoff hp
    exact ov  (hK _ _ (Rl.refl _ _) hI rfl)
   ·refine sti rfl rfl rfl rfl rfl rfl rfl fun a w' hM hI hoff hp K hK => ?_
    obtain ⟨_, e13, rfl⟩ := hp 6 rfl 13 _ rfl rfl
    clear hoff hp
    exact ov  (hK _ _ (Rl.refl _ _) hI rfl)
  intro a2 w2 sz1 df1 hoff hvv hRl hJ
  replace hJ := hJ _ rfl
  replace CH := CH.trans hRl.chg (fun _ _ h => h)
  replace K8 := K8.trans hRl.keep
  have hr := hJ
  obtain ⟨_, e5, rfl⟩ := hvv 7 _ _ rfl rfl
  replace e0 := (hoff 0 rfl).trans e0
  replace e1 := (hoff 1 rfl).trans e1
  replace e4 := (hoff 4 rfl).trans e4
  replace sz := sz1
  replace df := df1.trans df
  have Zw2 : w.heap.size ≤ w2.heap.size := CH.size
  clear sz1 df1 hoff hvv hRl hJ L2_b
  refine wpo_all rfl ?_
  refine hKK2 _ _ ?_
  refine wp_seq_k fun KK3 hKK3 => ?_
  refine raI (S := fun _ => False) 15 2 sz [14, 4] [isV (.int .u64 (nmv n l bad)), isV (.int .u64 (nmv n l bad))] [Tr, Tr, Tr] rfl (by decide) (by decide) (by decide) ?_ ?_ ?_ ?_
  · intro J hJ; cases hJ; exact trivial
  · exact (sr_cons (sr_V _ _) (sr_cons (sr_V _ _) (sr_nil _)))
  ·refine sti_cons ?_ (sti_cons ?_ sti_nil)
   ·refine sti rfl rfl rfl rfl rfl rfl rfl fun a w' hM hI hoff hp K hK => ?_
    have e5 : a.tmps[5]? = some (.int .u64 (nmv n l bad)) := (hoff 5 rfl).trans e5
    clear hoff hp
    exact ov  (hK _ _ (Rl.refl _ _) trivial rfl)
   ·refine sti rfl rfl rfl rfl rfl rfl rfl fun a w' hM hI hoff hp K hK => ?_
    obtain ⟨_, e14, rfl⟩ := hp 0 rfl 14 _ rfl rfl
    clear hoff hp
    exact ov  (hK _ _ (Rl.refl _ _) trivial rfl)
  intro a3 w3 sz1 df1 hoff hvv hRl hJ
  replace hr := Rd.chg hr hRl.chg hRl.keep (fun h => h.elim)
  replace CH := CH.trans hRl.chg (fun _ _ h => h.elim)
  replace K8 := K8.trans hRl.keep
  obtain ⟨_, e4, rfl⟩ := hvv 1 _ _ rfl rfl
  replace e0 := (hoff 0 rfl).trans e0
  replace e1 := (hoff 1 rfl).trans e1
  replace e5 := (hoff 5 rfl).trans e5
  replace sz := sz1
  replace df := df1.trans df
  have Zw3 : w.heap.size ≤ w3.heap.size := CH.size
  clear sz1 df1 hoff hvv hRl hJ
  refine wpo_all rfl ?_
  refine hKK3 _ _ ?_
  refine wp_ret ?_
  exact ret1 rfl df e4 ⟨_, rfl, rfl, hr, CH, K8⟩
/-- A text: what comes behind its number. -/
def txn (l : List Int) (b : Bool) : Nat := (nmv 2 l b).toNat
def txv (l : List Int) (b : Bool) : List Int := tkv (txn l b) (tkr 2 l b) (tkb 2 l b)
def txr (l : List Int) (b : Bool) : List Int := tkr (txn l b) (tkr 2 l b) (tkb 2 l b)
def txb (l : List Int) (b : Bool) : Bool := tkb (txn l b) (tkr 2 l b) (tkb 2 l b)
set_option maxHeartbeats 1000000 in
set_option maxRecDepth 100000 in
theorem text_rd (b : Nat) (l : List Int) (hbl : Byt l) (hl : l.length < 100000) (bad : Bool) (w : World) (hr : Rd b w l bad) : RetS 35 b 2 w (isRow w.heap.size (txv l bad)) (txr l bad) (txb l bad) := by
  obtain ⟨n, hn⟩ : ∃ n, n = txn l bad := ⟨_, rfl⟩
  have hrg := nmv_range (n := 2) bad hbl (by decide)
  have hnn : nmv 2 l bad = (n : Int) := by rw [hn]; unfold txn; omega
  have hn6 : n < 65536 := by omega
  unfold txv txr txb
  rw [← hn]
  clear hn
  have hwn : IntKind.i64.wrap (n : Int) = (n : Int) := i64wrap (by omega) (by omega)
  have b_lt := hr.lt
  refine enterA (n := 11) Try.func35 rfl rfl fun a0 sz df he => ?_
  have e0 : a0.tmps[0]? = some (.pointer (some ⟨b, 0, none⟩)) := he 0 _ rfl
  have e1 : a0.tmps[1]? = some (.int .i64 ((2 : Nat) : Int)) := he 1 _ rfl
  clear he
  have CH : Chg (fun x => x = b) w w := Chg.refl _ _
  have K8 : Keep8 w w := Keep8.refl _
  refine wp_seq_k fun KK1 hKK1 => ?_
  refine raI (S := fun _ => False) 11 1 sz [4] [isV (.slice none 0 0)] [Tr, Tr] rfl (by decide) (by decide) (by decide) ?_ ?_ ?_ ?_
  · intro J hJ; cases hJ; exact trivial
  · exact (sr_cons (sr_V _ _) (sr_nil _))
  ·refine sti_cons ?_ sti_nil
   ·refine sti rfl rfl rfl rfl rfl rfl rfl fun a w' hM hI hoff hp K hK => ?_
    clear hoff hp
    exact ov  (hK _ _ (Rl.refl _ _) trivial rfl)
  intro a1 w1 sz1 df1 hoff hvv hRl hJ
  replace hr := Rd.chg hr hRl.chg hRl.keep (fun h => h.elim)
  replace CH := CH.trans hRl.chg (fun _ _ h => h.elim)
  replace K8 := K8.trans hRl.keep
  obtain ⟨_, e4, rfl⟩ := hvv 0 _ _ rfl rfl
  replace e0 := (hoff 0 rfl).trans e0
  replace e1 := (hoff 1 rfl).trans e1
  replace sz := sz1
  replace df := df1.trans df
  have Zw1 : w.heap.size ≤ w1.heap.size := CH.size
  clear sz1 df1 hoff hvv hRl hJ
  refine wpo_all rfl ?_
  refine hKK1 _ _ ?_
  refine wp_seq_k fun KK2 hKK2 => ?_
  have L2_b := hr.lt
  refine raI (S := fun x => x = b) 11 7 sz [5, 6, 7, 8, 9, 10, 4] [isV (.pointer (some ⟨b, 0, none⟩)), isV (.pointer (some ⟨b, 0, none⟩)), isV (.int .i64 ((2 : Nat) : Int)), isV (.int .u64 (n : Int)), isV (.int .i64 (n : Int)), isRow w1.heap.size (tkv n (tkr 2 l bad) (tkb 2 l bad)), isRow w1.heap.size (tkv n (tkr 2 l bad) (tkb 2 l bad))] [RdJ b l bad, RdJ b l bad, RdJ b l bad, RdJ b l bad, RdJ b (tkr 2 l bad) (tkb 2 l bad), RdJ b (tkr 2 l bad) (tkb 2 l bad), RdJ b (tkr n (tkr 2 l bad) (tkb 2 l bad)) (tkb n (tkr 2 l bad) (tkb 2 l bad)), RdJ b (tkr n (tkr 2 l bad) (tkb 2 l bad)) (tkb n (tkr 2 l bad) (tkb 2 l bad))] rfl (by decide) (by decide) (by decide) ?_ ?_ ?_ ?_
  · intro J hJ; cases hJ; exact hr
  · exact (sr_cons (sr_V _ _) (sr_cons (sr_V _ _) (sr_cons (sr_V _ _) (sr_cons (sr_V _ _) (sr_cons (sr_V _ _) (sr_cons (sr_Row _ _ _) (sr_cons (sr_Row _ _ _) (sr_nil _))))))))
  ·refine sti_cons ?_ (sti_cons ?_ (sti_cons ?_ (sti_cons ?_ (sti_cons ?_ (sti_cons ?_ (sti_cons ?_ sti_nil))))))
   ·refine sti rfl rfl rfl rfl rfl rfl rfl fun a w' hM hI hoff hp K hK => ?_
    have e0 : a.tmps[0]? = some (.pointer (some ⟨b, 0, none⟩)) := (hoff 0 rfl).trans e0
    clear hoff hp
    exact ov  (hK _ _ (Rl.refl _ _) hI rfl)
   ·refine sti rfl rfl rfl rfl rfl rfl rfl fun a w' hM hI hoff hp K hK => ?_
    have e0 : a.tmps[0]? = some (.pointer (some ⟨b, 0, none⟩)) := (hoff 0 rfl).trans e0
    clear hoff hp
    exact ov  (hK _ _ (Rl.refl _ _) hI rfl)
   ·refine sti rfl rfl rfl rfl rfl rfl rfl fun a w' hM hI hoff hp K hK => ?_
    have e1 : a.tmps[1]? = some (.int .i64 ((2 : Nat) : Int)) := (hoff 1 rfl).trans e1
    clear hoff hp
    exact ov  (hK _ _ (Rl.refl _ _) hI rfl)
   ·refine sti rfl rfl rfl rfl rfl rfl rfl fun a w' hM hI hoff hp K hK => ?_
    obtain ⟨_, e6, rfl⟩ := hp 1 rfl 6 _ rfl rfl
    obtain ⟨_, e7, rfl⟩ := hp 2 rfl 7 _ rfl rfl
    clear hoff hp
    have h_ := number_calls b 2 (by decide) (by decide) _ hbl hl _ _ hI
    rw [hnn] at h_
    refine op_call Try.func34 (by kernel_rfl) rfl #[.pointer (some ⟨b, 0, none⟩), .int .i64 ((2 : Nat) : Int)] rfl (by simp [Act.eval, e6, e7]) h_ ?_
    rintro e w1 ⟨u, rfl, hR, hI2, hc, hk⟩
    exact ⟨u, rfl, hK _ _ ⟨hk, hc⟩ hI2 hR⟩
   ·refine sti rfl rfl rfl rfl rfl rfl rfl fun a w' hM hI hoff hp K hK => ?_
    obtain ⟨_, e8, rfl⟩ := hp 3 rfl 8 _ rfl rfl
    clear hoff hp
    exact ov  (hK _ _ (Rl.refl _ _) hI rfl)
   ·refine sti rfl rfl rfl rfl rfl rfl rfl fun a w' hM hI hoff hp K hK => ?_
    obtain ⟨_, e5, rfl⟩ := hp 0 rfl 5 _ rfl rfl
    obtain ⟨_, e9, rfl⟩ := hp 4 rfl 9 _ rfl rfl
    clear hoff hp
    refine op_call Try.func36 (by kernel_rfl) rfl #[.pointer (some ⟨b, 0, none⟩), .int .i64 (n : Int)] rfl (by simp [Act.eval, e5, e9]) (take_calls b n (by omega) _ (by first | omega | (have := tkr_len 2 l bad; omega)) _ _ hI) ?_
    rintro e w1 ⟨u, rfl, hR, hI2, hc, hk⟩
    exact ⟨u, rfl, hK _ _ ⟨hk, hc⟩ hI2 (hR.lower hM.keep.size)⟩
   ·refine sti rfl rfl rfl rfl rfl rfl rfl fun a w' hM hI hoff hp K hK => ?_
    obtain ⟨v10, e10, h10⟩ := hp 5 rfl 10 _ rfl rfl
    clear hoff hp
    exact ov  (hK _ _ (Rl.refl _ _) hI h10)
  intro a2 w2 sz1 df1 hoff hvv hRl hJ
  replace hJ := hJ _ rfl
  replace CH := CH.trans hRl.chg (fun _ _ h => h)
  replace K8 := K8.trans hRl.keep
  have hr := hJ
  obtain ⟨u4_2, e4, Kr4⟩ := hvv 6 _ _ rfl rfl
  replace Kr4 : Row w1.heap.size w2 u4_2 (tkv n (tkr 2 l bad) (tkb 2 l bad)) := Kr4
  replace e0 := (hoff 0 rfl).trans e0
  replace e1 := (hoff 1 rfl).trans e1
  replace sz := sz1
  replace df := df1.trans df
  have Zw2 : w.heap.size ≤ w2.heap.size := CH.size
  clear sz1 df1 hoff hvv hRl hJ L2_b
  refine wpo_all rfl ?_
  refine hKK2 _ _ ?_
  refine wp_ret ?_
  exact ret1 rfl df e4 ⟨_, rfl, (Kr4.lower Zw1), hr, CH, K8⟩
def zeroCp : Cp := ⟨0, 0, 0, 0, 0, 0, [], [], [], []⟩
theorem get_cases (q : Bool) (l : List Int) (c : Cp) : q = true ∨ (q = false ∧ 0 < l.length) ∨ (q = false ∧ l.length = 0 ∧ ¬ c.May) ∨ (q = false ∧ l.length = 0 ∧ c.May) := by
  cases q
  · by_cases h : 0 < l.length
    · exact .inr (.inl ⟨rfl, h⟩)
    · by_cases hm : c.May
      · exact .inr (.inr (.inr ⟨rfl, by omega, hm⟩))
      · exact .inr (.inr (.inl ⟨rfl, by omega, hm⟩))
  · exact .inl rfl
/-- What Get yields: nothing, or this capsule. -/
def GetP (bad : Prop) (c : Cp) (B : Nat) : Value → World → Prop := fun u w' => ∃ x, (bad ∧ u = .tuple #[x, .int .i64 230] ∧ CapV B w' x zeroCp) ∨ (¬ bad ∧ u = .tuple #[x, .int .i64 0] ∧ CapV B w' x c)
theorem GetP.bad {bad : Prop} {c : Cp} {B : Nat} {u : Value} {w : World} (h : GetP bad c B u w) (hb : bad) : ∃ x, u = .tuple #[x, .int .i64 230] ∧ CapV B w x zeroCp := by
  obtain ⟨x, ⟨_, h⟩ | ⟨h, _⟩⟩ := h
  · exact ⟨x, h⟩
  · exact absurd hb h
theorem GetP.good {bad : Prop} {c : Cp} {B : Nat} {u : Value} {w : World} (h : GetP bad c B u w) (hb : ¬ bad) : ∃ x, u = .tuple #[x, .int .i64 0] ∧ CapV B w x c := by
  obtain ⟨x, ⟨h, _⟩ | ⟨_, h⟩⟩ := h
  · exact absurd h hb
  · exact ⟨x, h⟩
set_option maxHeartbeats 4000000 in
set_option maxRecDepth 100000 in
theorem get_all (l : List Int) (l1 l2 l3 l4 l5 l6 l7 l8 l9 l10 p7 p8 p9 p10 : List Int) (q1 q2 q3 q4 q5 q6 q7 q8 q9 q10 : Bool) (n1 n2 n3 n4 n5 n6 : Int) (en1 : nmv 1 l false = n1) (el1 : tkr 1 l false = l1) (eb1 : tkb 1 l false = q1) (en2 : nmv 1 l1 q1 = n2) (el2 : tkr 1 l1 q1 = l2) (eb2 : tkb 1 l1 q1 = q2) (en3 : nmv 4 l2 q2 = n3) (el3 : tkr 4 l2 q2 = l3) (eb3 : tkb 4 l2 q2 = q3) (en4 : nmv 4 l3 q3 = n4) (el4 : tkr 4 l3 q3 = l4) (eb4 : tkb 4 l3 q3 = q4) (en5 : nmv 8 l4 q4 = n5) (el5 : tkr 8 l4 q4 = l5) (eb5 : tkb 8 l4 q4 = q5) (en6 : nmv 8 l5 q5 = n6) (el6 : tkr 8 l5 q5 = l6) (eb6 : tkb 8 l5 q5 = q6) (ep7 : txv l6 q6 = p7) (el7 : txr l6 q6 = l7) (eb7 : txb l6 q6 = q7) (ep8 : tkv 1088 l7 q7 = p8) (el8 : tkr 1088 l7 q7 = l8) (eb8 : tkb 1088 l7 q7 = q8) (ep9 : txv l8 q8 = p9) (el9 : txr l8 q8 = l9) (eb9 : txb l8 q8 = q9) (ep10 : tkv 3309 l9 q9 = p10) (el10 : tkr 3309 l9 q9 = l10) (eb10 : tkb 3309 l9 q9 = q10) (y0 : Byt l) (h0 : l.length < 100000) (y1 : Byt l1) (h1 : l1.length < 100000) (y2 : Byt l2) (h2 : l2.length < 100000) (y3 : Byt l3) (h3 : l3.length < 100000) (y4 : Byt l4) (h4 : l4.length < 100000) (y5 : Byt l5) (h5 : l5.length < 100000) (y6 : Byt l6) (h6 : l6.length < 100000) (y7 : Byt l7) (h7 : l7.length < 100000) (y8 : Byt l8) (h8 : l8.length < 100000) (y9 : Byt l9) (h9 : l9.length < 100000) (y10 : Byt l10) (h10 : l10.length < 100000) (r1 : 0 ≤ n1 ∧ n1 < 256) (r2 : 0 ≤ n2 ∧ n2 < 256) (r3 : 0 ≤ n3 ∧ n3 < 4294967296) (r4 : 0 ≤ n4 ∧ n4 < 4294967296) (ho : Cp.Ok ⟨n1, n2, n3, n4, n5, n6, p7, p8, p9, p10⟩) (hs6 : p7.length < 65536) (hs7 : p8.length < 65536) (hs8 : p9.length < 65536) (hs9 : p10.length < 65536) (v : Value) (w : World) (hv : Row 0 w v l) : Ret 21 #[v] w (GetP (q10 = true ∨ 0 < l10.length ∨ ¬ Cp.May ⟨n1, n2, n3, n4, n5, n6, p7, p8, p9, p10⟩) ⟨n1, n2, n3, n4, n5, n6, p7, p8, p9, p10⟩ w.heap.size) := by
  obtain ⟨A0, c0, rfl, x1, x2, x3⟩ := hv
  have hv : Row 0 w (.slice A0 l.length c0) l := ⟨_, _, rfl, x1, x2, x3⟩
  clear x1 x2 x3
  replace en1 := Hq.mk en1
  replace el1 := Hq.mk el1
  replace eb1 := Hq.mk eb1
  replace en2 := Hq.mk en2
  replace el2 := Hq.mk el2
  replace eb2 := Hq.mk eb2
  replace en3 := Hq.mk en3
  replace el3 := Hq.mk el3
  replace eb3 := Hq.mk eb3
  replace en4 := Hq.mk en4
  replace el4 := Hq.mk el4
  replace eb4 := Hq.mk eb4
  replace en5 := Hq.mk en5
  replace el5 := Hq.mk el5
  replace eb5 := Hq.mk eb5
  replace en6 := Hq.mk en6
  replace el6 := Hq.mk el6
  replace eb6 := Hq.mk eb6
  replace ep7 := Hq.mk ep7
  replace el7 := Hq.mk el7
  replace eb7 := Hq.mk eb7
  replace ep8 := Hq.mk ep8
  replace el8 := Hq.mk el8
  replace eb8 := Hq.mk eb8
  replace ep9 := Hq.mk ep9
  replace el9 := Hq.mk el9
  replace eb9 := Hq.mk eb9
  replace ep10 := Hq.mk ep10
  replace el10 := Hq.mk el10
  replace eb10 := Hq.mk eb10
  refine enterA (n := 74) Try.func21 rfl rfl fun a0 sz df he => ?_
  have e0 : a0.tmps[0]? = some (.slice A0 l.length c0) := he 0 _ rfl
  clear he
  have CH : Chg (fun _ => False) w w := Chg.refl _ _
  have K8 : Keep8 w w := Keep8.refl _
  refine wp_seq_k fun KK1 hKK1 => ?_
  refine raI (S := fun _ => False) 74 2 sz [2, 3] [isBoxC w.heap.size #[.int .i64 0, .int .i64 0, .int .u32 0, .int .u32 0, .int .u64 0, .int .u64 0, .slice none 0 0, .slice none 0 0, .slice none 0 0, .slice none 0 0] 28, isV (.int .i64 0)] [Tr, Tr, Tr] rfl (by decide) (by decide) (by decide) ?_ ?_ ?_ ?_
  · intro J hJ; cases hJ; exact trivial
  · exact (sr_cons (sr_BoxS _ _ _ (fun _ _ h => h)) (sr_cons (sr_V _ _) (sr_nil _)))
  ·refine sti_cons ?_ (sti_cons ?_ sti_nil)
   ·refine sti rfl rfl rfl rfl rfl rfl rfl fun a w' hM hI hoff hp K hK => ?_
    clear hoff hp
    refine op_alloc 28 #[.int .i64 0, .int .i64 0, .int .u32 0, .int .u32 0, .int .u64 0, .int .u64 0, .slice none 0 0, .slice none 0 0, .slice none 0 0, .slice none 0 0] rfl (by kernel_rfl) (hK _ _ (Rl.alloc _ _ _) trivial ⟨_, rfl, hM.keep.size, heap_new _ _⟩)
   ·refine sti rfl rfl rfl rfl rfl rfl rfl fun a w' hM hI hoff hp K hK => ?_
    clear hoff hp
    exact ov  (hK _ _ (Rl.refl _ _) trivial rfl)
  intro a1 w1 sz1 df1 hoff hvv hRl hJ
  obtain ⟨v_, e2, bx2, z_, G1_2, H2⟩ := hvv 0 _ _ rfl rfl
  rw [z_] at e2
  clear z_
  have G2 : w.heap.size ≤ bx2 := Nat.le_trans CH.size G1_2
  replace hv := hv.keep hRl.keep
  replace CH := CH.trans hRl.chg (fun _ _ h => h.elim)
  replace K8 := K8.trans hRl.keep
  obtain ⟨_, e3, rfl⟩ := hvv 1 _ _ rfl rfl
  replace e0 := (hoff 0 rfl).trans e0
  replace sz := sz1
  replace df := df1.trans df
  have Zw1 : w.heap.size ≤ w1.heap.size := CH.size
  clear sz1 df1 hoff hvv hRl hJ
  refine wpo_all rfl ?_
  refine hKK1 _ _ ?_
  refine wp_seq_k fun KK2 hKK2 => ?_
  have L2_x2 := blk_lt H2
  refine raI (S := fun _ => False) 74 3 sz [9, 10, 11] [isV (.slice A0 l.length c0), isV (.agg #[.slice A0 l.length c0, .bool false]), isBoxC w1.heap.size #[.slice A0 l.length c0, .bool false] 50] [Tr, Tr, Tr, Tr] rfl (by decide) (by decide) (by decide) ?_ ?_ ?_ ?_
  · intro J hJ; cases hJ; exact trivial
  · exact (sr_cons (sr_V _ _) (sr_cons (sr_V _ _) (sr_cons (sr_BoxS _ _ _ (fun _ _ h => h)) (sr_nil _))))
  ·refine sti_cons ?_ (sti_cons ?_ (sti_cons ?_ sti_nil))
   ·refine sti rfl rfl rfl rfl rfl rfl rfl fun a w' hM hI hoff hp K hK => ?_
    have e0 : a.tmps[0]? = some (.slice A0 l.length c0) := (hoff 0 rfl).trans e0
    clear hoff hp
    exact ov  (hK _ _ (Rl.refl _ _) trivial rfl)
   ·refine sti rfl rfl rfl rfl rfl rfl rfl fun a w' hM hI hoff hp K hK => ?_
    obtain ⟨_, e9, rfl⟩ := hp 0 rfl 9 _ rfl rfl
    clear hoff hp
    have hu := Try.underlying50
    exact ov  (hK _ _ (Rl.refl _ _) trivial rfl)
   ·refine sti rfl rfl rfl rfl rfl rfl rfl fun a w' hM hI hoff hp K hK => ?_
    obtain ⟨_, e10, rfl⟩ := hp 1 rfl 10 _ rfl rfl
    clear hoff hp
    have hu := Try.underlying50
    refine ov (v := .pointer (some ⟨w'.heap.size, 0, none⟩)) (w' := w'.alloc (.cells #[.slice A0 l.length c0, .bool false] 50))  (hK _ _ (Rl.alloc _ _ _) trivial ⟨_, rfl, hM.keep.size, heap_new _ _⟩)
  intro a2 w2 sz1 df1 hoff hvv hRl hJ
  obtain ⟨v_, e11, bx11, z_, G2_11, H11⟩ := hvv 2 _ _ rfl rfl
  rw [z_] at e11
  clear z_
  have G11 : w.heap.size ≤ bx11 := Nat.le_trans CH.size G2_11
  have nex2_x11 := ne_new L2_x2 G2_11
  have nex11_x2 := new_ne L2_x2 G2_11
  replace H2 := hRl.chg.blk H2 (fun h => h.elim)
  replace hv := hv.keep hRl.keep
  replace CH := CH.trans hRl.chg (fun _ _ h => h.elim)
  replace K8 := K8.trans hRl.keep
  replace e0 := (hoff 0 rfl).trans e0
  replace e2 := (hoff 2 rfl).trans e2
  replace e3 := (hoff 3 rfl).trans e3
  replace sz := sz1
  replace df := df1.trans df
  have Zw2 : w.heap.size ≤ w2.heap.size := CH.size
  clear sz1 df1 hoff hvv hRl hJ L2_x2
  refine wpo_step 3 _ rfl rfl (og_plain rfl ?_)
  refine op_assign rfl (v := .pointer (some ⟨bx11, 0, none⟩)) (ev e11) ?_
  refine abs_put (K := fun x => wpOps _ _ _ _ x _) (t := 4) sz (by decide) fun a3 sz1 df1 e_new hoff => ?_
  replace e0 := (hoff 0 rfl).trans e0
  replace e2 := (hoff 2 rfl).trans e2
  replace e3 := (hoff 3 rfl).trans e3
  replace e11 := (hoff 11 rfl).trans e11
  have e4 := e_new
  replace sz := sz1
  replace df := df1.trans df
  clear sz1 df1 hoff e_new
  refine wpo_all rfl ?_
  have hr : Rd bx11 w2 l false := ⟨_, H11, hv⟩
  clear H11
  refine hKK2 _ _ ?_
  refine wp_seq_k fun KK3 hKK3 => ?_
  refine raI (S := fun _ => False) 74 3 sz [5, 6, 7] [isV (.func (.func 34) #[] #[]), isV (.func (.func 35) #[] #[]), isV (.func (.func 36) #[] #[])] [Tr, Tr, Tr, Tr] rfl (by decide) (by decide) (by decide) ?_ ?_ ?_ ?_
  · intro J hJ; cases hJ; exact trivial
  · exact (sr_cons (sr_V _ _) (sr_cons (sr_V _ _) (sr_cons (sr_V _ _) (sr_nil _))))
  ·refine sti_cons ?_ (sti_cons ?_ (sti_cons ?_ sti_nil))
   ·refine sti rfl rfl rfl rfl rfl rfl rfl fun a w' hM hI hoff hp K hK => ?_
    clear hoff hp
    exact op_assign rfl rfl (hK _ _ (Rl.refl _ _) trivial rfl)
   ·refine sti rfl rfl rfl rfl rfl rfl rfl fun a w' hM hI hoff hp K hK => ?_
    clear hoff hp
    exact op_assign rfl rfl (hK _ _ (Rl.refl _ _) trivial rfl)
   ·refine sti rfl rfl rfl rfl rfl rfl rfl fun a w' hM hI hoff hp K hK => ?_
    clear hoff hp
    exact op_assign rfl rfl (hK _ _ (Rl.refl _ _) trivial rfl)
  intro a4 w4 sz1 df1 hoff hvv hRl hJ
  replace H2 := hRl.chg.blk H2 (fun h => h.elim)
  replace hr := Rd.chg hr hRl.chg hRl.keep (fun h => h.elim)
  replace hv := hv.keep hRl.keep
  replace CH := CH.trans hRl.chg (fun _ _ h => h.elim)
  replace K8 := K8.trans hRl.keep
  obtain ⟨_, e5, rfl⟩ := hvv 0 _ _ rfl rfl
  obtain ⟨_, e6, rfl⟩ := hvv 1 _ _ rfl rfl
  obtain ⟨_, e7, rfl⟩ := hvv 2 _ _ rfl rfl
  replace e0 := (hoff 0 rfl).trans e0
  replace e2 := (hoff 2 rfl).trans e2
  replace e3 := (hoff 3 rfl).trans e3
  replace e11 := (hoff 11 rfl).trans e11
  replace e4 := (hoff 4 rfl).trans e4
  replace sz := sz1
  replace df := df1.trans df
  have Zw4 : w.heap.size ≤ w4.heap.size := CH.size
  clear sz1 df1 hoff hvv hRl hJ
  refine wpo_all rfl ?_
  refine hKK3 _ _ ?_
  refine wp_seq_k fun KK4 hKK4 => ?_
  have L5_x2 := blk_lt H2
  have L5_x11 := hr.lt
  refine raI (S := fun x => x = bx11) 74 18 sz [12, 13, 14, 15, 16, 17, 18, 19, 20, 21, 22, 23, 24, 25, 26, 27, 28, 8] [isV (.func (.func 34) #[] #[]), isV (.pointer (some ⟨bx11, 0, none⟩)), isV (.int .u64 n1), isV (.int .i64 n1), isV (.func (.func 34) #[] #[]), isV (.pointer (some ⟨bx11, 0, none⟩)), isV (.int .u64 n2), isV (.int .i64 n2), isV (.func (.func 34) #[] #[]), isV (.pointer (some ⟨bx11, 0, none⟩)), isV (.int .u64 n3), isV (.int .u32 n3), isV (.func (.func 34) #[] #[]), isV (.pointer (some ⟨bx11, 0, none⟩)), isV (.int .u64 n4), isV (.int .u32 n4), isV (.agg #[.int .i64 n1, .int .i64 n2, .int .u32 n3, .int .u32 n4, .int .u64 0, .int .u64 0, .slice none 0 0, .slice none 0 0, .slice none 0 0, .slice none 0 0]), isBoxC w4.heap.size #[.int .i64 0, .int .i64 0, .int .u32 0, .int .u32 0, .int .u64 0, .int .u64 0, .slice none 0 0, .slice none 0 0, .slice none 0 0, .slice none 0 0] 28] [RdJ bx11 l false, RdJ bx11 l false, RdJ bx11 l false, RdJ bx11 l1 q1, RdJ bx11 l1 q1, RdJ bx11 l1 q1, RdJ bx11 l1 q1, RdJ bx11 l2 q2, RdJ bx11 l2 q2, RdJ bx11 l2 q2, RdJ bx11 l2 q2, RdJ bx11 l3 q3, RdJ bx11 l3 q3, RdJ bx11 l3 q3, RdJ bx11 l3 q3, RdJ bx11 l4 q4, RdJ bx11 l4 q4, RdJ bx11 l4 q4, RdJ bx11 l4 q4] rfl (by decide) (by decide) (by decide) ?_ ?_ ?_ ?_
  · intro J hJ; cases hJ; exact hr
  · exact (sr_cons (sr_V _ _) (sr_cons (sr_V _ _) (sr_cons (sr_V _ _) (sr_cons (sr_V _ _) (sr_cons (sr_V _ _) (sr_cons (sr_V _ _) (sr_cons (sr_V _ _) (sr_cons (sr_V _ _) (sr_cons (sr_V _ _) (sr_cons (sr_V _ _) (sr_cons (sr_V _ _) (sr_cons (sr_V _ _) (sr_cons (sr_V _ _) (sr_cons (sr_V _ _) (sr_cons (sr_V _ _) (sr_cons (sr_V _ _) (sr_cons (sr_V _ _) (sr_cons (sr_BoxS _ _ _ (fun b hb h => (old_new L5_x11 hb h.symm).elim)) (sr_nil _)))))))))))))))))))
  ·refine sti_cons ?_ (sti_cons ?_ (sti_cons ?_ (sti_cons ?_ (sti_cons ?_ (sti_cons ?_ (sti_cons ?_ (sti_cons ?_ (sti_cons ?_ (sti_cons ?_ (sti_cons ?_ (sti_cons ?_ (sti_cons ?_ (sti_cons ?_ (sti_cons ?_ (sti_cons ?_ (sti_cons ?_ (sti_cons ?_ sti_nil)))))))))))))))))
   ·refine sti rfl rfl rfl rfl rfl rfl rfl fun a w' hM hI hoff hp K hK => ?_
    have e5 : a.tmps[5]? = some (.func (.func 34) #[] #[]) := (hoff 5 rfl).trans e5
    clear hoff hp
    exact op_move rfl (ev e5) (hK _ _ (Rl.refl _ _) hI rfl)
   ·refine sti rfl rfl rfl rfl rfl rfl rfl fun a w' hM hI hoff hp K hK => ?_
    have e4 : a.tmps[4]? = some (.pointer (some ⟨bx11, 0, none⟩)) := (hoff 4 rfl).trans e4
    clear hoff hp
    exact ov  (hK _ _ (Rl.refl _ _) hI rfl)
   ·refine sti rfl rfl rfl rfl rfl rfl rfl fun a w' hM hI hoff hp K hK => ?_
    obtain ⟨_, e13, rfl⟩ := hp 1 rfl 13 _ rfl rfl
    obtain ⟨_, e12, rfl⟩ := hp 0 rfl 12 _ rfl rfl
    clear hoff hp
    have h_ := number_calls _ 1 (by decide) (by decide) _ y0 h0 _ _ hI
    rw [en1.out, el1.out, eb1.out] at h_
    refine op_callv Try.func34 (by kernel_rfl) rfl (by simp [Act.eval, e12]) #[.pointer (some ⟨bx11, 0, none⟩), .int .i64 1] rfl (by simp [Act.eval, e13]) h_ ?_
    rintro e w1 ⟨u, rfl, hR, hI2, hc, hk⟩
    exact ⟨u, rfl, hK _ _ ⟨hk, hc⟩ hI2 hR⟩
   ·refine sti rfl rfl rfl rfl rfl rfl rfl fun a w' hM hI hoff hp K hK => ?_
    obtain ⟨_, e14, rfl⟩ := hp 2 rfl 14 _ rfl rfl
    clear hoff hp
    have hw1 := i64wrap (n := n1) (by omega) (by omega)
    exact ov  (hK _ _ (Rl.refl _ _) hI rfl)
   ·refine sti rfl rfl rfl rfl rfl rfl rfl fun a w' hM hI hoff hp K hK => ?_
    have e5 : a.tmps[5]? = some (.func (.func 34) #[] #[]) := (hoff 5 rfl).trans e5
    clear hoff hp
    exact op_move rfl (ev e5) (hK _ _ (Rl.refl _ _) hI rfl)
   ·refine sti rfl rfl rfl rfl rfl rfl rfl fun a w' hM hI hoff hp K hK => ?_
    have e4 : a.tmps[4]? = some (.pointer (some ⟨bx11, 0, none⟩)) := (hoff 4 rfl).trans e4
    clear hoff hp
    exact ov  (hK _ _ (Rl.refl _ _) hI rfl)
   ·refine sti rfl rfl rfl rfl rfl rfl rfl fun a w' hM hI hoff hp K hK => ?_
    obtain ⟨_, e17, rfl⟩ := hp 5 rfl 17 _ rfl rfl
    obtain ⟨_, e16, rfl⟩ := hp 4 rfl 16 _ rfl rfl
    clear hoff hp
    have h_ := number_calls _ 1 (by decide) (by decide) _ y1 h1 _ _ hI
    rw [en2.out, el2.out, eb2.out] at h_
    refine op_callv Try.func34 (by kernel_rfl) rfl (by simp [Act.eval, e16]) #[.pointer (some ⟨bx11, 0, none⟩), .int .i64 1] rfl (by simp [Act.eval, e17]) h_ ?_
    rintro e w1 ⟨u, rfl, hR, hI2, hc, hk⟩
    exact ⟨u, rfl, hK _ _ ⟨hk, hc⟩ hI2 hR⟩
   ·refine sti rfl rfl rfl rfl rfl rfl rfl fun a w' hM hI hoff hp K hK => ?_
    obtain ⟨_, e18, rfl⟩ := hp 6 rfl 18 _ rfl rfl
    clear hoff hp
    have hw1 := i64wrap (n := n2) (by omega) (by omega)
    exact ov  (hK _ _ (Rl.refl _ _) hI rfl)
   ·refine sti rfl rfl rfl rfl rfl rfl rfl fun a w' hM hI hoff hp K hK => ?_
    have e5 : a.tmps[5]? = some (.func (.func 34) #[] #[]) := (hoff 5 rfl).trans e5
    clear hoff hp
    exact op_move rfl (ev e5) (hK _ _ (Rl.refl _ _) hI rfl)
   ·refine sti rfl rfl rfl rfl rfl rfl rfl fun a w' hM hI hoff hp K hK => ?_
    have e4 : a.tmps[4]? = some (.pointer (some ⟨bx11, 0, none⟩)) := (hoff 4 rfl).trans e4
    clear hoff hp
    exact ov  (hK _ _ (Rl.refl _ _) hI rfl)
   ·refine sti rfl rfl rfl rfl rfl rfl rfl fun a w' hM hI hoff hp K hK => ?_
    obtain ⟨_, e21, rfl⟩ := hp 9 rfl 21 _ rfl rfl
    obtain ⟨_, e20, rfl⟩ := hp 8 rfl 20 _ rfl rfl
    clear hoff hp
    have h_ := number_calls _ 4 (by decide) (by decide) _ y2 h2 _ _ hI
    rw [en3.out, el3.out, eb3.out] at h_
    refine op_callv Try.func34 (by kernel_rfl) rfl (by simp [Act.eval, e20]) #[.pointer (some ⟨bx11, 0, none⟩), .int .i64 4] rfl (by simp [Act.eval, e21]) h_ ?_
    rintro e w1 ⟨u, rfl, hR, hI2, hc, hk⟩
    exact ⟨u, rfl, hK _ _ ⟨hk, hc⟩ hI2 hR⟩
   ·refine sti rfl rfl rfl rfl rfl rfl rfl fun a w' hM hI hoff hp K hK => ?_
    obtain ⟨_, e22, rfl⟩ := hp 10 rfl 22 _ rfl rfl
    clear hoff hp
    have hw1 := u32wrap (n := n3) (by omega) (by omega)
    exact ov  (hK _ _ (Rl.refl _ _) hI rfl)
   ·refine sti rfl rfl rfl rfl rfl rfl rfl fun a w' hM hI hoff hp K hK => ?_
    have e5 : a.tmps[5]? = some (.func (.func 34) #[] #[]) := (hoff 5 rfl).trans e5
    clear hoff hp
    exact op_move rfl (ev e5) (hK _ _ (Rl.refl _ _) hI rfl)
   ·refine sti rfl rfl rfl rfl rfl rfl rfl fun a w' hM hI hoff hp K hK => ?_
    have e4 : a.tmps[4]? = some (.pointer (some ⟨bx11, 0, none⟩)) := (hoff 4 rfl).trans e4
    clear hoff hp
    exact ov  (hK _ _ (Rl.refl _ _) hI rfl)
   ·refine sti rfl rfl rfl rfl rfl rfl rfl fun a w' hM hI hoff hp K hK => ?_
    obtain ⟨_, e25, rfl⟩ := hp 13 rfl 25 _ rfl rfl
    obtain ⟨_, e24, rfl⟩ := hp 12 rfl 24 _ rfl rfl
    clear hoff hp
    have h_ := number_calls _ 4 (by decide) (by decide) _ y3 h3 _ _ hI
    rw [en4.out, el4.out, eb4.out] at h_
    refine op_callv Try.func34 (by kernel_rfl) rfl (by simp [Act.eval, e24]) #[.pointer (some ⟨bx11, 0, none⟩), .int .i64 4] rfl (by simp [Act.eval, e25]) h_ ?_
    rintro e w1 ⟨u, rfl, hR, hI2, hc, hk⟩
    exact ⟨u, rfl, hK _ _ ⟨hk, hc⟩ hI2 hR⟩
   ·refine sti rfl rfl rfl rfl rfl rfl rfl fun a w' hM hI hoff hp K hK => ?_
    obtain ⟨_, e26, rfl⟩ := hp 14 rfl 26 _ rfl rfl
    clear hoff hp
    have hw1 := u32wrap (n := n4) (by omega) (by omega)
    exact ov  (hK _ _ (Rl.refl _ _) hI rfl)
   ·refine sti rfl rfl rfl rfl rfl rfl rfl fun a w' hM hI hoff hp K hK => ?_
    obtain ⟨_, e15, rfl⟩ := hp 3 rfl 15 _ rfl rfl
    obtain ⟨_, e19, rfl⟩ := hp 7 rfl 19 _ rfl rfl
    obtain ⟨_, e23, rfl⟩ := hp 11 rfl 23 _ rfl rfl
    obtain ⟨_, e27, rfl⟩ := hp 15 rfl 27 _ rfl rfl
    clear hoff hp
    have hu := Try.underlying28
    have hv_25 := Try.underlying25
    exact ov  (hK _ _ (Rl.refl _ _) hI rfl)
   ·refine sti rfl rfl rfl rfl rfl rfl rfl fun a w' hM hI hoff hp K hK => ?_
    clear hoff hp
    refine op_alloc 28 #[.int .i64 0, .int .i64 0, .int .u32 0, .int .u32 0, .int .u64 0, .int .u64 0, .slice none 0 0, .slice none 0 0, .slice none 0 0, .slice none 0 0] rfl (by kernel_rfl) (hK _ _ (Rl.alloc _ _ _) (Rd.below hI (below_alloc (Below.refl _ _) _)) ⟨_, rfl, hM.keep.size, heap_new _ _⟩)
  intro a5 w5 sz1 df1 hoff hvv hRl hJ
  obtain ⟨v_, e8, bx8, z_, G5_8, H8⟩ := hvv 17 _ _ rfl rfl
  rw [z_] at e8
  clear z_
  have G8 : w.heap.size ≤ bx8 := Nat.le_trans CH.size G5_8
  have nex2_x8 := ne_new L5_x2 G5_8
  have nex8_x2 := new_ne L5_x2 G5_8
  have nex11_x8 := ne_new L5_x11 G5_8
  have nex8_x11 := new_ne L5_x11 G5_8
  replace hJ := hJ _ rfl
  replace H2 := hRl.chg.blk H2 nex2_x11
  replace hv := hv.keep hRl.keep
  replace CH := CH.trans hRl.chg (fun x hx h => (old_new hx G11 h).elim)
  replace K8 := K8.trans hRl.keep
  have hr := hJ
  obtain ⟨_, e28, rfl⟩ := hvv 16 _ _ rfl rfl
  replace e0 := (hoff 0 rfl).trans e0
  replace e2 := (hoff 2 rfl).trans e2
  replace e3 := (hoff 3 rfl).trans e3
  replace e11 := (hoff 11 rfl).trans e11
  replace e4 := (hoff 4 rfl).trans e4
  replace e5 := (hoff 5 rfl).trans e5
  replace e6 := (hoff 6 rfl).trans e6
  replace e7 := (hoff 7 rfl).trans e7
  replace sz := sz1
  replace df := df1.trans df
  have Zw5 : w.heap.size ≤ w5.heap.size := CH.size
  clear sz1 df1 hoff hvv hRl hJ L5_x2 L5_x11
  refine wpo_step 18 _ rfl rfl (og_plain rfl ?_)
  refine op_store_row 28 _ _ rfl bx8 #[.int .i64 n1, .int .i64 n2, .int .u32 n3, .int .u32 n4, .int .u64 0, .int .u64 0, .slice none 0 0, .slice none 0 0, .slice none 0 0, .slice none 0 0] (ev e8) (ev e28) 28 _ H8 (by kernel_rfl) rfl (onel ⟨rfl, rfl, rfl, rfl, rfl, rfl, rfl, rfl, rfl, rfl, trivial⟩) (nbl ⟨rfl, rfl, rfl, rfl, rfl, rfl, rfl, rfl, rfl, rfl, trivial⟩) ?_
  intro w6 H_ hC hK
  change wpOps _ _ _ _ a5 w6
  replace H2 := hC.blk H2 nex2_x8
  replace hr := Rd.chg hr hC hK nex11_x8
  replace hv := hv.keep hK
  replace CH := CH.trans hC (fun x hx h => (old_new hx G8 h).elim)
  replace K8 := K8.trans hK
  replace H8 : w6.heap[bx8]? = some (.cells #[.int .i64 n1, .int .i64 n2, .int .u32 n3, .int .u32 n4, .int .u64 0, .int .u64 0, .slice none 0 0, .slice none 0 0, .slice none 0 0, .slice none 0 0] 28 (0, 0)) := H_
  clear hC hK
  have Zw6 : w.heap.size ≤ w6.heap.size := CH.size
  refine wpo_all rfl ?_
  refine hKK4 _ _ ?_
  refine wp_seq_k fun KK5 hKK5 => ?_
  have L7_x11 := hr.lt
  refine raI (S := fun x => x = bx11) 74 5 sz [29, 30, 31, 32, 33] [isV (.func (.func 34) #[] #[]), isV (.pointer (some ⟨bx11, 0, none⟩)), isV (.int .u64 n5), isV (.pointer (some ⟨bx8, 4, none⟩)), isV (.pointer (some ⟨bx8, 4, none⟩))] [RdJ bx11 l4 q4, RdJ bx11 l4 q4, RdJ bx11 l4 q4, RdJ bx11 l5 q5, RdJ bx11 l5 q5, RdJ bx11 l5 q5] rfl (by decide) (by decide) (by decide) ?_ ?_ ?_ ?_
  · intro J hJ; cases hJ; exact hr
  · exact (sr_cons (sr_V _ _) (sr_cons (sr_V _ _) (sr_cons (sr_V _ _) (sr_cons (sr_V _ _) (sr_cons (sr_V _ _) (sr_nil _))))))
  ·refine sti_cons ?_ (sti_cons ?_ (sti_cons ?_ (sti_cons ?_ (sti_cons ?_ sti_nil))))
   ·refine sti rfl rfl rfl rfl rfl rfl rfl fun a w' hM hI hoff hp K hK => ?_
    have e5 : a.tmps[5]? = some (.func (.func 34) #[] #[]) := (hoff 5 rfl).trans e5
    clear hoff hp
    exact op_move rfl (ev e5) (hK _ _ (Rl.refl _ _) hI rfl)
   ·refine sti rfl rfl rfl rfl rfl rfl rfl fun a w' hM hI hoff hp K hK => ?_
    have e4 : a.tmps[4]? = some (.pointer (some ⟨bx11, 0, none⟩)) := (hoff 4 rfl).trans e4
    clear hoff hp
    exact ov  (hK _ _ (Rl.refl _ _) hI rfl)
   ·refine sti rfl rfl rfl rfl rfl rfl rfl fun a w' hM hI hoff hp K hK => ?_
    obtain ⟨_, e30, rfl⟩ := hp 1 rfl 30 _ rfl rfl
    obtain ⟨_, e29, rfl⟩ := hp 0 rfl 29 _ rfl rfl
    clear hoff hp
    have h_ := number_calls _ 8 (by decide) (by decide) _ y4 h4 _ _ hI
    rw [en5.out, el5.out, eb5.out] at h_
    refine op_callv Try.func34 (by kernel_rfl) rfl (by simp [Act.eval, e29]) #[.pointer (some ⟨bx11, 0, none⟩), .int .i64 8] rfl (by simp [Act.eval, e30]) h_ ?_
    rintro e w1 ⟨u, rfl, hR, hI2, hc, hk⟩
    exact ⟨u, rfl, hK _ _ ⟨hk, hc⟩ hI2 hR⟩
   ·refine sti rfl rfl rfl rfl rfl rfl rfl fun a w' hM hI hoff hp K hK => ?_
    have e8 : a.tmps[8]? = some (.pointer (some ⟨bx8, 0, none⟩)) := (hoff 8 rfl).trans e8
    clear hoff hp
    have hu := Try.underlying28
    exact ov  (hK _ _ (Rl.refl _ _) hI rfl)
   ·refine sti rfl rfl rfl rfl rfl rfl rfl fun a w' hM hI hoff hp K hK => ?_
    obtain ⟨_, e32, rfl⟩ := hp 3 rfl 32 _ rfl rfl
    clear hoff hp
    have hu := Try.underlying25
    exact ov  (hK _ _ (Rl.refl _ _) hI rfl)
  intro a7 w7 sz1 df1 hoff hvv hRl hJ
  replace hJ := hJ _ rfl
  replace H2 := hRl.chg.blk H2 nex2_x11
  replace H8 := hRl.chg.blk H8 nex8_x11
  replace hv := hv.keep hRl.keep
  replace CH := CH.trans hRl.chg (fun x hx h => (old_new hx G11 h).elim)
  replace K8 := K8.trans hRl.keep
  have hr := hJ
  obtain ⟨_, e31, rfl⟩ := hvv 2 _ _ rfl rfl
  obtain ⟨_, e33, rfl⟩ := hvv 4 _ _ rfl rfl
  replace e0 := (hoff 0 rfl).trans e0
  replace e2 := (hoff 2 rfl).trans e2
  replace e3 := (hoff 3 rfl).trans e3
  replace e11 := (hoff 11 rfl).trans e11
  replace e4 := (hoff 4 rfl).trans e4
  replace e5 := (hoff 5 rfl).trans e5
  replace e6 := (hoff 6 rfl).trans e6
  replace e7 := (hoff 7 rfl).trans e7
  replace e28 := (hoff 28 rfl).trans e28
  replace e8 := (hoff 8 rfl).trans e8
  replace sz := sz1
  replace df := df1.trans df
  have Zw7 : w.heap.size ≤ w7.heap.size := CH.size
  clear sz1 df1 hoff hvv hRl hJ L7_x11
  refine wpo_step 5 _ rfl rfl (og_plain rfl ?_)
  refine op_store_cell 23 _ _ rfl bx8 4 (.int .u64 n5) (ev e33) (ev e31) 28 _ H8 (by kernel_rfl) (by simp) rfl (nbl ⟨rfl, rfl, rfl, rfl, rfl, rfl, rfl, rfl, rfl, rfl, trivial⟩) ?_
  intro w8 H_ hC hK
  change wpOps _ _ _ _ a7 w8
  replace H2 := hC.blk H2 nex2_x8
  replace hr := Rd.chg hr hC hK nex11_x8
  replace hv := hv.keep hK
  replace CH := CH.trans hC (fun x hx h => (old_new hx G8 h).elim)
  replace K8 := K8.trans hK
  replace H8 : w8.heap[bx8]? = some (.cells #[.int .i64 n1, .int .i64 n2, .int .u32 n3, .int .u32 n4, .int .u64 n5, .int .u64 0, .slice none 0 0, .slice none 0 0, .slice none 0 0, .slice none 0 0] 28 (0, 0)) := H_
  clear hC hK
  have Zw8 : w.heap.size ≤ w8.heap.size := CH.size
  refine wpo_all rfl ?_
  refine hKK5 _ _ ?_
  refine wp_seq_k fun KK6 hKK6 => ?_
  have L9_x11 := hr.lt
  refine raI (S := fun x => x = bx11) 74 5 sz [34, 35, 36, 37, 38] [isV (.func (.func 34) #[] #[]), isV (.pointer (some ⟨bx11, 0, none⟩)), isV (.int .u64 n6), isV (.pointer (some ⟨bx8, 4, none⟩)), isV (.pointer (some ⟨bx8, 5, none⟩))] [RdJ bx11 l5 q5, RdJ bx11 l5 q5, RdJ bx11 l5 q5, RdJ bx11 l6 q6, RdJ bx11 l6 q6, RdJ bx11 l6 q6] rfl (by decide) (by decide) (by decide) ?_ ?_ ?_ ?_
  · intro J hJ; cases hJ; exact hr
  · exact (sr_cons (sr_V _ _) (sr_cons (sr_V _ _) (sr_cons (sr_V _ _) (sr_cons (sr_V _ _) (sr_cons (sr_V _ _) (sr_nil _))))))
  ·refine sti_cons ?_ (sti_cons ?_ (sti_cons ?_ (sti_cons ?_ (sti_cons ?_ sti_nil))))
   ·refine sti rfl rfl rfl rfl rfl rfl rfl fun a w' hM hI hoff hp K hK => ?_
    have e5 : a.tmps[5]? = some (.func (.func 34) #[] #[]) := (hoff 5 rfl).trans e5
    clear hoff hp
    exact op_move rfl (ev e5) (hK _ _ (Rl.refl _ _) hI rfl)
   ·refine sti rfl rfl rfl rfl rfl rfl rfl fun a w' hM hI hoff hp K hK => ?_
    have e4 : a.tmps[4]? = some (.pointer (some ⟨bx11, 0, none⟩)) := (hoff 4 rfl).trans e4
    clear hoff hp
    exact ov  (hK _ _ (Rl.refl _ _) hI rfl)
   ·refine sti rfl rfl rfl rfl rfl rfl rfl fun a w' hM hI hoff hp K hK => ?_
    obtain ⟨_, e35, rfl⟩ := hp 1 rfl 35 _ rfl rfl
    obtain ⟨_, e34, rfl⟩ := hp 0 rfl 34 _ rfl rfl
    clear hoff hp
    have h_ := number_calls _ 8 (by decide) (by decide) _ y5 h5 _ _ hI
    rw [en6.out, el6.out, eb6.out] at h_
    refine op_callv Try.func34 (by kernel_rfl) rfl (by simp [Act.eval, e34]) #[.pointer (some ⟨bx11, 0, none⟩), .int .i64 8] rfl (by simp [Act.eval, e35]) h_ ?_
    rintro e w1 ⟨u, rfl, hR, hI2, hc, hk⟩
    exact ⟨u, rfl, hK _ _ ⟨hk, hc⟩ hI2 hR⟩
   ·refine sti rfl rfl rfl rfl rfl rfl rfl fun a w' hM hI hoff hp K hK => ?_
    have e8 : a.tmps[8]? = some (.pointer (some ⟨bx8, 0, none⟩)) := (hoff 8 rfl).trans e8
    clear hoff hp
    have hu := Try.underlying28
    exact ov  (hK _ _ (Rl.refl _ _) hI rfl)
   ·refine sti rfl rfl rfl rfl rfl rfl rfl fun a w' hM hI hoff hp K hK => ?_
    obtain ⟨_, e37, rfl⟩ := hp 3 rfl 37 _ rfl rfl
    clear hoff hp
    have hu := Try.underlying25
    exact ov  (hK _ _ (Rl.refl _ _) hI rfl)
  intro a9 w9 sz1 df1 hoff hvv hRl hJ
  replace hJ := hJ _ rfl
  replace H2 := hRl.chg.blk H2 nex2_x11
  replace H8 := hRl.chg.blk H8 nex8_x11
  replace hv := hv.keep hRl.keep
  replace CH := CH.trans hRl.chg (fun x hx h => (old_new hx G11 h).elim)
  replace K8 := K8.trans hRl.keep
  have hr := hJ
  obtain ⟨_, e36, rfl⟩ := hvv 2 _ _ rfl rfl
  obtain ⟨_, e38, rfl⟩ := hvv 4 _ _ rfl rfl
  replace e0 := (hoff 0 rfl).trans e0
  replace e2 := (hoff 2 rfl).trans e2
  replace e3 := (hoff 3 rfl).trans e3
  replace e11 := (hoff 11 rfl).trans e11
  replace e4 := (hoff 4 rfl).trans e4
  replace e5 := (hoff 5 rfl).trans e5
  replace e6 := (hoff 6 rfl).trans e6
  replace e7 := (hoff 7 rfl).trans e7
  replace e28 := (hoff 28 rfl).trans e28
  replace e8 := (hoff 8 rfl).trans e8
  replace e31 := (hoff 31 rfl).trans e31
  replace e33 := (hoff 33 rfl).trans e33
  replace sz := sz1
  replace df := df1.trans df
  have Zw9 : w.heap.size ≤ w9.heap.size := CH.size
  clear sz1 df1 hoff hvv hRl hJ L9_x11
  refine wpo_step 5 _ rfl rfl (og_plain rfl ?_)
  refine op_store_cell 23 _ _ rfl bx8 5 (.int .u64 n6) (ev e38) (ev e36) 28 _ H8 (by kernel_rfl) (by simp) rfl (nbl ⟨rfl, rfl, rfl, rfl, rfl, rfl, rfl, rfl, rfl, rfl, trivial⟩) ?_
  intro w10 H_ hC hK
  change wpOps _ _ _ _ a9 w10
  replace H2 := hC.blk H2 nex2_x8
  replace hr := Rd.chg hr hC hK nex11_x8
  replace hv := hv.keep hK
  replace CH := CH.trans hC (fun x hx h => (old_new hx G8 h).elim)
  replace K8 := K8.trans hK
  replace H8 : w10.heap[bx8]? = some (.cells #[.int .i64 n1, .int .i64 n2, .int .u32 n3, .int .u32 n4, .int .u64 n5, .int .u64 n6, .slice none 0 0, .slice none 0 0, .slice none 0 0, .slice none 0 0] 28 (0, 0)) := H_
  clear hC hK
  have Zw10 : w.heap.size ≤ w10.heap.size := CH.size
  refine wpo_all rfl ?_
  refine hKK6 _ _ ?_
  refine wp_seq_k fun KK7 hKK7 => ?_
  have L11_x11 := hr.lt
  refine raI (S := fun x => x = bx11) 74 4 sz [39, 40, 41, 42] [isV (.func (.func 35) #[] #[]), isV (.pointer (some ⟨bx11, 0, none⟩)), isRow w10.heap.size p7, isV (.pointer (some ⟨bx8, 6, none⟩))] [RdJ bx11 l6 q6, RdJ bx11 l6 q6, RdJ bx11 l6 q6, RdJ bx11 l7 q7, RdJ bx11 l7 q7] rfl (by decide) (by decide) (by decide) ?_ ?_ ?_ ?_
  · intro J hJ; cases hJ; exact hr
  · exact (sr_cons (sr_V _ _) (sr_cons (sr_V _ _) (sr_cons (sr_Row _ _ _) (sr_cons (sr_V _ _) (sr_nil _)))))
  ·refine sti_cons ?_ (sti_cons ?_ (sti_cons ?_ (sti_cons ?_ sti_nil)))
   ·refine sti rfl rfl rfl rfl rfl rfl rfl fun a w' hM hI hoff hp K hK => ?_
    have e6 : a.tmps[6]? = some (.func (.func 35) #[] #[]) := (hoff 6 rfl).trans e6
    clear hoff hp
    exact op_move rfl (ev e6) (hK _ _ (Rl.refl _ _) hI rfl)
   ·refine sti rfl rfl rfl rfl rfl rfl rfl fun a w' hM hI hoff hp K hK => ?_
    have e4 : a.tmps[4]? = some (.pointer (some ⟨bx11, 0, none⟩)) := (hoff 4 rfl).trans e4
    clear hoff hp
    exact ov  (hK _ _ (Rl.refl _ _) hI rfl)
   ·refine sti rfl rfl rfl rfl rfl rfl rfl fun a w' hM hI hoff hp K hK => ?_
    obtain ⟨_, e40, rfl⟩ := hp 1 rfl 40 _ rfl rfl
    obtain ⟨_, e39, rfl⟩ := hp 0 rfl 39 _ rfl rfl
    clear hoff hp
    have h_ := text_rd _ _ y6 h6 _ _ hI
    rw [ep7.out, el7.out, eb7.out] at h_
    refine op_callv Try.func35 (by kernel_rfl) rfl (by simp [Act.eval, e39]) #[.pointer (some ⟨bx11, 0, none⟩), .int .i64 2] rfl (by simp [Act.eval, e40]) h_ ?_
    rintro e w1 ⟨u, rfl, hR, hI2, hc, hk⟩
    exact ⟨u, rfl, hK _ _ ⟨hk, hc⟩ hI2 (hR.lower hM.keep.size)⟩
   ·refine sti rfl rfl rfl rfl rfl rfl rfl fun a w' hM hI hoff hp K hK => ?_
    have e8 : a.tmps[8]? = some (.pointer (some ⟨bx8, 0, none⟩)) := (hoff 8 rfl).trans e8
    clear hoff hp
    have hu := Try.underlying28
    exact ov  (hK _ _ (Rl.refl _ _) hI rfl)
  intro a11 w11 sz1 df1 hoff hvv hRl hJ
  replace hJ := hJ _ rfl
  replace H2 := hRl.chg.blk H2 nex2_x11
  replace H8 := hRl.chg.blk H8 nex8_x11
  replace hv := hv.keep hRl.keep
  replace CH := CH.trans hRl.chg (fun x hx h => (old_new hx G11 h).elim)
  replace K8 := K8.trans hRl.keep
  have hr := hJ
  obtain ⟨u41_11, e41, Kr41⟩ := hvv 2 _ _ rfl rfl
  replace Kr41 : Row w10.heap.size w11 u41_11 p7 := Kr41
  obtain ⟨_, e42, rfl⟩ := hvv 3 _ _ rfl rfl
  replace e0 := (hoff 0 rfl).trans e0
  replace e2 := (hoff 2 rfl).trans e2
  replace e3 := (hoff 3 rfl).trans e3
  replace e11 := (hoff 11 rfl).trans e11
  replace e4 := (hoff 4 rfl).trans e4
  replace e5 := (hoff 5 rfl).trans e5
  replace e6 := (hoff 6 rfl).trans e6
  replace e7 := (hoff 7 rfl).trans e7
  replace e28 := (hoff 28 rfl).trans e28
  replace e8 := (hoff 8 rfl).trans e8
  replace e31 := (hoff 31 rfl).trans e31
  replace e33 := (hoff 33 rfl).trans e33
  replace e36 := (hoff 36 rfl).trans e36
  replace e38 := (hoff 38 rfl).trans e38
  replace sz := sz1
  replace df := df1.trans df
  have Zw11 : w.heap.size ≤ w11.heap.size := CH.size
  clear sz1 df1 hoff hvv hRl hJ L11_x11
  refine wpo_step 4 _ rfl rfl (og_plain rfl ?_)
  refine op_store_cell 26 _ _ rfl bx8 6 (u41_11) (ev e42) (ev e41) 28 _ H8 (by kernel_rfl) (by simp) (row_one Kr41) (nbl ⟨rfl, rfl, rfl, rfl, rfl, rfl, rfl, rfl, rfl, rfl, trivial⟩) ?_
  intro w12 H_ hC hK
  change wpOps _ _ _ _ a11 w12
  replace H2 := hC.blk H2 nex2_x8
  replace hr := Rd.chg hr hC hK nex11_x8
  replace hv := hv.keep hK
  replace Kr41 := Kr41.keep hK
  replace CH := CH.trans hC (fun x hx h => (old_new hx G8 h).elim)
  replace K8 := K8.trans hK
  replace H8 : w12.heap[bx8]? = some (.cells #[.int .i64 n1, .int .i64 n2, .int .u32 n3, .int .u32 n4, .int .u64 n5, .int .u64 n6, u41_11, .slice none 0 0, .slice none 0 0, .slice none 0 0] 28 (0, 0)) := H_
  clear hC hK
  have Zw12 : w.heap.size ≤ w12.heap.size := CH.size
  refine wpo_all rfl ?_
  refine hKK7 _ _ ?_
  refine wp_seq_k fun KK8 hKK8 => ?_
  have L13_x11 := hr.lt
  refine raI (S := fun x => x = bx11) 74 4 sz [43, 44, 45, 46] [isV (.func (.func 36) #[] #[]), isV (.pointer (some ⟨bx11, 0, none⟩)), isRow w12.heap.size p8, isV (.pointer (some ⟨bx8, 7, none⟩))] [RdJ bx11 l7 q7, RdJ bx11 l7 q7, RdJ bx11 l7 q7, RdJ bx11 l8 q8, RdJ bx11 l8 q8] rfl (by decide) (by decide) (by decide) ?_ ?_ ?_ ?_
  · intro J hJ; cases hJ; exact hr
  · exact (sr_cons (sr_V _ _) (sr_cons (sr_V _ _) (sr_cons (sr_Row _ _ _) (sr_cons (sr_V _ _) (sr_nil _)))))
  ·refine sti_cons ?_ (sti_cons ?_ (sti_cons ?_ (sti_cons ?_ sti_nil)))
   ·refine sti rfl rfl rfl rfl rfl rfl rfl fun a w' hM hI hoff hp K hK => ?_
    have e7 : a.tmps[7]? = some (.func (.func 36) #[] #[]) := (hoff 7 rfl).trans e7
    clear hoff hp
    exact op_move rfl (ev e7) (hK _ _ (Rl.refl _ _) hI rfl)
   ·refine sti rfl rfl rfl rfl rfl rfl rfl fun a w' hM hI hoff hp K hK => ?_
    have e4 : a.tmps[4]? = some (.pointer (some ⟨bx11, 0, none⟩)) := (hoff 4 rfl).trans e4
    clear hoff hp
    exact ov  (hK _ _ (Rl.refl _ _) hI rfl)
   ·refine sti rfl rfl rfl rfl rfl rfl rfl fun a w' hM hI hoff hp K hK => ?_
    obtain ⟨_, e44, rfl⟩ := hp 1 rfl 44 _ rfl rfl
    obtain ⟨_, e43, rfl⟩ := hp 0 rfl 43 _ rfl rfl
    clear hoff hp
    have h_ := take_calls _ 1088 (by decide) _ h7 _ _ hI
    rw [ep8.out, el8.out, eb8.out] at h_
    refine op_callv Try.func36 (by kernel_rfl) rfl (by simp [Act.eval, e43]) #[.pointer (some ⟨bx11, 0, none⟩), .int .i64 1088] rfl (by simp [Act.eval, e44]) h_ ?_
    rintro e w1 ⟨u, rfl, hR, hI2, hc, hk⟩
    exact ⟨u, rfl, hK _ _ ⟨hk, hc⟩ hI2 (hR.lower hM.keep.size)⟩
   ·refine sti rfl rfl rfl rfl rfl rfl rfl fun a w' hM hI hoff hp K hK => ?_
    have e8 : a.tmps[8]? = some (.pointer (some ⟨bx8, 0, none⟩)) := (hoff 8 rfl).trans e8
    clear hoff hp
    have hu := Try.underlying28
    exact ov  (hK _ _ (Rl.refl _ _) hI rfl)
  intro a13 w13 sz1 df1 hoff hvv hRl hJ
  replace hJ := hJ _ rfl
  replace H2 := hRl.chg.blk H2 nex2_x11
  replace H8 := hRl.chg.blk H8 nex8_x11
  replace hv := hv.keep hRl.keep
  replace Kr41 := Kr41.keep hRl.keep
  replace CH := CH.trans hRl.chg (fun x hx h => (old_new hx G11 h).elim)
  replace K8 := K8.trans hRl.keep
  have hr := hJ
  obtain ⟨u45_13, e45, Kr45⟩ := hvv 2 _ _ rfl rfl
  replace Kr45 : Row w12.heap.size w13 u45_13 p8 := Kr45
  obtain ⟨_, e46, rfl⟩ := hvv 3 _ _ rfl rfl
  replace e0 := (hoff 0 rfl).trans e0
  replace e2 := (hoff 2 rfl).trans e2
  replace e3 := (hoff 3 rfl).trans e3
  replace e11 := (hoff 11 rfl).trans e11
  replace e4 := (hoff 4 rfl).trans e4
  replace e5 := (hoff 5 rfl).trans e5
  replace e6 := (hoff 6 rfl).trans e6
  replace e7 := (hoff 7 rfl).trans e7
  replace e28 := (hoff 28 rfl).trans e28
  replace e8 := (hoff 8 rfl).trans e8
  replace e31 := (hoff 31 rfl).trans e31
  replace e33 := (hoff 33 rfl).trans e33
  replace e36 := (hoff 36 rfl).trans e36
  replace e38 := (hoff 38 rfl).trans e38
  replace e41 := (hoff 41 rfl).trans e41
  replace e42 := (hoff 42 rfl).trans e42
  replace sz := sz1
  replace df := df1.trans df
  have Zw13 : w.heap.size ≤ w13.heap.size := CH.size
  clear sz1 df1 hoff hvv hRl hJ L13_x11
  refine wpo_step 4 _ rfl rfl (og_plain rfl ?_)
  refine op_store_cell 26 _ _ rfl bx8 7 (u45_13) (ev e46) (ev e45) 28 _ H8 (by kernel_rfl) (by simp) (row_one Kr45) (nbl ⟨rfl, rfl, rfl, rfl, rfl, rfl, row_nb Kr41, rfl, rfl, rfl, trivial⟩) ?_
  intro w14 H_ hC hK
  change wpOps _ _ _ _ a13 w14
  replace H2 := hC.blk H2 nex2_x8
  replace hr := Rd.chg hr hC hK nex11_x8
  replace hv := hv.keep hK
  replace Kr41 := Kr41.keep hK
  replace Kr45 := Kr45.keep hK
  replace CH := CH.trans hC (fun x hx h => (old_new hx G8 h).elim)
  replace K8 := K8.trans hK
  replace H8 : w14.heap[bx8]? = some (.cells #[.int .i64 n1, .int .i64 n2, .int .u32 n3, .int .u32 n4, .int .u64 n5, .int .u64 n6, u41_11, u45_13, .slice none 0 0, .slice none 0 0] 28 (0, 0)) := H_
  clear hC hK
  have Zw14 : w.heap.size ≤ w14.heap.size := CH.size
  refine wpo_all rfl ?_
  refine hKK8 _ _ ?_
  refine wp_seq_k fun KK9 hKK9 => ?_
  have L15_x11 := hr.lt
  refine raI (S := fun x => x = bx11) 74 4 sz [47, 48, 49, 50] [isV (.func (.func 35) #[] #[]), isV (.pointer (some ⟨bx11, 0, none⟩)), isRow w14.heap.size p9, isV (.pointer (some ⟨bx8, 8, none⟩))] [RdJ bx11 l8 q8, RdJ bx11 l8 q8, RdJ bx11 l8 q8, RdJ bx11 l9 q9, RdJ bx11 l9 q9] rfl (by decide) (by decide) (by decide) ?_ ?_ ?_ ?_
  · intro J hJ; cases hJ; exact hr
  · exact (sr_cons (sr_V _ _) (sr_cons (sr_V _ _) (sr_cons (sr_Row _ _ _) (sr_cons (sr_V _ _) (sr_nil _)))))
  ·refine sti_cons ?_ (sti_cons ?_ (sti_cons ?_ (sti_cons ?_ sti_nil)))
   ·refine sti rfl rfl rfl rfl rfl rfl rfl fun a w' hM hI hoff hp K hK => ?_
    have e6 : a.tmps[6]? = some (.func (.func 35) #[] #[]) := (hoff 6 rfl).trans e6
    clear hoff hp
    exact op_move rfl (ev e6) (hK _ _ (Rl.refl _ _) hI rfl)
   ·refine sti rfl rfl rfl rfl rfl rfl rfl fun a w' hM hI hoff hp K hK => ?_
    have e4 : a.tmps[4]? = some (.pointer (some ⟨bx11, 0, none⟩)) := (hoff 4 rfl).trans e4
    clear hoff hp
    exact ov  (hK _ _ (Rl.refl _ _) hI rfl)
   ·refine sti rfl rfl rfl rfl rfl rfl rfl fun a w' hM hI hoff hp K hK => ?_
    obtain ⟨_, e48, rfl⟩ := hp 1 rfl 48 _ rfl rfl
    obtain ⟨_, e47, rfl⟩ := hp 0 rfl 47 _ rfl rfl
    clear hoff hp
    have h_ := text_rd _ _ y8 h8 _ _ hI
    rw [ep9.out, el9.out, eb9.out] at h_
    refine op_callv Try.func35 (by kernel_rfl) rfl (by simp [Act.eval, e47]) #[.pointer (some ⟨bx11, 0, none⟩), .int .i64 2] rfl (by simp [Act.eval, e48]) h_ ?_
    rintro e w1 ⟨u, rfl, hR, hI2, hc, hk⟩
    exact ⟨u, rfl, hK _ _ ⟨hk, hc⟩ hI2 (hR.lower hM.keep.size)⟩
   ·refine sti rfl rfl rfl rfl rfl rfl rfl fun a w' hM hI hoff hp K hK => ?_
    have e8 : a.tmps[8]? = some (.pointer (some ⟨bx8, 0, none⟩)) := (hoff 8 rfl).trans e8
    clear hoff hp
    have hu := Try.underlying28
    exact ov  (hK _ _ (Rl.refl _ _) hI rfl)
  intro a15 w15 sz1 df1 hoff hvv hRl hJ
  replace hJ := hJ _ rfl
  replace H2 := hRl.chg.blk H2 nex2_x11
  replace H8 := hRl.chg.blk H8 nex8_x11
  replace hv := hv.keep hRl.keep
  replace Kr41 := Kr41.keep hRl.keep
  replace Kr45 := Kr45.keep hRl.keep
  replace CH := CH.trans hRl.chg (fun x hx h => (old_new hx G11 h).elim)
  replace K8 := K8.trans hRl.keep
  have hr := hJ
  obtain ⟨u49_15, e49, Kr49⟩ := hvv 2 _ _ rfl rfl
  replace Kr49 : Row w14.heap.size w15 u49_15 p9 := Kr49
  obtain ⟨_, e50, rfl⟩ := hvv 3 _ _ rfl rfl
  replace e0 := (hoff 0 rfl).trans e0
  replace e2 := (hoff 2 rfl).trans e2
  replace e3 := (hoff 3 rfl).trans e3
  replace e11 := (hoff 11 rfl).trans e11
  replace e4 := (hoff 4 rfl).trans e4
  replace e5 := (hoff 5 rfl).trans e5
  replace e6 := (hoff 6 rfl).trans e6
  replace e7 := (hoff 7 rfl).trans e7
  replace e28 := (hoff 28 rfl).trans e28
  replace e8 := (hoff 8 rfl).trans e8
  replace e31 := (hoff 31 rfl).trans e31
  replace e33 := (hoff 33 rfl).trans e33
  replace e36 := (hoff 36 rfl).trans e36
  replace e38 := (hoff 38 rfl).trans e38
  replace e41 := (hoff 41 rfl).trans e41
  replace e42 := (hoff 42 rfl).trans e42
  replace e45 := (hoff 45 rfl).trans e45
  replace e46 := (hoff 46 rfl).trans e46
  replace sz := sz1
  replace df := df1.trans df
  have Zw15 : w.heap.size ≤ w15.heap.size := CH.size
  clear sz1 df1 hoff hvv hRl hJ L15_x11
  refine wpo_step 4 _ rfl rfl (og_plain rfl ?_)
  refine op_store_cell 26 _ _ rfl bx8 8 (u49_15) (ev e50) (ev e49) 28 _ H8 (by kernel_rfl) (by simp) (row_one Kr49) (nbl ⟨rfl, rfl, rfl, rfl, rfl, rfl, row_nb Kr41, row_nb Kr45, rfl, rfl, trivial⟩) ?_
  intro w16 H_ hC hK
  change wpOps _ _ _ _ a15 w16
  replace H2 := hC.blk H2 nex2_x8
  replace hr := Rd.chg hr hC hK nex11_x8
  replace hv := hv.keep hK
  replace Kr41 := Kr41.keep hK
  replace Kr45 := Kr45.keep hK
  replace Kr49 := Kr49.keep hK
  replace CH := CH.trans hC (fun x hx h => (old_new hx G8 h).elim)
  replace K8 := K8.trans hK
  replace H8 : w16.heap[bx8]? = some (.cells #[.int .i64 n1, .int .i64 n2, .int .u32 n3, .int .u32 n4, .int .u64 n5, .int .u64 n6, u41_11, u45_13, u49_15, .slice none 0 0] 28 (0, 0)) := H_
  clear hC hK
  have Zw16 : w.heap.size ≤ w16.heap.size := CH.size
  refine wpo_all rfl ?_
  refine hKK9 _ _ ?_
  refine wp_seq_k fun KK10 hKK10 => ?_
  have L17_x11 := hr.lt
  refine raI (S := fun x => x = bx11) 74 4 sz [51, 52, 53, 54] [isV (.func (.func 36) #[] #[]), isV (.pointer (some ⟨bx11, 0, none⟩)), isRow w16.heap.size p10, isV (.pointer (some ⟨bx8, 9, none⟩))] [RdJ bx11 l9 q9, RdJ bx11 l9 q9, RdJ bx11 l9 q9, RdJ bx11 l10 q10, RdJ bx11 l10 q10] rfl (by decide) (by decide) (by decide) ?_ ?_ ?_ ?_
  · intro J hJ; cases hJ; exact hr
  · exact (sr_cons (sr_V _ _) (sr_cons (sr_V _ _) (sr_cons (sr_Row _ _ _) (sr_cons (sr_V _ _) (sr_nil _)))))
  ·refine sti_cons ?_ (sti_cons ?_ (sti_cons ?_ (sti_cons ?_ sti_nil)))
   ·refine sti rfl rfl rfl rfl rfl rfl rfl fun a w' hM hI hoff hp K hK => ?_
    have e7 : a.tmps[7]? = some (.func (.func 36) #[] #[]) := (hoff 7 rfl).trans e7
    clear hoff hp
    exact op_move rfl (ev e7) (hK _ _ (Rl.refl _ _) hI rfl)
   ·refine sti rfl rfl rfl rfl rfl rfl rfl fun a w' hM hI hoff hp K hK => ?_
    have e4 : a.tmps[4]? = some (.pointer (some ⟨bx11, 0, none⟩)) := (hoff 4 rfl).trans e4
    clear hoff hp
    exact ov  (hK _ _ (Rl.refl _ _) hI rfl)
   ·refine sti rfl rfl rfl rfl rfl rfl rfl fun a w' hM hI hoff hp K hK => ?_
    obtain ⟨_, e52, rfl⟩ := hp 1 rfl 52 _ rfl rfl
    obtain ⟨_, e51, rfl⟩ := hp 0 rfl 51 _ rfl rfl
    clear hoff hp
    have h_ := take_calls _ 3309 (by decide) _ h9 _ _ hI
    rw [ep10.out, el10.out, eb10.out] at h_
    refine op_callv Try.func36 (by kernel_rfl) rfl (by simp [Act.eval, e51]) #[.pointer (some ⟨bx11, 0, none⟩), .int .i64 3309] rfl (by simp [Act.eval, e52]) h_ ?_
    rintro e w1 ⟨u, rfl, hR, hI2, hc, hk⟩
    exact ⟨u, rfl, hK _ _ ⟨hk, hc⟩ hI2 (hR.lower hM.keep.size)⟩
   ·refine sti rfl rfl rfl rfl rfl rfl rfl fun a w' hM hI hoff hp K hK => ?_
    have e8 : a.tmps[8]? = some (.pointer (some ⟨bx8, 0, none⟩)) := (hoff 8 rfl).trans e8
    clear hoff hp
    have hu := Try.underlying28
    exact ov  (hK _ _ (Rl.refl _ _) hI rfl)
  intro a17 w17 sz1 df1 hoff hvv hRl hJ
  replace hJ := hJ _ rfl
  replace H2 := hRl.chg.blk H2 nex2_x11
  replace H8 := hRl.chg.blk H8 nex8_x11
  replace hv := hv.keep hRl.keep
  replace Kr41 := Kr41.keep hRl.keep
  replace Kr45 := Kr45.keep hRl.keep
  replace Kr49 := Kr49.keep hRl.keep
  replace CH := CH.trans hRl.chg (fun x hx h => (old_new hx G11 h).elim)
  replace K8 := K8.trans hRl.keep
  have hr := hJ
  obtain ⟨u53_17, e53, Kr53⟩ := hvv 2 _ _ rfl rfl
  replace Kr53 : Row w16.heap.size w17 u53_17 p10 := Kr53
  obtain ⟨_, e54, rfl⟩ := hvv 3 _ _ rfl rfl
  replace e0 := (hoff 0 rfl).trans e0
  replace e2 := (hoff 2 rfl).trans e2
  replace e3 := (hoff 3 rfl).trans e3
  replace e11 := (hoff 11 rfl).trans e11
  replace e4 := (hoff 4 rfl).trans e4
  replace e5 := (hoff 5 rfl).trans e5
  replace e6 := (hoff 6 rfl).trans e6
  replace e7 := (hoff 7 rfl).trans e7
  replace e28 := (hoff 28 rfl).trans e28
  replace e8 := (hoff 8 rfl).trans e8
  replace e31 := (hoff 31 rfl).trans e31
  replace e33 := (hoff 33 rfl).trans e33
  replace e36 := (hoff 36 rfl).trans e36
  replace e38 := (hoff 38 rfl).trans e38
  replace e41 := (hoff 41 rfl).trans e41
  replace e42 := (hoff 42 rfl).trans e42
  replace e45 := (hoff 45 rfl).trans e45
  replace e46 := (hoff 46 rfl).trans e46
  replace e49 := (hoff 49 rfl).trans e49
  replace e50 := (hoff 50 rfl).trans e50
  replace sz := sz1
  replace df := df1.trans df
  have Zw17 : w.heap.size ≤ w17.heap.size := CH.size
  clear sz1 df1 hoff hvv hRl hJ L17_x11
  refine wpo_step 4 _ rfl rfl (og_plain rfl ?_)
  refine op_store_cell 26 _ _ rfl bx8 9 (u53_17) (ev e54) (ev e53) 28 _ H8 (by kernel_rfl) (by simp) (row_one Kr53) (nbl ⟨rfl, rfl, rfl, rfl, rfl, rfl, row_nb Kr41, row_nb Kr45, row_nb Kr49, rfl, trivial⟩) ?_
  intro w18 H_ hC hK
  change wpOps _ _ _ _ a17 w18
  replace H2 := hC.blk H2 nex2_x8
  replace hr := Rd.chg hr hC hK nex11_x8
  replace hv := hv.keep hK
  replace Kr41 := Kr41.keep hK
  replace Kr45 := Kr45.keep hK
  replace Kr49 := Kr49.keep hK
  replace Kr53 := Kr53.keep hK
  replace CH := CH.trans hC (fun x hx h => (old_new hx G8 h).elim)
  replace K8 := K8.trans hK
  replace H8 : w18.heap[bx8]? = some (.cells #[.int .i64 n1, .int .i64 n2, .int .u32 n3, .int .u32 n4, .int .u64 n5, .int .u64 n6, u41_11, u45_13, u49_15, u53_17] 28 (0, 0)) := H_
  clear hC hK
  have Zw18 : w.heap.size ≤ w18.heap.size := CH.size
  refine wpo_all rfl ?_
  refine hKK10 _ _ ?_
  refine wp_seq_k fun KK11 hKK11 => ?_
  refine wp_seq_k fun KK12 hKK12 => ?_
  rcases get_cases q10 l10 ⟨n1, n2, n3, n4, n5, n6, p7, p8, p9, p10⟩ with hq0 | ⟨hq0, hl10⟩ | ⟨hq0, hl10, hm⟩ | ⟨hq0, hl10, hm⟩
  ·skip
   have hq := hq0
   rw [hq] at hr
   clear hq
   refine raI (S := fun _ => False) 74 17 sz [55, 56, 57, 58, 59, 60, 61, 62, 63, 64, 65, 66, 67, 68, 69, 70, 71] [isV (.pointer (some ⟨bx11, 0, none⟩)), isV (.pointer (some ⟨bx11, 0, none⟩)), isV (.pointer (some ⟨bx11, 1, none⟩)), isV (.bool true), isV (.bool true), isV (undef), isV (undef), isV (undef), isV (undef), isV (undef), isV (undef), isV (.bool true), isV (.bool true), isV (undef), isV (undef), isV (undef), isV (.bool true)] [Tr, Tr, Tr, Tr, Tr, Tr, Tr, Tr, Tr, Tr, Tr, Tr, Tr, Tr, Tr, Tr, Tr, Tr] rfl (by decide) (by decide) (by decide) ?_ ?_ ?_ ?_
   · intro J hJ; cases hJ; exact trivial
   · exact (sr_cons (sr_V _ _) (sr_cons (sr_V _ _) (sr_cons (sr_V _ _) (sr_cons (sr_V _ _) (sr_cons (sr_V _ _) (sr_cons (sr_V _ _) (sr_cons (sr_V _ _) (sr_cons (sr_V _ _) (sr_cons (sr_V _ _) (sr_cons (sr_V _ _) (sr_cons (sr_V _ _) (sr_cons (sr_V _ _) (sr_cons (sr_V _ _) (sr_cons (sr_V _ _) (sr_cons (sr_V _ _) (sr_cons (sr_V _ _) (sr_cons (sr_V _ _) (sr_nil _))))))))))))))))))
   ·refine sti_cons ?_ (sti_cons ?_ (sti_cons ?_ (sti_cons ?_ (sti_cons ?_ (sti_cons ?_ (sti_cons ?_ (sti_cons ?_ (sti_cons ?_ (sti_cons ?_ (sti_cons ?_ (sti_cons ?_ (sti_cons ?_ (sti_cons ?_ (sti_cons ?_ (sti_cons ?_ (sti_cons ?_ sti_nil))))))))))))))))
    ·refine sti rfl rfl rfl rfl rfl rfl rfl fun a w' hM hI hoff hp K hK => ?_
     have e4 : a.tmps[4]? = some (.pointer (some ⟨bx11, 0, none⟩)) := (hoff 4 rfl).trans e4
     clear hoff hp
     exact ov  (hK _ _ (Rl.refl _ _) trivial rfl)
    ·refine sti rfl rfl rfl rfl rfl rfl rfl fun a w' hM hI hoff hp K hK => ?_
     obtain ⟨_, e55, rfl⟩ := hp 0 rfl 55 _ rfl rfl
     clear hoff hp
     exact ov  (hK _ _ (Rl.refl _ _) trivial rfl)
    ·refine sti rfl rfl rfl rfl rfl rfl rfl fun a w' hM hI hoff hp K hK => ?_
     obtain ⟨_, e56, rfl⟩ := hp 1 rfl 56 _ rfl rfl
     clear hoff hp
     have hu := Try.underlying50
     exact ov  (hK _ _ (Rl.refl _ _) trivial rfl)
    ·refine sti rfl rfl rfl rfl rfl rfl rfl fun a w' hM hI hoff hp K hK => ?_
     obtain ⟨_, e57, rfl⟩ := hp 2 rfl 57 _ rfl rfl
     clear hoff hp
     obtain ⟨vr, hJ_, hvr⟩ := (Rd.chg hr hM.chg hM.keep (fun h => h))
     have d1 : w'.cell? ⟨bx11, 1, none⟩ = some (.bool true) := (blk_cell hJ_ 1).trans rfl
     exact ov  (hK _ _ (Rl.refl _ _) trivial rfl)
    ·refine sti rfl rfl rfl rfl rfl rfl rfl fun a w' hM hI hoff hp K hK => ?_
     obtain ⟨_, e58, rfl⟩ := hp 3 rfl 58 _ rfl rfl
     clear hoff hp
     exact ov  (hK _ _ (Rl.refl _ _) trivial rfl)
    ·exact stin 4 rfl rfl rfl rfl rfl rfl rfl rfl rfl rfl rfl (by simp)
    ·exact stin 4 rfl rfl rfl rfl rfl rfl rfl rfl rfl rfl rfl (by simp)
    ·exact stin 4 rfl rfl rfl rfl rfl rfl rfl rfl rfl rfl rfl (by simp)
    ·exact stin 4 rfl rfl rfl rfl rfl rfl rfl rfl rfl rfl rfl (by simp)
    ·exact stin 4 rfl rfl rfl rfl rfl rfl rfl rfl rfl rfl rfl (by simp)
    ·exact stin 4 rfl rfl rfl rfl rfl rfl rfl rfl rfl rfl rfl (by simp)
    ·refine sti rfl rfl rfl rfl rfl rfl rfl fun a w' hM hI hoff hp K hK => ?_
     obtain ⟨_, e59, rfl⟩ := hp 4 rfl 59 _ rfl rfl
     clear hoff hp
     exact ov  (hK _ _ (Rl.refl _ _) trivial rfl)
    ·refine sti rfl rfl rfl rfl rfl rfl rfl fun a w' hM hI hoff hp K hK => ?_
     obtain ⟨_, e66, rfl⟩ := hp 11 rfl 66 _ rfl rfl
     clear hoff hp
     exact ov  (hK _ _ (Rl.refl _ _) trivial rfl)
    ·exact stin 12 rfl rfl rfl rfl rfl rfl rfl rfl rfl rfl rfl (by simp)
    ·exact stin 12 rfl rfl rfl rfl rfl rfl rfl rfl rfl rfl rfl (by simp)
    ·exact stin 12 rfl rfl rfl rfl rfl rfl rfl rfl rfl rfl rfl (by simp)
    ·refine sti rfl rfl rfl rfl rfl rfl rfl fun a w' hM hI hoff hp K hK => ?_
     obtain ⟨_, e67, rfl⟩ := hp 12 rfl 67 _ rfl rfl
     clear hoff hp
     exact ov  (hK _ _ (Rl.refl _ _) trivial rfl)
   intro a19 w19 sz1 df1 hoff hvv hRl hJ
   replace H2 := hRl.chg.blk H2 (fun h => h.elim)
   replace hr := Rd.chg hr hRl.chg hRl.keep (fun h => h.elim)
   replace H8 := hRl.chg.blk H8 (fun h => h.elim)
   replace hv := hv.keep hRl.keep
   replace Kr41 := Kr41.keep hRl.keep
   replace Kr45 := Kr45.keep hRl.keep
   replace Kr49 := Kr49.keep hRl.keep
   replace Kr53 := Kr53.keep hRl.keep
   replace CH := CH.trans hRl.chg (fun _ _ h => h.elim)
   replace K8 := K8.trans hRl.keep
   obtain ⟨_, e71, rfl⟩ := hvv 16 _ _ rfl rfl
   replace e0 := (hoff 0 rfl).trans e0
   replace e2 := (hoff 2 rfl).trans e2
   replace e3 := (hoff 3 rfl).trans e3
   replace e11 := (hoff 11 rfl).trans e11
   replace e4 := (hoff 4 rfl).trans e4
   replace e5 := (hoff 5 rfl).trans e5
   replace e6 := (hoff 6 rfl).trans e6
   replace e7 := (hoff 7 rfl).trans e7
   replace e28 := (hoff 28 rfl).trans e28
   replace e8 := (hoff 8 rfl).trans e8
   replace e31 := (hoff 31 rfl).trans e31
   replace e33 := (hoff 33 rfl).trans e33
   replace e36 := (hoff 36 rfl).trans e36
   replace e38 := (hoff 38 rfl).trans e38
   replace e41 := (hoff 41 rfl).trans e41
   replace e42 := (hoff 42 rfl).trans e42
   replace e45 := (hoff 45 rfl).trans e45
   replace e46 := (hoff 46 rfl).trans e46
   replace e49 := (hoff 49 rfl).trans e49
   replace e50 := (hoff 50 rfl).trans e50
   replace e53 := (hoff 53 rfl).trans e53
   replace e54 := (hoff 54 rfl).trans e54
   replace sz := sz1
   replace df := df1.trans df
   have Zw19 : w.heap.size ≤ w19.heap.size := CH.size
   clear sz1 df1 hoff hvv hRl hJ
   refine wpo_all rfl ?_
   refine hKK12 _ _ ?_
   refine wp_cond_true (ev e71) ?_
   refine wp_seq_k fun KK13 hKK13 => ?_
   refine raI (S := fun _ => False) 74 1 sz [72] [isV (.agg #[.int .i64 0, .int .i64 0, .int .u32 0, .int .u32 0, .int .u64 0, .int .u64 0, .slice none 0 0, .slice none 0 0, .slice none 0 0, .slice none 0 0])] [Tr, Tr] rfl (by decide) (by decide) (by decide) ?_ ?_ ?_ ?_
   · intro J hJ; cases hJ; exact trivial
   · exact (sr_cons (sr_V _ _) (sr_nil _))
   ·refine sti_cons ?_ sti_nil
    ·refine sti rfl rfl rfl rfl rfl rfl rfl fun a w' hM hI hoff hp K hK => ?_
     clear hoff hp
     have hu := Try.underlying28
     have hv_25 := Try.underlying25
     exact ov  (hK _ _ (Rl.refl _ _) trivial rfl)
   intro a20 w20 sz1 df1 hoff hvv hRl hJ
   replace H2 := hRl.chg.blk H2 (fun h => h.elim)
   replace hr := Rd.chg hr hRl.chg hRl.keep (fun h => h.elim)
   replace H8 := hRl.chg.blk H8 (fun h => h.elim)
   replace hv := hv.keep hRl.keep
   replace Kr41 := Kr41.keep hRl.keep
   replace Kr45 := Kr45.keep hRl.keep
   replace Kr49 := Kr49.keep hRl.keep
   replace Kr53 := Kr53.keep hRl.keep
   replace CH := CH.trans hRl.chg (fun _ _ h => h.elim)
   replace K8 := K8.trans hRl.keep
   obtain ⟨_, e72, rfl⟩ := hvv 0 _ _ rfl rfl
   replace e0 := (hoff 0 rfl).trans e0
   replace e2 := (hoff 2 rfl).trans e2
   replace e3 := (hoff 3 rfl).trans e3
   replace e11 := (hoff 11 rfl).trans e11
   replace e4 := (hoff 4 rfl).trans e4
   replace e5 := (hoff 5 rfl).trans e5
   replace e6 := (hoff 6 rfl).trans e6
   replace e7 := (hoff 7 rfl).trans e7
   replace e28 := (hoff 28 rfl).trans e28
   replace e8 := (hoff 8 rfl).trans e8
   replace e31 := (hoff 31 rfl).trans e31
   replace e33 := (hoff 33 rfl).trans e33
   replace e36 := (hoff 36 rfl).trans e36
   replace e38 := (hoff 38 rfl).trans e38
   replace e41 := (hoff 41 rfl).trans e41
   replace e42 := (hoff 42 rfl).trans e42
   replace e45 := (hoff 45 rfl).trans e45
   replace e46 := (hoff 46 rfl).trans e46
   replace e49 := (hoff 49 rfl).trans e49
   replace e50 := (hoff 50 rfl).trans e50
   replace e53 := (hoff 53 rfl).trans e53
   replace e54 := (hoff 54 rfl).trans e54
   replace e71 := (hoff 71 rfl).trans e71
   replace sz := sz1
   replace df := df1.trans df
   have Zw20 : w.heap.size ≤ w20.heap.size := CH.size
   clear sz1 df1 hoff hvv hRl hJ
   refine wpo_step 1 _ rfl rfl (og_plain rfl ?_)
   refine op_store_row 28 _ _ rfl bx2 #[.int .i64 0, .int .i64 0, .int .u32 0, .int .u32 0, .int .u64 0, .int .u64 0, .slice none 0 0, .slice none 0 0, .slice none 0 0, .slice none 0 0] (ev e2) (ev e72) 28 _ H2 (by kernel_rfl) rfl (onel ⟨rfl, rfl, rfl, rfl, rfl, rfl, rfl, rfl, rfl, rfl, trivial⟩) (nbl ⟨rfl, rfl, rfl, rfl, rfl, rfl, rfl, rfl, rfl, rfl, trivial⟩) ?_
   intro w21 H_ hC hK
   change wpOps _ _ _ _ a20 w21
   replace hr := Rd.chg hr hC hK nex11_x2
   replace H8 := hC.blk H8 nex8_x2
   replace hv := hv.keep hK
   replace Kr41 := Kr41.keep hK
   replace Kr45 := Kr45.keep hK
   replace Kr49 := Kr49.keep hK
   replace Kr53 := Kr53.keep hK
   replace CH := CH.trans hC (fun x hx h => (old_new hx G2 h).elim)
   replace K8 := K8.trans hK
   replace H2 : w21.heap[bx2]? = some (.cells #[.int .i64 0, .int .i64 0, .int .u32 0, .int .u32 0, .int .u64 0, .int .u64 0, .slice none 0 0, .slice none 0 0, .slice none 0 0, .slice none 0 0] 28 (0, 0)) := H_
   clear hC hK
   have Zw21 : w.heap.size ≤ w21.heap.size := CH.size
   refine wpo_step 2 _ rfl rfl (og_plain rfl ?_)
   refine op_assign rfl (v := .int .i64 230) rfl ?_
   refine abs_put (K := fun x => wpOps _ _ _ _ x _) (t := 3) sz (by decide) fun a22 sz1 df1 e_new hoff => ?_
   replace e0 := (hoff 0 rfl).trans e0
   replace e2 := (hoff 2 rfl).trans e2
   replace e11 := (hoff 11 rfl).trans e11
   replace e4 := (hoff 4 rfl).trans e4
   replace e5 := (hoff 5 rfl).trans e5
   replace e6 := (hoff 6 rfl).trans e6
   replace e7 := (hoff 7 rfl).trans e7
   replace e28 := (hoff 28 rfl).trans e28
   replace e8 := (hoff 8 rfl).trans e8
   replace e31 := (hoff 31 rfl).trans e31
   replace e33 := (hoff 33 rfl).trans e33
   replace e36 := (hoff 36 rfl).trans e36
   replace e38 := (hoff 38 rfl).trans e38
   replace e41 := (hoff 41 rfl).trans e41
   replace e42 := (hoff 42 rfl).trans e42
   replace e45 := (hoff 45 rfl).trans e45
   replace e46 := (hoff 46 rfl).trans e46
   replace e49 := (hoff 49 rfl).trans e49
   replace e50 := (hoff 50 rfl).trans e50
   replace e53 := (hoff 53 rfl).trans e53
   replace e54 := (hoff 54 rfl).trans e54
   replace e71 := (hoff 71 rfl).trans e71
   replace e72 := (hoff 72 rfl).trans e72
   have e3 := e_new
   replace sz := sz1
   replace df := df1.trans df
   clear sz1 df1 hoff e_new
   refine wpo_all rfl ?_
   refine hKK13 _ _ ?_
   refine wp_ret ?_
   refine then_r ?_
   exact retc rfl df bx2 28 _ _ _ e2 e3 H2 Try.underlying28 rfl (by kernel_rfl) ⟨_, rfl, ⟨_, .inl ⟨.inl hq0, rfl, ⟨_, _, _, _, rfl, Row.nil _ _, Row.nil _ _, Row.nil _ _, Row.nil _ _⟩⟩⟩, CH.below (fun _ _ h => h)⟩
  ·skip
   have hq := hq0
   rw [hq] at hr
   clear hq
   refine raI (S := fun _ => False) 74 17 sz [55, 56, 57, 58, 59, 60, 61, 62, 63, 64, 65, 66, 67, 68, 69, 70, 71] [isV (.pointer (some ⟨bx11, 0, none⟩)), isV (.pointer (some ⟨bx11, 0, none⟩)), isV (.pointer (some ⟨bx11, 1, none⟩)), isV (.bool false), isV (.bool false), isV (.pointer (some ⟨bx11, 0, none⟩)), isV (.pointer (some ⟨bx11, 0, none⟩)), isV (.pointer (some ⟨bx11, 0, none⟩)), isRow 0 l10, isV (.int .i64 (l10).length), isV (.bool true), isV (.bool true), isV (.bool true), isV (undef), isV (undef), isV (undef), isV (.bool true)] [Tr, Tr, Tr, Tr, Tr, Tr, Tr, Tr, Tr, Tr, Tr, Tr, Tr, Tr, Tr, Tr, Tr, Tr] rfl (by decide) (by decide) (by decide) ?_ ?_ ?_ ?_
   · intro J hJ; cases hJ; exact trivial
   · exact (sr_cons (sr_V _ _) (sr_cons (sr_V _ _) (sr_cons (sr_V _ _) (sr_cons (sr_V _ _) (sr_cons (sr_V _ _) (sr_cons (sr_V _ _) (sr_cons (sr_V _ _) (sr_cons (sr_V _ _) (sr_cons (sr_Row _ _ _) (sr_cons (sr_V _ _) (sr_cons (sr_V _ _) (sr_cons (sr_V _ _) (sr_cons (sr_V _ _) (sr_cons (sr_V _ _) (sr_cons (sr_V _ _) (sr_cons (sr_V _ _) (sr_cons (sr_V _ _) (sr_nil _))))))))))))))))))
   ·refine sti_cons ?_ (sti_cons ?_ (sti_cons ?_ (sti_cons ?_ (sti_cons ?_ (sti_cons ?_ (sti_cons ?_ (sti_cons ?_ (sti_cons ?_ (sti_cons ?_ (sti_cons ?_ (sti_cons ?_ (sti_cons ?_ (sti_cons ?_ (sti_cons ?_ (sti_cons ?_ (sti_cons ?_ sti_nil))))))))))))))))
    ·refine sti rfl rfl rfl rfl rfl rfl rfl fun a w' hM hI hoff hp K hK => ?_
     have e4 : a.tmps[4]? = some (.pointer (some ⟨bx11, 0, none⟩)) := (hoff 4 rfl).trans e4
     clear hoff hp
     exact ov  (hK _ _ (Rl.refl _ _) trivial rfl)
    ·refine sti rfl rfl rfl rfl rfl rfl rfl fun a w' hM hI hoff hp K hK => ?_
     obtain ⟨_, e55, rfl⟩ := hp 0 rfl 55 _ rfl rfl
     clear hoff hp
     exact ov  (hK _ _ (Rl.refl _ _) trivial rfl)
    ·refine sti rfl rfl rfl rfl rfl rfl rfl fun a w' hM hI hoff hp K hK => ?_
     obtain ⟨_, e56, rfl⟩ := hp 1 rfl 56 _ rfl rfl
     clear hoff hp
     have hu := Try.underlying50
     exact ov  (hK _ _ (Rl.refl _ _) trivial rfl)
    ·refine sti rfl rfl rfl rfl rfl rfl rfl fun a w' hM hI hoff hp K hK => ?_
     obtain ⟨_, e57, rfl⟩ := hp 2 rfl 57 _ rfl rfl
     clear hoff hp
     obtain ⟨vr, hJ_, hvr⟩ := (Rd.chg hr hM.chg hM.keep (fun h => h))
     have d1 : w'.cell? ⟨bx11, 1, none⟩ = some (.bool false) := (blk_cell hJ_ 1).trans rfl
     exact ov  (hK _ _ (Rl.refl _ _) trivial rfl)
    ·refine sti rfl rfl rfl rfl rfl rfl rfl fun a w' hM hI hoff hp K hK => ?_
     obtain ⟨_, e58, rfl⟩ := hp 3 rfl 58 _ rfl rfl
     clear hoff hp
     exact ov  (hK _ _ (Rl.refl _ _) trivial rfl)
    ·refine stiy 4 rfl rfl rfl rfl rfl rfl rfl rfl rfl rfl rfl fun a w' hM hI hoff hp K hK => ?_
     have e4 : a.tmps[4]? = some (.pointer (some ⟨bx11, 0, none⟩)) := (hoff 4 rfl).trans e4
     clear hoff hp
     exact ov  (hK _ _ (Rl.refl _ _) trivial rfl)
    ·refine stiy 4 rfl rfl rfl rfl rfl rfl rfl rfl rfl rfl rfl fun a w' hM hI hoff hp K hK => ?_
     obtain ⟨_, e60, rfl⟩ := hp 5 rfl 60 _ rfl rfl
     clear hoff hp
     exact ov  (hK _ _ (Rl.refl _ _) trivial rfl)
    ·refine stiy 4 rfl rfl rfl rfl rfl rfl rfl rfl rfl rfl rfl fun a w' hM hI hoff hp K hK => ?_
     obtain ⟨_, e61, rfl⟩ := hp 6 rfl 61 _ rfl rfl
     clear hoff hp
     have hu := Try.underlying50
     exact ov  (hK _ _ (Rl.refl _ _) trivial rfl)
    ·refine stiy 4 rfl rfl rfl rfl rfl rfl rfl rfl rfl rfl rfl fun a w' hM hI hoff hp K hK => ?_
     obtain ⟨_, e62, rfl⟩ := hp 7 rfl 62 _ rfl rfl
     clear hoff hp
     obtain ⟨vr, hJ_, hvr⟩ := (Rd.chg hr hM.chg hM.keep (fun h => h))
     have d0 : w'.cell? ⟨bx11, 0, none⟩ = some (vr) := (blk_cell hJ_ 0).trans rfl
     exact ov  (hK _ _ (Rl.refl _ _) trivial hvr)
    ·refine stiy 4 rfl rfl rfl rfl rfl rfl rfl rfl rfl rfl rfl fun a w' hM hI hoff hp K hK => ?_
     obtain ⟨v63, e63, h63⟩ := hp 8 rfl 63 _ rfl rfl
     clear hoff hp
     have hlen := row_len (P := Try.prog) h63 ⟨_, Try.underlying26⟩
     exact ov  (hK _ _ (Rl.refl _ _) trivial rfl)
    ·refine stiy 4 rfl rfl rfl rfl rfl rfl rfl rfl rfl rfl rfl fun a w' hM hI hoff hp K hK => ?_
     obtain ⟨_, e64, rfl⟩ := hp 9 rfl 64 _ rfl rfl
     clear hoff hp
     have q1 : decide ((0 : Int) < (l10.length : Int)) = true := by rw [decide_eq_true_eq]; omega
     exact ov  (hK _ _ (Rl.refl _ _) trivial rfl)
    ·refine sti rfl rfl rfl rfl rfl rfl rfl fun a w' hM hI hoff hp K hK => ?_
     obtain ⟨_, e59, rfl⟩ := hp 4 rfl 59 _ rfl rfl
     obtain ⟨_, e65, rfl⟩ := hp 10 rfl 65 _ rfl rfl
     clear hoff hp
     exact ov  (hK _ _ (Rl.refl _ _) trivial rfl)
    ·refine sti rfl rfl rfl rfl rfl rfl rfl fun a w' hM hI hoff hp K hK => ?_
     obtain ⟨_, e66, rfl⟩ := hp 11 rfl 66 _ rfl rfl
     clear hoff hp
     exact ov  (hK _ _ (Rl.refl _ _) trivial rfl)
    ·exact stin 12 rfl rfl rfl rfl rfl rfl rfl rfl rfl rfl rfl (by simp)
    ·exact stin 12 rfl rfl rfl rfl rfl rfl rfl rfl rfl rfl rfl (by simp)
    ·exact stin 12 rfl rfl rfl rfl rfl rfl rfl rfl rfl rfl rfl (by simp)
    ·refine sti rfl rfl rfl rfl rfl rfl rfl fun a w' hM hI hoff hp K hK => ?_
     obtain ⟨_, e67, rfl⟩ := hp 12 rfl 67 _ rfl rfl
     clear hoff hp
     exact ov  (hK _ _ (Rl.refl _ _) trivial rfl)
   intro a23 w23 sz1 df1 hoff hvv hRl hJ
   replace H2 := hRl.chg.blk H2 (fun h => h.elim)
   replace hr := Rd.chg hr hRl.chg hRl.keep (fun h => h.elim)
   replace H8 := hRl.chg.blk H8 (fun h => h.elim)
   replace hv := hv.keep hRl.keep
   replace Kr41 := Kr41.keep hRl.keep
   replace Kr45 := Kr45.keep hRl.keep
   replace Kr49 := Kr49.keep hRl.keep
   replace Kr53 := Kr53.keep hRl.keep
   replace CH := CH.trans hRl.chg (fun _ _ h => h.elim)
   replace K8 := K8.trans hRl.keep
   obtain ⟨_, e71, rfl⟩ := hvv 16 _ _ rfl rfl
   replace e0 := (hoff 0 rfl).trans e0
   replace e2 := (hoff 2 rfl).trans e2
   replace e3 := (hoff 3 rfl).trans e3
   replace e11 := (hoff 11 rfl).trans e11
   replace e4 := (hoff 4 rfl).trans e4
   replace e5 := (hoff 5 rfl).trans e5
   replace e6 := (hoff 6 rfl).trans e6
   replace e7 := (hoff 7 rfl).trans e7
   replace e28 := (hoff 28 rfl).trans e28
   replace e8 := (hoff 8 rfl).trans e8
   replace e31 := (hoff 31 rfl).trans e31
   replace e33 := (hoff 33 rfl).trans e33
   replace e36 := (hoff 36 rfl).trans e36
   replace e38 := (hoff 38 rfl).trans e38
   replace e41 := (hoff 41 rfl).trans e41
   replace e42 := (hoff 42 rfl).trans e42
   replace e45 := (hoff 45 rfl).trans e45
   replace e46 := (hoff 46 rfl).trans e46
   replace e49 := (hoff 49 rfl).trans e49
   replace e50 := (hoff 50 rfl).trans e50
   replace e53 := (hoff 53 rfl).trans e53
   replace e54 := (hoff 54 rfl).trans e54
   replace sz := sz1
   replace df := df1.trans df
   have Zw23 : w.heap.size ≤ w23.heap.size := CH.size
   clear sz1 df1 hoff hvv hRl hJ
   refine wpo_all rfl ?_
   refine hKK12 _ _ ?_
   refine wp_cond_true (ev e71) ?_
   refine wp_seq_k fun KK14 hKK14 => ?_
   refine raI (S := fun _ => False) 74 1 sz [72] [isV (.agg #[.int .i64 0, .int .i64 0, .int .u32 0, .int .u32 0, .int .u64 0, .int .u64 0, .slice none 0 0, .slice none 0 0, .slice none 0 0, .slice none 0 0])] [Tr, Tr] rfl (by decide) (by decide) (by decide) ?_ ?_ ?_ ?_
   · intro J hJ; cases hJ; exact trivial
   · exact (sr_cons (sr_V _ _) (sr_nil _))
   ·refine sti_cons ?_ sti_nil
    ·refine sti rfl rfl rfl rfl rfl rfl rfl fun a w' hM hI hoff hp K hK => ?_
     clear hoff hp
     have hu := Try.underlying28
     have hv_25 := Try.underlying25
     exact ov  (hK _ _ (Rl.refl _ _) trivial rfl)
   intro a24 w24 sz1 df1 hoff hvv hRl hJ
   replace H2 := hRl.chg.blk H2 (fun h => h.elim)
   replace hr := Rd.chg hr hRl.chg hRl.keep (fun h => h.elim)
   replace H8 := hRl.chg.blk H8 (fun h => h.elim)
   replace hv := hv.keep hRl.keep
   replace Kr41 := Kr41.keep hRl.keep
   replace Kr45 := Kr45.keep hRl.keep
   replace Kr49 := Kr49.keep hRl.keep
   replace Kr53 := Kr53.keep hRl.keep
   replace CH := CH.trans hRl.chg (fun _ _ h => h.elim)
   replace K8 := K8.trans hRl.keep
   obtain ⟨_, e72, rfl⟩ := hvv 0 _ _ rfl rfl
   replace e0 := (hoff 0 rfl).trans e0
   replace e2 := (hoff 2 rfl).trans e2
   replace e3 := (hoff 3 rfl).trans e3
   replace e11 := (hoff 11 rfl).trans e11
   replace e4 := (hoff 4 rfl).trans e4
   replace e5 := (hoff 5 rfl).trans e5
   replace e6 := (hoff 6 rfl).trans e6
   replace e7 := (hoff 7 rfl).trans e7
   replace e28 := (hoff 28 rfl).trans e28
   replace e8 := (hoff 8 rfl).trans e8
   replace e31 := (hoff 31 rfl).trans e31
   replace e33 := (hoff 33 rfl).trans e33
   replace e36 := (hoff 36 rfl).trans e36
   replace e38 := (hoff 38 rfl).trans e38
   replace e41 := (hoff 41 rfl).trans e41
   replace e42 := (hoff 42 rfl).trans e42
   replace e45 := (hoff 45 rfl).trans e45
   replace e46 := (hoff 46 rfl).trans e46
   replace e49 := (hoff 49 rfl).trans e49
   replace e50 := (hoff 50 rfl).trans e50
   replace e53 := (hoff 53 rfl).trans e53
   replace e54 := (hoff 54 rfl).trans e54
   replace e71 := (hoff 71 rfl).trans e71
   replace sz := sz1
   replace df := df1.trans df
   have Zw24 : w.heap.size ≤ w24.heap.size := CH.size
   clear sz1 df1 hoff hvv hRl hJ
   refine wpo_step 1 _ rfl rfl (og_plain rfl ?_)
   refine op_store_row 28 _ _ rfl bx2 #[.int .i64 0, .int .i64 0, .int .u32 0, .int .u32 0, .int .u64 0, .int .u64 0, .slice none 0 0, .slice none 0 0, .slice none 0 0, .slice none 0 0] (ev e2) (ev e72) 28 _ H2 (by kernel_rfl) rfl (onel ⟨rfl, rfl, rfl, rfl, rfl, rfl, rfl, rfl, rfl, rfl, trivial⟩) (nbl ⟨rfl, rfl, rfl, rfl, rfl, rfl, rfl, rfl, rfl, rfl, trivial⟩) ?_
   intro w25 H_ hC hK
   change wpOps _ _ _ _ a24 w25
   replace hr := Rd.chg hr hC hK nex11_x2
   replace H8 := hC.blk H8 nex8_x2
   replace hv := hv.keep hK
   replace Kr41 := Kr41.keep hK
   replace Kr45 := Kr45.keep hK
   replace Kr49 := Kr49.keep hK
   replace Kr53 := Kr53.keep hK
   replace CH := CH.trans hC (fun x hx h => (old_new hx G2 h).elim)
   replace K8 := K8.trans hK
   replace H2 : w25.heap[bx2]? = some (.cells #[.int .i64 0, .int .i64 0, .int .u32 0, .int .u32 0, .int .u64 0, .int .u64 0, .slice none 0 0, .slice none 0 0, .slice none 0 0, .slice none 0 0] 28 (0, 0)) := H_
   clear hC hK
   have Zw25 : w.heap.size ≤ w25.heap.size := CH.size
   refine wpo_step 2 _ rfl rfl (og_plain rfl ?_)
   refine op_assign rfl (v := .int .i64 230) rfl ?_
   refine abs_put (K := fun x => wpOps _ _ _ _ x _) (t := 3) sz (by decide) fun a26 sz1 df1 e_new hoff => ?_
   replace e0 := (hoff 0 rfl).trans e0
   replace e2 := (hoff 2 rfl).trans e2
   replace e11 := (hoff 11 rfl).trans e11
   replace e4 := (hoff 4 rfl).trans e4
   replace e5 := (hoff 5 rfl).trans e5
   replace e6 := (hoff 6 rfl).trans e6
   replace e7 := (hoff 7 rfl).trans e7
   replace e28 := (hoff 28 rfl).trans e28
   replace e8 := (hoff 8 rfl).trans e8
   replace e31 := (hoff 31 rfl).trans e31
   replace e33 := (hoff 33 rfl).trans e33
   replace e36 := (hoff 36 rfl).trans e36
   replace e38 := (hoff 38 rfl).trans e38
   replace e41 := (hoff 41 rfl).trans e41
   replace e42 := (hoff 42 rfl).trans e42
   replace e45 := (hoff 45 rfl).trans e45
   replace e46 := (hoff 46 rfl).trans e46
   replace e49 := (hoff 49 rfl).trans e49
   replace e50 := (hoff 50 rfl).trans e50
   replace e53 := (hoff 53 rfl).trans e53
   replace e54 := (hoff 54 rfl).trans e54
   replace e71 := (hoff 71 rfl).trans e71
   replace e72 := (hoff 72 rfl).trans e72
   have e3 := e_new
   replace sz := sz1
   replace df := df1.trans df
   clear sz1 df1 hoff e_new
   refine wpo_all rfl ?_
   refine hKK14 _ _ ?_
   refine wp_ret ?_
   refine then_r ?_
   exact retc rfl df bx2 28 _ _ _ e2 e3 H2 Try.underlying28 rfl (by kernel_rfl) ⟨_, rfl, ⟨_, .inl ⟨.inr (.inl hl10), rfl, ⟨_, _, _, _, rfl, Row.nil _ _, Row.nil _ _, Row.nil _ _, Row.nil _ _⟩⟩⟩, CH.below (fun _ _ h => h)⟩
  ·skip
   have hq := hq0
   rw [hq] at hr
   clear hq
   refine raI (S := fun _ => False) 74 17 sz [55, 56, 57, 58, 59, 60, 61, 62, 63, 64, 65, 66, 67, 68, 69, 70, 71] [isV (.pointer (some ⟨bx11, 0, none⟩)), isV (.pointer (some ⟨bx11, 0, none⟩)), isV (.pointer (some ⟨bx11, 1, none⟩)), isV (.bool false), isV (.bool false), isV (.pointer (some ⟨bx11, 0, none⟩)), isV (.pointer (some ⟨bx11, 0, none⟩)), isV (.pointer (some ⟨bx11, 0, none⟩)), isRow 0 l10, isV (.int .i64 (l10).length), isV (.bool false), isV (.bool false), isV (.bool false), isV (.agg #[.int .i64 n1, .int .i64 n2, .int .u32 n3, .int .u32 n4, .int .u64 n5, .int .u64 n6, u41_11, u45_13, u49_15, u53_17]), isV (.int .i64 230), isV (.bool true), isV (.bool true)] [Tr, Tr, Tr, Tr, Tr, Tr, Tr, Tr, Tr, Tr, Tr, Tr, Tr, Tr, Tr, Tr, Tr, Tr] rfl (by decide) (by decide) (by decide) ?_ ?_ ?_ ?_
   · intro J hJ; cases hJ; exact trivial
   · exact (sr_cons (sr_V _ _) (sr_cons (sr_V _ _) (sr_cons (sr_V _ _) (sr_cons (sr_V _ _) (sr_cons (sr_V _ _) (sr_cons (sr_V _ _) (sr_cons (sr_V _ _) (sr_cons (sr_V _ _) (sr_cons (sr_Row _ _ _) (sr_cons (sr_V _ _) (sr_cons (sr_V _ _) (sr_cons (sr_V _ _) (sr_cons (sr_V _ _) (sr_cons (sr_V _ _) (sr_cons (sr_V _ _) (sr_cons (sr_V _ _) (sr_cons (sr_V _ _) (sr_nil _))))))))))))))))))
   ·refine sti_cons ?_ (sti_cons ?_ (sti_cons ?_ (sti_cons ?_ (sti_cons ?_ (sti_cons ?_ (sti_cons ?_ (sti_cons ?_ (sti_cons ?_ (sti_cons ?_ (sti_cons ?_ (sti_cons ?_ (sti_cons ?_ (sti_cons ?_ (sti_cons ?_ (sti_cons ?_ (sti_cons ?_ sti_nil))))))))))))))))
    ·refine sti rfl rfl rfl rfl rfl rfl rfl fun a w' hM hI hoff hp K hK => ?_
     have e4 : a.tmps[4]? = some (.pointer (some ⟨bx11, 0, none⟩)) := (hoff 4 rfl).trans e4
     clear hoff hp
     exact ov  (hK _ _ (Rl.refl _ _) trivial rfl)
    ·refine sti rfl rfl rfl rfl rfl rfl rfl fun a w' hM hI hoff hp K hK => ?_
     obtain ⟨_, e55, rfl⟩ := hp 0 rfl 55 _ rfl rfl
     clear hoff hp
     exact ov  (hK _ _ (Rl.refl _ _) trivial rfl)
    ·refine sti rfl rfl rfl rfl rfl rfl rfl fun a w' hM hI hoff hp K hK => ?_
     obtain ⟨_, e56, rfl⟩ := hp 1 rfl 56 _ rfl rfl
     clear hoff hp
     have hu := Try.underlying50
     exact ov  (hK _ _ (Rl.refl _ _) trivial rfl)
    ·refine sti rfl rfl rfl rfl rfl rfl rfl fun a w' hM hI hoff hp K hK => ?_
     obtain ⟨_, e57, rfl⟩ := hp 2 rfl 57 _ rfl rfl
     clear hoff hp
     obtain ⟨vr, hJ_, hvr⟩ := (Rd.chg hr hM.chg hM.keep (fun h => h))
     have d1 : w'.cell? ⟨bx11, 1, none⟩ = some (.bool false) := (blk_cell hJ_ 1).trans rfl
     exact ov  (hK _ _ (Rl.refl _ _) trivial rfl)
    ·refine sti rfl rfl rfl rfl rfl rfl rfl fun a w' hM hI hoff hp K hK => ?_
     obtain ⟨_, e58, rfl⟩ := hp 3 rfl 58 _ rfl rfl
     clear hoff hp
     exact ov  (hK _ _ (Rl.refl _ _) trivial rfl)
    ·refine stiy 4 rfl rfl rfl rfl rfl rfl rfl rfl rfl rfl rfl fun a w' hM hI hoff hp K hK => ?_
     have e4 : a.tmps[4]? = some (.pointer (some ⟨bx11, 0, none⟩)) := (hoff 4 rfl).trans e4
     clear hoff hp
     exact ov  (hK _ _ (Rl.refl _ _) trivial rfl)
    ·refine stiy 4 rfl rfl rfl rfl rfl rfl rfl rfl rfl rfl rfl fun a w' hM hI hoff hp K hK => ?_
     obtain ⟨_, e60, rfl⟩ := hp 5 rfl 60 _ rfl rfl
     clear hoff hp
     exact ov  (hK _ _ (Rl.refl _ _) trivial rfl)
    ·refine stiy 4 rfl rfl rfl rfl rfl rfl rfl rfl rfl rfl rfl fun a w' hM hI hoff hp K hK => ?_
     obtain ⟨_, e61, rfl⟩ := hp 6 rfl 61 _ rfl rfl
     clear hoff hp
     have hu := Try.underlying50
     exact ov  (hK _ _ (Rl.refl _ _) trivial rfl)
    ·refine stiy 4 rfl rfl rfl rfl rfl rfl rfl rfl rfl rfl rfl fun a w' hM hI hoff hp K hK => ?_
     obtain ⟨_, e62, rfl⟩ := hp 7 rfl 62 _ rfl rfl
     clear hoff hp
     obtain ⟨vr, hJ_, hvr⟩ := (Rd.chg hr hM.chg hM.keep (fun h => h))
     have d0 : w'.cell? ⟨bx11, 0, none⟩ = some (vr) := (blk_cell hJ_ 0).trans rfl
     exact ov  (hK _ _ (Rl.refl _ _) trivial hvr)
    ·refine stiy 4 rfl rfl rfl rfl rfl rfl rfl rfl rfl rfl rfl fun a w' hM hI hoff hp K hK => ?_
     obtain ⟨v63, e63, h63⟩ := hp 8 rfl 63 _ rfl rfl
     clear hoff hp
     have hlen := row_len (P := Try.prog) h63 ⟨_, Try.underlying26⟩
     exact ov  (hK _ _ (Rl.refl _ _) trivial rfl)
    ·refine stiy 4 rfl rfl rfl rfl rfl rfl rfl rfl rfl rfl rfl fun a w' hM hI hoff hp K hK => ?_
     obtain ⟨_, e64, rfl⟩ := hp 9 rfl 64 _ rfl rfl
     clear hoff hp
     have q1 : decide ((0 : Int) < (l10.length : Int)) = false := by rw [decide_eq_false_iff_not]; omega
     exact ov  (hK _ _ (Rl.refl _ _) trivial rfl)
    ·refine sti rfl rfl rfl rfl rfl rfl rfl fun a w' hM hI hoff hp K hK => ?_
     obtain ⟨_, e59, rfl⟩ := hp 4 rfl 59 _ rfl rfl
     obtain ⟨_, e65, rfl⟩ := hp 10 rfl 65 _ rfl rfl
     clear hoff hp
     exact ov  (hK _ _ (Rl.refl _ _) trivial rfl)
    ·refine sti rfl rfl rfl rfl rfl rfl rfl fun a w' hM hI hoff hp K hK => ?_
     obtain ⟨_, e66, rfl⟩ := hp 11 rfl 66 _ rfl rfl
     clear hoff hp
     exact ov  (hK _ _ (Rl.refl _ _) trivial rfl)
    ·refine stiy 12 rfl rfl rfl rfl rfl rfl rfl rfl rfl rfl rfl fun a w' hM hI hoff hp K hK => ?_
     have e8 : a.tmps[8]? = some (.pointer (some ⟨bx8, 0, none⟩)) := (hoff 8 rfl).trans e8
     clear hoff hp
     have d0 : w'.cell? ⟨bx8, 0, none⟩ = some (.int .i64 n1) := (blk_cell (hM.chg.blk H8 (fun h => h)) 0).trans rfl
     have d1 : w'.cell? ⟨bx8, 1, none⟩ = some (.int .i64 n2) := (blk_cell (hM.chg.blk H8 (fun h => h)) 1).trans rfl
     have d2 : w'.cell? ⟨bx8, 2, none⟩ = some (.int .u32 n3) := (blk_cell (hM.chg.blk H8 (fun h => h)) 2).trans rfl
     have d3 : w'.cell? ⟨bx8, 3, none⟩ = some (.int .u32 n4) := (blk_cell (hM.chg.blk H8 (fun h => h)) 3).trans rfl
     have d4 : w'.cell? ⟨bx8, 4, none⟩ = some (.int .u64 n5) := (blk_cell (hM.chg.blk H8 (fun h => h)) 4).trans rfl
     have d5 : w'.cell? ⟨bx8, 5, none⟩ = some (.int .u64 n6) := (blk_cell (hM.chg.blk H8 (fun h => h)) 5).trans rfl
     have d6 : w'.cell? ⟨bx8, 6, none⟩ = some (u41_11) := (blk_cell (hM.chg.blk H8 (fun h => h)) 6).trans rfl
     have d7 : w'.cell? ⟨bx8, 7, none⟩ = some (u45_13) := (blk_cell (hM.chg.blk H8 (fun h => h)) 7).trans rfl
     have d8 : w'.cell? ⟨bx8, 8, none⟩ = some (u49_15) := (blk_cell (hM.chg.blk H8 (fun h => h)) 8).trans rfl
     have d9 : w'.cell? ⟨bx8, 9, none⟩ = some (u53_17) := (blk_cell (hM.chg.blk H8 (fun h => h)) 9).trans rfl
     have hu := Try.underlying28
     have hv_25 := Try.underlying25
     exact ov  (hK _ _ (Rl.refl _ _) trivial rfl)
    ·refine stiy 12 rfl rfl rfl rfl rfl rfl rfl rfl rfl rfl rfl fun a w' hM hI hoff hp K hK => ?_
     obtain ⟨_, e68, rfl⟩ := hp 13 rfl 68 _ rfl rfl
     clear hoff hp
     have h_ := check_calls ⟨n1, n2, n3, n4, n5, n6, p7, p8, p9, p10⟩ ho hs6 hs8 hs7 hs9 _ _ ⟨_, _, _, _, rfl, (Kr41.keep hM.keep).lower (Nat.zero_le _), (Kr45.keep hM.keep).lower (Nat.zero_le _), (Kr49.keep hM.keep).lower (Nat.zero_le _), (Kr53.keep hM.keep).lower (Nat.zero_le _)⟩
     rw [nmay_err hm] at h_
     refine op_call Try.func15 (by kernel_rfl) rfl #[.agg #[.int .i64 n1, .int .i64 n2, .int .u32 n3, .int .u32 n4, .int .u64 n5, .int .u64 n6, u41_11, u45_13, u49_15, u53_17]] rfl (by simp [Act.eval, e68]) h_ ?_
     rintro e w1 ⟨u, rfl, hR, hb⟩
     exact ⟨u, rfl, hK _ _ (Rl.of_below hb) trivial hR⟩
    ·refine stiy 12 rfl rfl rfl rfl rfl rfl rfl rfl rfl rfl rfl fun a w' hM hI hoff hp K hK => ?_
     obtain ⟨_, e69, rfl⟩ := hp 14 rfl 69 _ rfl rfl
     clear hoff hp
     exact ov  (hK _ _ (Rl.refl _ _) trivial rfl)
    ·refine sti rfl rfl rfl rfl rfl rfl rfl fun a w' hM hI hoff hp K hK => ?_
     obtain ⟨_, e67, rfl⟩ := hp 12 rfl 67 _ rfl rfl
     obtain ⟨_, e70, rfl⟩ := hp 15 rfl 70 _ rfl rfl
     clear hoff hp
     exact ov  (hK _ _ (Rl.refl _ _) trivial rfl)
   intro a27 w27 sz1 df1 hoff hvv hRl hJ
   replace H2 := hRl.chg.blk H2 (fun h => h.elim)
   replace hr := Rd.chg hr hRl.chg hRl.keep (fun h => h.elim)
   replace H8 := hRl.chg.blk H8 (fun h => h.elim)
   replace hv := hv.keep hRl.keep
   replace Kr41 := Kr41.keep hRl.keep
   replace Kr45 := Kr45.keep hRl.keep
   replace Kr49 := Kr49.keep hRl.keep
   replace Kr53 := Kr53.keep hRl.keep
   replace CH := CH.trans hRl.chg (fun _ _ h => h.elim)
   replace K8 := K8.trans hRl.keep
   obtain ⟨_, e71, rfl⟩ := hvv 16 _ _ rfl rfl
   replace e0 := (hoff 0 rfl).trans e0
   replace e2 := (hoff 2 rfl).trans e2
   replace e3 := (hoff 3 rfl).trans e3
   replace e11 := (hoff 11 rfl).trans e11
   replace e4 := (hoff 4 rfl).trans e4
   replace e5 := (hoff 5 rfl).trans e5
   replace e6 := (hoff 6 rfl).trans e6
   replace e7 := (hoff 7 rfl).trans e7
   replace e28 := (hoff 28 rfl).trans e28
   replace e8 := (hoff 8 rfl).trans e8
   replace e31 := (hoff 31 rfl).trans e31
   replace e33 := (hoff 33 rfl).trans e33
   replace e36 := (hoff 36 rfl).trans e36
   replace e38 := (hoff 38 rfl).trans e38
   replace e41 := (hoff 41 rfl).trans e41
   replace e42 := (hoff 42 rfl).trans e42
   replace e45 := (hoff 45 rfl).trans e45
   replace e46 := (hoff 46 rfl).trans e46
   replace e49 := (hoff 49 rfl).trans e49
   replace e50 := (hoff 50 rfl).trans e50
   replace e53 := (hoff 53 rfl).trans e53
   replace e54 := (hoff 54 rfl).trans e54
   replace sz := sz1
   replace df := df1.trans df
   have Zw27 : w.heap.size ≤ w27.heap.size := CH.size
   clear sz1 df1 hoff hvv hRl hJ
   refine wpo_all rfl ?_
   refine hKK12 _ _ ?_
   refine wp_cond_true (ev e71) ?_
   refine wp_seq_k fun KK15 hKK15 => ?_
   refine raI (S := fun _ => False) 74 1 sz [72] [isV (.agg #[.int .i64 0, .int .i64 0, .int .u32 0, .int .u32 0, .int .u64 0, .int .u64 0, .slice none 0 0, .slice none 0 0, .slice none 0 0, .slice none 0 0])] [Tr, Tr] rfl (by decide) (by decide) (by decide) ?_ ?_ ?_ ?_
   · intro J hJ; cases hJ; exact trivial
   · exact (sr_cons (sr_V _ _) (sr_nil _))
   ·refine sti_cons ?_ sti_nil
    ·refine sti rfl rfl rfl rfl rfl rfl rfl fun a w' hM hI hoff hp K hK => ?_
     clear hoff hp
     have hu := Try.underlying28
     have hv_25 := Try.underlying25
     exact ov  (hK _ _ (Rl.refl _ _) trivial rfl)
   intro a28 w28 sz1 df1 hoff hvv hRl hJ
   replace H2 := hRl.chg.blk H2 (fun h => h.elim)
   replace hr := Rd.chg hr hRl.chg hRl.keep (fun h => h.elim)
   replace H8 := hRl.chg.blk H8 (fun h => h.elim)
   replace hv := hv.keep hRl.keep
   replace Kr41 := Kr41.keep hRl.keep
   replace Kr45 := Kr45.keep hRl.keep
   replace Kr49 := Kr49.keep hRl.keep
   replace Kr53 := Kr53.keep hRl.keep
   replace CH := CH.trans hRl.chg (fun _ _ h => h.elim)
   replace K8 := K8.trans hRl.keep
   obtain ⟨_, e72, rfl⟩ := hvv 0 _ _ rfl rfl
   replace e0 := (hoff 0 rfl).trans e0
   replace e2 := (hoff 2 rfl).trans e2
   replace e3 := (hoff 3 rfl).trans e3
   replace e11 := (hoff 11 rfl).trans e11
   replace e4 := (hoff 4 rfl).trans e4
   replace e5 := (hoff 5 rfl).trans e5
   replace e6 := (hoff 6 rfl).trans e6
   replace e7 := (hoff 7 rfl).trans e7
   replace e28 := (hoff 28 rfl).trans e28
   replace e8 := (hoff 8 rfl).trans e8
   replace e31 := (hoff 31 rfl).trans e31
   replace e33 := (hoff 33 rfl).trans e33
   replace e36 := (hoff 36 rfl).trans e36
   replace e38 := (hoff 38 rfl).trans e38
   replace e41 := (hoff 41 rfl).trans e41
   replace e42 := (hoff 42 rfl).trans e42
   replace e45 := (hoff 45 rfl).trans e45
   replace e46 := (hoff 46 rfl).trans e46
   replace e49 := (hoff 49 rfl).trans e49
   replace e50 := (hoff 50 rfl).trans e50
   replace e53 := (hoff 53 rfl).trans e53
   replace e54 := (hoff 54 rfl).trans e54
   replace e71 := (hoff 71 rfl).trans e71
   replace sz := sz1
   replace df := df1.trans df
   have Zw28 : w.heap.size ≤ w28.heap.size := CH.size
   clear sz1 df1 hoff hvv hRl hJ
   refine wpo_step 1 _ rfl rfl (og_plain rfl ?_)
   refine op_store_row 28 _ _ rfl bx2 #[.int .i64 0, .int .i64 0, .int .u32 0, .int .u32 0, .int .u64 0, .int .u64 0, .slice none 0 0, .slice none 0 0, .slice none 0 0, .slice none 0 0] (ev e2) (ev e72) 28 _ H2 (by kernel_rfl) rfl (onel ⟨rfl, rfl, rfl, rfl, rfl, rfl, rfl, rfl, rfl, rfl, trivial⟩) (nbl ⟨rfl, rfl, rfl, rfl, rfl, rfl, rfl, rfl, rfl, rfl, trivial⟩) ?_
   intro w29 H_ hC hK
   change wpOps _ _ _ _ a28 w29
   replace hr := Rd.chg hr hC hK nex11_x2
   replace H8 := hC.blk H8 nex8_x2
   replace hv := hv.keep hK
   replace Kr41 := Kr41.keep hK
   replace Kr45 := Kr45.keep hK
   replace Kr49 := Kr49.keep hK
   replace Kr53 := Kr53.keep hK
   replace CH := CH.trans hC (fun x hx h => (old_new hx G2 h).elim)
   replace K8 := K8.trans hK
   replace H2 : w29.heap[bx2]? = some (.cells #[.int .i64 0, .int .i64 0, .int .u32 0, .int .u32 0, .int .u64 0, .int .u64 0, .slice none 0 0, .slice none 0 0, .slice none 0 0, .slice none 0 0] 28 (0, 0)) := H_
   clear hC hK
   have Zw29 : w.heap.size ≤ w29.heap.size := CH.size
   refine wpo_step 2 _ rfl rfl (og_plain rfl ?_)
   refine op_assign rfl (v := .int .i64 230) rfl ?_
   refine abs_put (K := fun x => wpOps _ _ _ _ x _) (t := 3) sz (by decide) fun a30 sz1 df1 e_new hoff => ?_
   replace e0 := (hoff 0 rfl).trans e0
   replace e2 := (hoff 2 rfl).trans e2
   replace e11 := (hoff 11 rfl).trans e11
   replace e4 := (hoff 4 rfl).trans e4
   replace e5 := (hoff 5 rfl).trans e5
   replace e6 := (hoff 6 rfl).trans e6
   replace e7 := (hoff 7 rfl).trans e7
   replace e28 := (hoff 28 rfl).trans e28
   replace e8 := (hoff 8 rfl).trans e8
   replace e31 := (hoff 31 rfl).trans e31
   replace e33 := (hoff 33 rfl).trans e33
   replace e36 := (hoff 36 rfl).trans e36
   replace e38 := (hoff 38 rfl).trans e38
   replace e41 := (hoff 41 rfl).trans e41
   replace e42 := (hoff 42 rfl).trans e42
   replace e45 := (hoff 45 rfl).trans e45
   replace e46 := (hoff 46 rfl).trans e46
   replace e49 := (hoff 49 rfl).trans e49
   replace e50 := (hoff 50 rfl).trans e50
   replace e53 := (hoff 53 rfl).trans e53
   replace e54 := (hoff 54 rfl).trans e54
   replace e71 := (hoff 71 rfl).trans e71
   replace e72 := (hoff 72 rfl).trans e72
   have e3 := e_new
   replace sz := sz1
   replace df := df1.trans df
   clear sz1 df1 hoff e_new
   refine wpo_all rfl ?_
   refine hKK15 _ _ ?_
   refine wp_ret ?_
   refine then_r ?_
   exact retc rfl df bx2 28 _ _ _ e2 e3 H2 Try.underlying28 rfl (by kernel_rfl) ⟨_, rfl, ⟨_, .inl ⟨.inr (.inr hm), rfl, ⟨_, _, _, _, rfl, Row.nil _ _, Row.nil _ _, Row.nil _ _, Row.nil _ _⟩⟩⟩, CH.below (fun _ _ h => h)⟩
  ·skip
   have hq := hq0
   rw [hq] at hr
   clear hq
   refine raI (S := fun _ => False) 74 17 sz [55, 56, 57, 58, 59, 60, 61, 62, 63, 64, 65, 66, 67, 68, 69, 70, 71] [isV (.pointer (some ⟨bx11, 0, none⟩)), isV (.pointer (some ⟨bx11, 0, none⟩)), isV (.pointer (some ⟨bx11, 1, none⟩)), isV (.bool false), isV (.bool false), isV (.pointer (some ⟨bx11, 0, none⟩)), isV (.pointer (some ⟨bx11, 0, none⟩)), isV (.pointer (some ⟨bx11, 0, none⟩)), isRow 0 l10, isV (.int .i64 (l10).length), isV (.bool false), isV (.bool false), isV (.bool false), isV (.agg #[.int .i64 n1, .int .i64 n2, .int .u32 n3, .int .u32 n4, .int .u64 n5, .int .u64 n6, u41_11, u45_13, u49_15, u53_17]), isV (.int .i64 0), isV (.bool false), isV (.bool false)] [Tr, Tr, Tr, Tr, Tr, Tr, Tr, Tr, Tr, Tr, Tr, Tr, Tr, Tr, Tr, Tr, Tr, Tr] rfl (by decide) (by decide) (by decide) ?_ ?_ ?_ ?_
   · intro J hJ; cases hJ; exact trivial
   · exact (sr_cons (sr_V _ _) (sr_cons (sr_V _ _) (sr_cons (sr_V _ _) (sr_cons (sr_V _ _) (sr_cons (sr_V _ _) (sr_cons (sr_V _ _) (sr_cons (sr_V _ _) (sr_cons (sr_V _ _) (sr_cons (sr_Row _ _ _) (sr_cons (sr_V _ _) (sr_cons (sr_V _ _) (sr_cons (sr_V _ _) (sr_cons (sr_V _ _) (sr_cons (sr_V _ _) (sr_cons (sr_V _ _) (sr_cons (sr_V _ _) (sr_cons (sr_V _ _) (sr_nil _))))))))))))))))))
   ·refine sti_cons ?_ (sti_cons ?_ (sti_cons ?_ (sti_cons ?_ (sti_cons ?_ (sti_cons ?_ (sti_cons ?_ (sti_cons ?_ (sti_cons ?_ (sti_cons ?_ (sti_cons ?_ (sti_cons ?_ (sti_cons ?_ (sti_cons ?_ (sti_cons ?_ (sti_cons ?_ (sti_cons ?_ sti_nil))))))))))))))))
    ·refine sti rfl rfl rfl rfl rfl rfl rfl fun a w' hM hI hoff hp K hK => ?_
     have e4 : a.tmps[4]? = some (.pointer (some ⟨bx11, 0, none⟩)) := (hoff 4 rfl).trans e4
     clear hoff hp
     exact ov  (hK _ _ (Rl.refl _ _) trivial rfl)
    ·refine sti rfl rfl rfl rfl rfl rfl rfl fun a w' hM hI hoff hp K hK => ?_
     obtain ⟨_, e55, rfl⟩ := hp 0 rfl 55 _ rfl rfl
     clear hoff hp
     exact ov  (hK _ _ (Rl.refl _ _) trivial rfl)
    ·refine sti rfl rfl rfl rfl rfl rfl rfl fun a w' hM hI hoff hp K hK => ?_
     obtain ⟨_, e56, rfl⟩ := hp 1 rfl 56 _ rfl rfl
     clear hoff hp
     have hu := Try.underlying50
     exact ov  (hK _ _ (Rl.refl _ _) trivial rfl)
    ·refine sti rfl rfl rfl rfl rfl rfl rfl fun a w' hM hI hoff hp K hK => ?_
     obtain ⟨_, e57, rfl⟩ := hp 2 rfl 57 _ rfl rfl
     clear hoff hp
     obtain ⟨vr, hJ_, hvr⟩ := (Rd.chg hr hM.chg hM.keep (fun h => h))
     have d1 : w'.cell? ⟨bx11, 1, none⟩ = some (.bool false) := (blk_cell hJ_ 1).trans rfl
     exact ov  (hK _ _ (Rl.refl _ _) trivial rfl)
    ·refine sti rfl rfl rfl rfl rfl rfl rfl fun a w' hM hI hoff hp K hK => ?_
     obtain ⟨_, e58, rfl⟩ := hp 3 rfl 58 _ rfl rfl
     clear hoff hp
     exact ov  (hK _ _ (Rl.refl _ _) trivial rfl)
    ·refine stiy 4 rfl rfl rfl rfl rfl rfl rfl rfl rfl rfl rfl fun a w' hM hI hoff hp K hK => ?_
     have e4 : a.tmps[4]? = some (.pointer (some ⟨bx11, 0, none⟩)) := (hoff 4 rfl).trans e4
     clear hoff hp
     exact ov  (hK _ _ (Rl.refl _ _) trivial rfl)
    ·refine stiy 4 rfl rfl rfl rfl rfl rfl rfl rfl rfl rfl rfl fun a w' hM hI hoff hp K hK => ?_
     obtain ⟨_, e60, rfl⟩ := hp 5 rfl 60 _ rfl rfl
     clear hoff hp
     exact ov  (hK _ _ (Rl.refl _ _) trivial rfl)
    ·refine stiy 4 rfl rfl rfl rfl rfl rfl rfl rfl rfl rfl rfl fun a w' hM hI hoff hp K hK => ?_
     obtain ⟨_, e61, rfl⟩ := hp 6 rfl 61 _ rfl rfl
     clear hoff hp
     have hu := Try.underlying50
     exact ov  (hK _ _ (Rl.refl _ _) trivial rfl)
    ·refine stiy 4 rfl rfl rfl rfl rfl rfl rfl rfl rfl rfl rfl fun a w' hM hI hoff hp K hK => ?_
     obtain ⟨_, e62, rfl⟩ := hp 7 rfl 62 _ rfl rfl
     clear hoff hp
     obtain ⟨vr, hJ_, hvr⟩ := (Rd.chg hr hM.chg hM.keep (fun h => h))
     have d0 : w'.cell? ⟨bx11, 0, none⟩ = some (vr) := (blk_cell hJ_ 0).trans rfl
     exact ov  (hK _ _ (Rl.refl _ _) trivial hvr)
    ·refine stiy 4 rfl rfl rfl rfl rfl rfl rfl rfl rfl rfl rfl fun a w' hM hI hoff hp K hK => ?_
     obtain ⟨v63, e63, h63⟩ := hp 8 rfl 63 _ rfl rfl
     clear hoff hp
     have hlen := row_len (P := Try.prog) h63 ⟨_, Try.underlying26⟩
     exact ov  (hK _ _ (Rl.refl _ _) trivial rfl)
    ·refine stiy 4 rfl rfl rfl rfl rfl rfl rfl rfl rfl rfl rfl fun a w' hM hI hoff hp K hK => ?_
     obtain ⟨_, e64, rfl⟩ := hp 9 rfl 64 _ rfl rfl
     clear hoff hp
     have q1 : decide ((0 : Int) < (l10.length : Int)) = false := by rw [decide_eq_false_iff_not]; omega
     exact ov  (hK _ _ (Rl.refl _ _) trivial rfl)
    ·refine sti rfl rfl rfl rfl rfl rfl rfl fun a w' hM hI hoff hp K hK => ?_
     obtain ⟨_, e59, rfl⟩ := hp 4 rfl 59 _ rfl rfl
     obtain ⟨_, e65, rfl⟩ := hp 10 rfl 65 _ rfl rfl
     clear hoff hp
     exact ov  (hK _ _ (Rl.refl _ _) trivial rfl)
    ·refine sti rfl rfl rfl rfl rfl rfl rfl fun a w' hM hI hoff hp K hK => ?_
     obtain ⟨_, e66, rfl⟩ := hp 11 rfl 66 _ rfl rfl
     clear hoff hp
     exact ov  (hK _ _ (Rl.refl _ _) trivial rfl)
    ·refine stiy 12 rfl rfl rfl rfl rfl rfl rfl rfl rfl rfl rfl fun a w' hM hI hoff hp K hK => ?_
     have e8 : a.tmps[8]? = some (.pointer (some ⟨bx8, 0, none⟩)) := (hoff 8 rfl).trans e8
     clear hoff hp
     have d0 : w'.cell? ⟨bx8, 0, none⟩ = some (.int .i64 n1) := (blk_cell (hM.chg.blk H8 (fun h => h)) 0).trans rfl
     have d1 : w'.cell? ⟨bx8, 1, none⟩ = some (.int .i64 n2) := (blk_cell (hM.chg.blk H8 (fun h => h)) 1).trans rfl
     have d2 : w'.cell? ⟨bx8, 2, none⟩ = some (.int .u32 n3) := (blk_cell (hM.chg.blk H8 (fun h => h)) 2).trans rfl
     have d3 : w'.cell? ⟨bx8, 3, none⟩ = some (.int .u32 n4) := (blk_cell (hM.chg.blk H8 (fun h => h)) 3).trans rfl
     have d4 : w'.cell? ⟨bx8, 4, none⟩ = some (.int .u64 n5) := (blk_cell (hM.chg.blk H8 (fun h => h)) 4).trans rfl
     have d5 : w'.cell? ⟨bx8, 5, none⟩ = some (.int .u64 n6) := (blk_cell (hM.chg.blk H8 (fun h => h)) 5).trans rfl
     have d6 : w'.cell? ⟨bx8, 6, none⟩ = some (u41_11) := (blk_cell (hM.chg.blk H8 (fun h => h)) 6).trans rfl
     have d7 : w'.cell? ⟨bx8, 7, none⟩ = some (u45_13) := (blk_cell (hM.chg.blk H8 (fun h => h)) 7).trans rfl
     have d8 : w'.cell? ⟨bx8, 8, none⟩ = some (u49_15) := (blk_cell (hM.chg.blk H8 (fun h => h)) 8).trans rfl
     have d9 : w'.cell? ⟨bx8, 9, none⟩ = some (u53_17) := (blk_cell (hM.chg.blk H8 (fun h => h)) 9).trans rfl
     have hu := Try.underlying28
     have hv_25 := Try.underlying25
     exact ov  (hK _ _ (Rl.refl _ _) trivial rfl)
    ·refine stiy 12 rfl rfl rfl rfl rfl rfl rfl rfl rfl rfl rfl fun a w' hM hI hoff hp K hK => ?_
     obtain ⟨_, e68, rfl⟩ := hp 13 rfl 68 _ rfl rfl
     clear hoff hp
     have h_ := check_calls ⟨n1, n2, n3, n4, n5, n6, p7, p8, p9, p10⟩ ho hs6 hs8 hs7 hs9 _ _ ⟨_, _, _, _, rfl, (Kr41.keep hM.keep).lower (Nat.zero_le _), (Kr45.keep hM.keep).lower (Nat.zero_le _), (Kr49.keep hM.keep).lower (Nat.zero_le _), (Kr53.keep hM.keep).lower (Nat.zero_le _)⟩
     rw [may_err hm] at h_
     refine op_call Try.func15 (by kernel_rfl) rfl #[.agg #[.int .i64 n1, .int .i64 n2, .int .u32 n3, .int .u32 n4, .int .u64 n5, .int .u64 n6, u41_11, u45_13, u49_15, u53_17]] rfl (by simp [Act.eval, e68]) h_ ?_
     rintro e w1 ⟨u, rfl, hR, hb⟩
     exact ⟨u, rfl, hK _ _ (Rl.of_below hb) trivial hR⟩
    ·refine stiy 12 rfl rfl rfl rfl rfl rfl rfl rfl rfl rfl rfl fun a w' hM hI hoff hp K hK => ?_
     obtain ⟨_, e69, rfl⟩ := hp 14 rfl 69 _ rfl rfl
     clear hoff hp
     exact ov  (hK _ _ (Rl.refl _ _) trivial rfl)
    ·refine sti rfl rfl rfl rfl rfl rfl rfl fun a w' hM hI hoff hp K hK => ?_
     obtain ⟨_, e67, rfl⟩ := hp 12 rfl 67 _ rfl rfl
     obtain ⟨_, e70, rfl⟩ := hp 15 rfl 70 _ rfl rfl
     clear hoff hp
     exact ov  (hK _ _ (Rl.refl _ _) trivial rfl)
   intro a31 w31 sz1 df1 hoff hvv hRl hJ
   replace H2 := hRl.chg.blk H2 (fun h => h.elim)
   replace hr := Rd.chg hr hRl.chg hRl.keep (fun h => h.elim)
   replace H8 := hRl.chg.blk H8 (fun h => h.elim)
   replace hv := hv.keep hRl.keep
   replace Kr41 := Kr41.keep hRl.keep
   replace Kr45 := Kr45.keep hRl.keep
   replace Kr49 := Kr49.keep hRl.keep
   replace Kr53 := Kr53.keep hRl.keep
   replace CH := CH.trans hRl.chg (fun _ _ h => h.elim)
   replace K8 := K8.trans hRl.keep
   obtain ⟨_, e71, rfl⟩ := hvv 16 _ _ rfl rfl
   replace e0 := (hoff 0 rfl).trans e0
   replace e2 := (hoff 2 rfl).trans e2
   replace e3 := (hoff 3 rfl).trans e3
   replace e11 := (hoff 11 rfl).trans e11
   replace e4 := (hoff 4 rfl).trans e4
   replace e5 := (hoff 5 rfl).trans e5
   replace e6 := (hoff 6 rfl).trans e6
   replace e7 := (hoff 7 rfl).trans e7
   replace e28 := (hoff 28 rfl).trans e28
   replace e8 := (hoff 8 rfl).trans e8
   replace e31 := (hoff 31 rfl).trans e31
   replace e33 := (hoff 33 rfl).trans e33
   replace e36 := (hoff 36 rfl).trans e36
   replace e38 := (hoff 38 rfl).trans e38
   replace e41 := (hoff 41 rfl).trans e41
   replace e42 := (hoff 42 rfl).trans e42
   replace e45 := (hoff 45 rfl).trans e45
   replace e46 := (hoff 46 rfl).trans e46
   replace e49 := (hoff 49 rfl).trans e49
   replace e50 := (hoff 50 rfl).trans e50
   replace e53 := (hoff 53 rfl).trans e53
   replace e54 := (hoff 54 rfl).trans e54
   replace sz := sz1
   replace df := df1.trans df
   have Zw31 : w.heap.size ≤ w31.heap.size := CH.size
   clear sz1 df1 hoff hvv hRl hJ
   refine wpo_all rfl ?_
   refine hKK12 _ _ ?_
   refine wp_cond_false (ev e71) ?_
   refine wp_skip ?_
   refine hKK11 _ _ ?_
   refine wp_seq_k fun KK16 hKK16 => ?_
   refine raI (S := fun _ => False) 74 1 sz [73] [isV (.agg #[.int .i64 n1, .int .i64 n2, .int .u32 n3, .int .u32 n4, .int .u64 n5, .int .u64 n6, u41_11, u45_13, u49_15, u53_17])] [Tr, Tr] rfl (by decide) (by decide) (by decide) ?_ ?_ ?_ ?_
   · intro J hJ; cases hJ; exact trivial
   · exact (sr_cons (sr_V _ _) (sr_nil _))
   ·refine sti_cons ?_ sti_nil
    ·refine sti rfl rfl rfl rfl rfl rfl rfl fun a w' hM hI hoff hp K hK => ?_
     have e8 : a.tmps[8]? = some (.pointer (some ⟨bx8, 0, none⟩)) := (hoff 8 rfl).trans e8
     clear hoff hp
     have d0 : w'.cell? ⟨bx8, 0, none⟩ = some (.int .i64 n1) := (blk_cell (hM.chg.blk H8 (fun h => h)) 0).trans rfl
     have d1 : w'.cell? ⟨bx8, 1, none⟩ = some (.int .i64 n2) := (blk_cell (hM.chg.blk H8 (fun h => h)) 1).trans rfl
     have d2 : w'.cell? ⟨bx8, 2, none⟩ = some (.int .u32 n3) := (blk_cell (hM.chg.blk H8 (fun h => h)) 2).trans rfl
     have d3 : w'.cell? ⟨bx8, 3, none⟩ = some (.int .u32 n4) := (blk_cell (hM.chg.blk H8 (fun h => h)) 3).trans rfl
     have d4 : w'.cell? ⟨bx8, 4, none⟩ = some (.int .u64 n5) := (blk_cell (hM.chg.blk H8 (fun h => h)) 4).trans rfl
     have d5 : w'.cell? ⟨bx8, 5, none⟩ = some (.int .u64 n6) := (blk_cell (hM.chg.blk H8 (fun h => h)) 5).trans rfl
     have d6 : w'.cell? ⟨bx8, 6, none⟩ = some (u41_11) := (blk_cell (hM.chg.blk H8 (fun h => h)) 6).trans rfl
     have d7 : w'.cell? ⟨bx8, 7, none⟩ = some (u45_13) := (blk_cell (hM.chg.blk H8 (fun h => h)) 7).trans rfl
     have d8 : w'.cell? ⟨bx8, 8, none⟩ = some (u49_15) := (blk_cell (hM.chg.blk H8 (fun h => h)) 8).trans rfl
     have d9 : w'.cell? ⟨bx8, 9, none⟩ = some (u53_17) := (blk_cell (hM.chg.blk H8 (fun h => h)) 9).trans rfl
     have hu := Try.underlying28
     have hv_25 := Try.underlying25
     exact ov  (hK _ _ (Rl.refl _ _) trivial rfl)
   intro a32 w32 sz1 df1 hoff hvv hRl hJ
   replace H2 := hRl.chg.blk H2 (fun h => h.elim)
   replace hr := Rd.chg hr hRl.chg hRl.keep (fun h => h.elim)
   replace H8 := hRl.chg.blk H8 (fun h => h.elim)
   replace hv := hv.keep hRl.keep
   replace Kr41 := Kr41.keep hRl.keep
   replace Kr45 := Kr45.keep hRl.keep
   replace Kr49 := Kr49.keep hRl.keep
   replace Kr53 := Kr53.keep hRl.keep
   replace CH := CH.trans hRl.chg (fun _ _ h => h.elim)
   replace K8 := K8.trans hRl.keep
   obtain ⟨_, e73, rfl⟩ := hvv 0 _ _ rfl rfl
   replace e0 := (hoff 0 rfl).trans e0
   replace e2 := (hoff 2 rfl).trans e2
   replace e3 := (hoff 3 rfl).trans e3
   replace e11 := (hoff 11 rfl).trans e11
   replace e4 := (hoff 4 rfl).trans e4
   replace e5 := (hoff 5 rfl).trans e5
   replace e6 := (hoff 6 rfl).trans e6
   replace e7 := (hoff 7 rfl).trans e7
   replace e28 := (hoff 28 rfl).trans e28
   replace e8 := (hoff 8 rfl).trans e8
   replace e31 := (hoff 31 rfl).trans e31
   replace e33 := (hoff 33 rfl).trans e33
   replace e36 := (hoff 36 rfl).trans e36
   replace e38 := (hoff 38 rfl).trans e38
   replace e41 := (hoff 41 rfl).trans e41
   replace e42 := (hoff 42 rfl).trans e42
   replace e45 := (hoff 45 rfl).trans e45
   replace e46 := (hoff 46 rfl).trans e46
   replace e49 := (hoff 49 rfl).trans e49
   replace e50 := (hoff 50 rfl).trans e50
   replace e53 := (hoff 53 rfl).trans e53
   replace e54 := (hoff 54 rfl).trans e54
   replace e71 := (hoff 71 rfl).trans e71
   replace sz := sz1
   replace df := df1.trans df
   have Zw32 : w.heap.size ≤ w32.heap.size := CH.size
   clear sz1 df1 hoff hvv hRl hJ
   refine wpo_step 1 _ rfl rfl (og_plain rfl ?_)
   refine op_store_row 28 _ _ rfl bx2 #[.int .i64 n1, .int .i64 n2, .int .u32 n3, .int .u32 n4, .int .u64 n5, .int .u64 n6, u41_11, u45_13, u49_15, u53_17] (ev e2) (ev e73) 28 _ H2 (by kernel_rfl) rfl (onel ⟨rfl, rfl, rfl, rfl, rfl, rfl, row_one Kr41, row_one Kr45, row_one Kr49, row_one Kr53, trivial⟩) (nbl ⟨rfl, rfl, rfl, rfl, rfl, rfl, rfl, rfl, rfl, rfl, trivial⟩) ?_
   intro w33 H_ hC hK
   change wpOps _ _ _ _ a32 w33
   replace hr := Rd.chg hr hC hK nex11_x2
   replace H8 := hC.blk H8 nex8_x2
   replace hv := hv.keep hK
   replace Kr41 := Kr41.keep hK
   replace Kr45 := Kr45.keep hK
   replace Kr49 := Kr49.keep hK
   replace Kr53 := Kr53.keep hK
   replace CH := CH.trans hC (fun x hx h => (old_new hx G2 h).elim)
   replace K8 := K8.trans hK
   replace H2 : w33.heap[bx2]? = some (.cells #[.int .i64 n1, .int .i64 n2, .int .u32 n3, .int .u32 n4, .int .u64 n5, .int .u64 n6, u41_11, u45_13, u49_15, u53_17] 28 (0, 0)) := H_
   clear hC hK
   have Zw33 : w.heap.size ≤ w33.heap.size := CH.size
   refine wpo_step 2 _ rfl rfl (og_plain rfl ?_)
   refine op_assign rfl (v := .int .i64 0) rfl ?_
   refine abs_put (K := fun x => wpOps _ _ _ _ x _) (t := 3) sz (by decide) fun a34 sz1 df1 e_new hoff => ?_
   replace e0 := (hoff 0 rfl).trans e0
   replace e2 := (hoff 2 rfl).trans e2
   replace e11 := (hoff 11 rfl).trans e11
   replace e4 := (hoff 4 rfl).trans e4
   replace e5 := (hoff 5 rfl).trans e5
   replace e6 := (hoff 6 rfl).trans e6
   replace e7 := (hoff 7 rfl).trans e7
   replace e28 := (hoff 28 rfl).trans e28
   replace e8 := (hoff 8 rfl).trans e8
   replace e31 := (hoff 31 rfl).trans e31
   replace e33 := (hoff 33 rfl).trans e33
   replace e36 := (hoff 36 rfl).trans e36
   replace e38 := (hoff 38 rfl).trans e38
   replace e41 := (hoff 41 rfl).trans e41
   replace e42 := (hoff 42 rfl).trans e42
   replace e45 := (hoff 45 rfl).trans e45
   replace e46 := (hoff 46 rfl).trans e46
   replace e49 := (hoff 49 rfl).trans e49
   replace e50 := (hoff 50 rfl).trans e50
   replace e53 := (hoff 53 rfl).trans e53
   replace e54 := (hoff 54 rfl).trans e54
   replace e71 := (hoff 71 rfl).trans e71
   replace e73 := (hoff 73 rfl).trans e73
   have e3 := e_new
   replace sz := sz1
   replace df := df1.trans df
   clear sz1 df1 hoff e_new
   refine wpo_all rfl ?_
   refine hKK16 _ _ ?_
   refine wp_ret ?_
   exact retc rfl df bx2 28 _ _ _ e2 e3 H2 Try.underlying28 rfl (by kernel_rfl) ⟨_, rfl, ⟨_, .inr ⟨fun h => by rcases h with h | h | h <;> first | (rw [hq0] at h; cases h) | omega | exact h hm, rfl, ⟨_, _, _, _, rfl, (Kr41.lower Zw10), (Kr45.lower Zw12), (Kr49.lower Zw14), (Kr53.lower Zw16)⟩⟩⟩, CH.below (fun _ _ h => h)⟩
end Go.Proofs.Ytgacaemgmgoiaaa.QLeaf
