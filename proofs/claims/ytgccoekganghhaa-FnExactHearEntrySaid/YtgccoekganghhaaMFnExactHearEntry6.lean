/- The law FnExactHearEntry of the program: its proof, part 6. -/
import Derived.Test.YtgccoekganghhaaMFnExactHearEntry3
import Derived.Test.YtgccoekganghhaaMFnExactHearEntry5
import Derived.Test.YtgccoekganghhaaMFnExactHearEntry2
import Derived.Test.YtgccoekganghhaaMFnExactHearEntry4
set_option linter.unusedVariables false
set_option linter.unusedSimpArgs false
namespace Go.Proofs.Ytgccoekganghhaa.X
open Go.RowKit Go.Proofs.YtgccoekganghhaaW.PrintWords Go.Proofs.YtgccoekganghhaaW.PrintLast Go.Proofs.YtgccoekganghhaaW.PrintMore
structure TrI (R : Mk × Mk) (xs ys : List Part) (m o : Mk) : Prop where
 val : trU (unitsL xs) (unitsL ys) m o = R
 fx : ∀ p ∈ xs, okP p
 fy : ∀ p ∈ ys, okP p
 eq : takesU (unitsL xs) = takesU (unitsL ys)
 tot : leftN xs ys ≤ 1300
 bm : BndM m (400 * (1300 - leftN xs ys))
 bo : BndM o (400 * (1300 - leftN xs ys))
section
variable {R : Mk × Mk} {xs ys : List Part} {p q : Part} {m o : Mk}
theorem keep_step {m : Mk} {B : Nat} (h : BndM m B) (n : Nat) (hn : n ≤ 400) : BndM (keepM n m) (B + 400) := h.keepM n (by omega) (by omega) (by omega)
theorem put_le {p : Part} (h : okP p) : p.f1.size ≤ 300 := h.2.2.2.1
theorem TrI.putL (h : TrI R (p :: xs) ys m o) (hd : p.f1.size ≠ 0) : TrI R xs ys (takeM m p) (keepM p.f1.size o) ∧ leftN xs ys + 1 ≤ leftN (p :: xs) ys := by
 have hp := h.fx p List.mem_cons_self
 have hl : leftN (p :: xs) ys = sizeP p + leftN xs ys := by unfold leftN; rw [unitsL_len_cons]; omega
 have h1 := hp.1.2
 have ht := h.tot
 refine ⟨⟨by rw [← tr_putL hp.1.1 hd]; exact h.val, fun q hq => h.fx q (List.mem_cons_of_mem _ hq), h.fy, ?_, by omega, (h.bm.take p (hp.2.mono (C' := 400) (by omega)) (by omega)).mono (by omega), (keep_step h.bo p.f1.size (by have := put_le hp; omega)).mono (by omega)⟩, by omega⟩
 have e := h.eq
 rw [unitsL_cons, takesU_app, takesU_part, pure_put hp.1.1 hd] at e
 simpa [noB_size] using e
theorem TrI.putR (h : TrI R xs (q :: ys) m o) (hd : q.f1.size ≠ 0) (hx : ∀ p l, xs = p :: l → p.f1.size = 0) : TrI R xs ys (keepM q.f1.size m) (takeM o q) ∧ leftN xs ys + 1 ≤ leftN xs (q :: ys) := by
 have hp := h.fy q List.mem_cons_self
 have hl : leftN xs (q :: ys) = sizeP q + leftN xs ys := by unfold leftN; rw [unitsL_len_cons]; omega
 have h1 := hp.1.2
 have ht := h.tot
 refine ⟨⟨by rw [← tr_putR hp.1.1 hd xs ys (fun p l e => ⟨(h.fx p (by rw [e]; exact List.mem_cons_self)).1, hx p l e⟩)]; exact h.val, h.fx, fun x hq => h.fy x (List.mem_cons_of_mem _ hq), ?_, by omega, (keep_step h.bm q.f1.size (by have := put_le hp; omega)).mono (by omega), (h.bo.take q (hp.2.mono (C' := 400) (by omega)) (by omega)).mono (by omega)⟩, by omega⟩
 have e := h.eq
 rw [unitsL_cons q, takesU_app, takesU_part, pure_put hp.1.1 hd] at e
 simpa [noB_size] using e
theorem TrI.noY (h : TrI R (p :: xs) [] m o) : p.f1.size ≠ 0 := by
 intro z
 have hp := h.fx p List.mem_cons_self
 have e := h.eq
 have := hp.1.2
 rw [unitsL_cons, takesU_app, takesU_part, show unitsL [] = [] from rfl, show takesU [] = 0 from rfl] at e
 simp only [sizeP] at this
 omega
theorem TrI.noX (h : TrI R [] (q :: ys) m o) : q.f1.size ≠ 0 := by
 intro z
 have hp := h.fy q List.mem_cons_self
 have e := h.eq
 have := hp.1.2
 rw [unitsL_cons, takesU_app, takesU_part, show unitsL [] = [] from rfl, show takesU [] = 0 from rfl] at e
 simp only [sizeP] at this
 omega
theorem TrI.both (h : TrI R (p :: xs) (q :: ys) m o) (h1 : p.f1.size = 0) (h2 : q.f1.size = 0) (n : Nat) (hn : n = min (sizeP p) (sizeP q)) :
  0 < n ∧ n ≤ sizeP p ∧ n ≤ sizeP q ∧ leftN (cutL p xs n) (cutL q ys n) + 1 ≤ leftN (p :: xs) (q :: ys) ∧ okP (firstP p n) ∧ okP (firstP q n) ∧
  TrI R (cutL p xs n) (cutL q ys n) (if 0 < q.f0 then takeM m (firstP p n) else m) (if 0 < p.f0 then takeM o (firstP q n) else o) := by
 have hp := h.fx p List.mem_cons_self
 have hq := h.fy q List.mem_cons_self
 have hnp : n ≤ sizeP p := by omega
 have hnq : n ≤ sizeP q := by omega
 have hn0 : 0 < n := by have := hp.1.2; have := hq.1.2; omega
 have l1 := cutL_len (xs := xs) n hp.1 hnp
 have l2 := cutL_len (xs := ys) n hq.1 hnq
 have hl : leftN (p :: xs) (q :: ys) = n + n + leftN (cutL p xs n) (cutL q ys n) := by unfold leftN; omega
 have ht := h.tot
 have hv := tr_both hp.1 hq.1 h1 h2 xs ys m o n hnp hnq
 rw [h.val] at hv
 have o1 : okP (firstP p n) := ⟨⟨pure_first n hp.1.1, by rw [firstP_size n hp.1 hnp]; exact hn0⟩, smallQ_first n hp.2 (by have := hp.le; omega)⟩
 have o2 : okP (firstP q n) := ⟨⟨pure_first n hq.1.1, by rw [firstP_size n hq.1 hnq]; exact hn0⟩, smallQ_first n hq.2 (by have := hp.le; omega)⟩
 have fx := ok_cutL (xs := xs) n hp hnp (fun x hx => h.fx x (List.mem_cons_of_mem _ hx))
 have fy := ok_cutL (xs := ys) n hq hnq (fun x hx => h.fy x (List.mem_cons_of_mem _ hx))
 have e : takesU (unitsL (cutL p xs n)) = takesU (unitsL (cutL q ys n)) := by
  have e := h.eq
  rw [units_cutL p xs n hp.1.1 hnp, units_cutL q ys n hq.1.1 hnq, takesU_app, takesU_app, takesU_part, takesU_part] at e
  have e1 := firstP_size n hp.1 hnp
  have e2 := firstP_size n hq.1 hnq
  have z1 : (firstP p n).f1.size = 0 := by
   unfold firstP; split
   ·exact h1
   ·split
    ·rename_i hh; exact absurd h1 hh
    ·exact h1
  have z2 : (firstP q n).f1.size = 0 := by
   unfold firstP; split
   ·exact h2
   ·split
    ·rename_i hh; exact absurd h2 hh
    ·exact h2
  simp only [sizeP] at e1 e2
  omega
 refine ⟨hn0, hnp, hnq, by omega, o1, o2, hv.symm, fx, fy, e, by omega, ?_, ?_⟩
 ·split
  ·exact (h.bm.take _ (o1.2.mono (C' := 400) (by omega)) (by omega)).mono (by omega)
  ·exact h.bm.mono (by omega)
 ·split
  ·exact (h.bo.take _ (o2.2.mono (C' := 400) (by omega)) (by omega)).mono (by omega)
  ·exact h.bo.mono (by omega)
end
theorem TrI.done {R : Mk × Mk} {m o : Mk} (h : TrI R [] [] m o) : R = (m, o) := by rw [← h.val, tr_done]
section
attribute [local go_sem] max2_int min2_int max_two min_two max_three min_three max_four min_four
def impl_dropped.l0 : Nat → List Int → List (S86) → Int → Int → Option (List Int)
 | 0, _, _, _, _ => none
 | k + 1, x3, x6, x7, x8 => if x8 < x7 then (if 0 ≤ x8 then (if x8 < (x6.length : Int) then (if 0 ≤ ((rd_T86 x6 x8).f0) then (if x3.length + ((rd_T86 x6 x8).f0 : Int).toNat < 140737488355328 then ((some (x3 ++ List.replicate ((rd_T86 x6 x8).f0 : Int).toNat 0 : List Int)).bind fun y103 => (if y103.length + ((rd_T86 x6 x8).f2).size < 140737488355328 then (impl_dropped.l0 k (y103 ++ bytesOf ((rd_T86 x6 x8).f2)) x6 x7 (wrap64 (x8 + 1))) else (none))) else (none)) else (none)) else (none)) else (none)) else (some x3)
def impl_dropped.f (k : Nat) (l0 : List (S86)) : Option (List Int) := impl_dropped.l0 k ([] : List Int) l0 (l0.length : Int) 0
set_option maxHeartbeats 8000000 in
set_option maxRecDepth 100000 in
theorem impl_dropped.calls (k : Nat) (A0 : Option Addr) (c0 : Nat) (l0 : List (S86)) (r : List Int) (w : World) (hr0 : Kd.C k86 w A0 l0.length l0) (hc0 : l0.length ≤ c0) (h : impl_dropped.f k l0 = some r) :
  Calls Try.prog 132 #[.slice A0 l0.length c0] w fun e w' => ∃ v0_ : Value, e = .returned (v0_) ∧ Kd.R (Kd.int .u8) 5 w' w.heap.size (fun _ => True) v0_ r ∧ Below w.heap.size w w' := by
 have hu86 := Try.underlying86
 have HR0 := mz hr0
 have HC0 := mz hc0
 clear hr0 hc0
 have HB := mz (Below.refl w.heap.size w)
 have H : (impl_dropped.l0 k ([] : List Int) l0 (l0.length : Int) 0) = some r := h
 clear h
 have H' := mz H
 clear H
 go_enter Try.func132, Try.ntmps132
 go_wp2
 go_loopg [3, 8] k (fun kq v3 v8 w' => ∃ (x3_1 : List Int) (x8_1 : Int), v8 = .int .i64 x8_1 ∧ Aside0 (impl_dropped.l0 kq x3_1 l0 (l0.length : Int) x8_1 = some r) ∧ Aside0 (kq ≤ k) ∧ Aside0 (Kd.R (Kd.int .u8) 5 w' w.heap.size (fun _ => True) v3 x3_1) ∧ Aside0 (Below w.heap.size w w'))
 case atStart => exact ⟨(([] : List Int)), (0), a30_, H', ⟨Nat.le_refl _⟩, ⟨by first | exact Kd.R_nil _ _ _ _ _ | exact Kd.N_nil _ _ _ _ _ | exact Kd.V_nil _ _ _ _ _ | exact Kd.Q_nil _ _ _ _ _ | exact Kd.S_nil _ _ _ _ _⟩, ⟨by repeat (first | (with_reducible first | exact HB.out | apply below_alloc | apply pw_below_drewN | apply below_drew1) | exact HB.out)⟩⟩
 case round =>
  clear H'
  try clear c1
  obtain ⟨x3_1, x8_1, rfl, HA, HK1, HO_3, HB⟩ := hrel
  cases gk with
  | zero => exact absurd HA.out (by simp [impl_dropped.l0])
  | succ k1 =>
   have H := HA.out
   clear HA
   simp only [impl_dropped.l0] at H
   by_cases c2 : x8_1 < (l0.length : Int)
   ·rw [if_pos c2] at H
    have c2b0 : decide (x8_1 < (l0.length : Int)) = true := decide_eq_true c2
    clear c2
    by_cases c3 : 0 ≤ x8_1
    ·rw [if_pos c3] at H
     have c3b0 : decide (0 ≤ x8_1) = true := decide_eq_true c3
     clear c3
     by_cases c4 : x8_1 < (l0.length : Int)
     ·rw [if_pos c4] at H
      have c4b0 : decide (x8_1 < (l0.length : Int)) = true := decide_eq_true c4
      clear c4
      by_cases c5 : 0 ≤ ((rd_T86 l0 x8_1).f0)
      ·rw [if_pos c5] at H
       have c5b0 := eq_true c5
       have c5b1 : decide (0 ≤ ((rd_T86 l0 x8_1).f0)) = true := decide_eq_true c5
       clear c5
       by_cases c6 : x3_1.length + ((rd_T86 l0 x8_1).f0 : Int).toNat < 140737488355328
       ·rw [if_pos c6] at H
        have LMc6 := mz c6
        clear c6
        obtain ⟨y103, hy103⟩ : ∃ y_ : List Int, y_ = (x3_1 ++ List.replicate ((rd_T86 l0 x8_1).f0 : Int).toNat 0) := ⟨_, rfl⟩
        replace H : (if y103.length + ((rd_T86 l0 x8_1).f2).size < 140737488355328 then (impl_dropped.l0 k1 (y103 ++ bytesOf ((rd_T86 l0 x8_1).f2)) l0 (l0.length : Int) (wrap64 (x8_1 + 1))) else (none)) = some r := by first | (rw [hy103]; with_reducible exact H) | (have H2_ := (Option.bind_some _ _).symm.trans H; rw [hy103]; with_reducible exact H2_) | (have H2_ := (Option.bind_some _ _).symm.trans H; with_reducible exact H2_) | with_reducible exact H | (rw [hy103]; exact H) | exact H
        have Ny103 := mz hy103
        clear hy103
        by_cases c7 : y103.length + ((rd_T86 l0 x8_1).f2).size < 140737488355328
        ·rw [if_pos c7] at H
         have LMc7 := mz c7
         clear c7
         obtain ⟨y106, hy106⟩ : ∃ y_ : List Int, y_ = (y103 ++ bytesOf ((rd_T86 l0 x8_1).f2)) := ⟨_, rfl⟩
         replace H : (impl_dropped.l0 k1 y106 l0 (l0.length : Int) (wrap64 (x8_1 + 1))) = some r := by first | (rw [hy106]; with_reducible exact H) | (have H2_ := (Option.bind_some _ _).symm.trans H; rw [hy106]; with_reducible exact H2_) | (have H2_ := (Option.bind_some _ _).symm.trans H; with_reducible exact H2_) | with_reducible exact H | (rw [hy106]; exact H) | exact H
         have Ny106 := mz hy106
         clear hy106
         have H' := mz H
         clear H
         have p101 : 0 ≤ (x8_1 : Int) := of_decide_eq_true a29_
         have q101 : x8_1 < (l0.length : Int) := of_decide_eq_true a29_
         obtain ⟨ad101, e101, hx101_0, hx101_1, hx101_2⟩ := at_T86 HR0.out x8_1 p101 q101
         cases e101
         replace hx101_0 := bc_ HB.out hx101_0
         replace hx101_1 := bc_ HB.out hx101_1
         replace hx101_2 := bc_ HB.out hx101_2
         replace p101 := eq_true p101
         replace q101 := eq_true q101
         go_wp2_with (first | ((with_reducible refine gate_dst (N := 5) rfl ?_); refine bz_ 5 #[.int .i64 0, .string (⟨#[]⟩ : ByteArray), .string (⟨#[]⟩ : ByteArray)] 86 ?_; intro gb102 hg w8 hbox hb; have n0_ := mz (Kd.R_below a24_ hb); have n1_ := mz (bs0_ hb); have n2_ := mz (hbox); have n3_ := mz ((by rw [hg]; exact bz1_ : w.heap.size ≤ gb102)); have n4_ := mz ((by rw [hg]; exact bz1_ : w.heap.size ≤ gb102)); clear HO_3; clear HB; have HO_3 := n0_; have HB := n1_; have BK102 := n2_; have GW102 := n3_; have GE102 := n4_; clear n0_ n1_ n2_ n3_ n4_; clear hb hbox hg; have hcz9_0 := bk_ BK102.out 0 (.int .i64 0); have hcz9_1 := bk_ BK102.out 1 (.string (⟨#[]⟩ : ByteArray)); have hcz9_2 := bk_ BK102.out 2 (.string (⟨#[]⟩ : ByteArray)); have hfz9_0 := blk_frozen BK102.out 0; have hfz9_1 := blk_frozen BK102.out 1; have hfz9_2 := blk_frozen BK102.out 2) | (at_builtin; refine Kd.R_append_zeros (Kd.int .u8) (w0 := w) w.heap.size rfl (.tmp 12) (.tmp 14) 136 3 5 (.int .u8 0) 1 rfl Try.underlying136 Try.underlying3 info5 rfl (by decide) (by omega) u3 x3_1 0 ((rd_T86 l0 x8_1).f0 : Int) (fun _ => True) rfl rfl rfl ?aF ?aO (of_decide_eq_true a29_) ?aB ?aS ?aL ?_; (case aB => exact a9_); (case aF => exact (fun _ _ => trivial)); (case aO => exact (by (with_reducible repeat (first | apply Kd.R_alloc | apply Kd.R_drewN | apply Kd.R_drew)); exact Kd.R_mono (Kd.R_far (p := ⟨gb102, 2, none⟩) (Kd.R_far (p := ⟨gb102, 1, none⟩) (Kd.R_far (p := ⟨gb102, 0, none⟩) (Kd.R_types HO_3.out BK102.out (by decide)) (fun _ hk => hk.2) (.int .i64 ((rd_T86 l0 x8_1).f0))) (fun _ hk => hk.2) (.string ((rd_T86 l0 x8_1).f1))) (fun _ hk => hk.2) (.string ((rd_T86 l0 x8_1).f2))) (fun _ hk => trivial))); (case aS => exact bz9_); (case aL => have := LMc6.out; omega); intro v104 w10 ho hb hg hat; rw [← Ny103.out] at ho; have n0_ := mz (blk_grown (g := gb102) (o := .cells #[.int .i64 ((rd_T86 l0 x8_1).f0), .string ((rd_T86 l0 x8_1).f1), .string ((rd_T86 l0 x8_1).f2)] 86 (0, 0)) (by (with_reducible repeat (first | refine blk_drewN ?_ _ | refine blk_drew ?_ | refine blk_alloc ?_ _)); refine blk_put (cs := #[.int .i64 ((rd_T86 l0 x8_1).f0), .string ((rd_T86 l0 x8_1).f1), .string (⟨#[]⟩ : ByteArray)]) ?_ 2 _ rfl; (with_reducible repeat (first | refine blk_drewN ?_ _ | refine blk_drew ?_ | refine blk_alloc ?_ _)); refine blk_put (cs := #[.int .i64 ((rd_T86 l0 x8_1).f0), .string (⟨#[]⟩ : ByteArray), .string (⟨#[]⟩ : ByteArray)]) ?_ 1 _ rfl; (with_reducible repeat (first | refine blk_drewN ?_ _ | refine blk_drew ?_ | refine blk_alloc ?_ _)); refine blk_put (cs := #[.int .i64 0, .string (⟨#[]⟩ : ByteArray), .string (⟨#[]⟩ : ByteArray)]) ?_ 0 _ rfl; (with_reducible repeat (first | refine blk_drewN ?_ _ | refine blk_drew ?_ | refine blk_alloc ?_ _)); exact BK102.out) hg (Kd.R_ne HO_3.out BK102.out (by decide))); have n1_ := mz (hb); have n2_ := mz (ho); clear BK102; clear HB; clear HO_3; have BK102 := n0_; have HB := n1_; have HO105 := n2_; clear n0_ n1_ n2_; clear ho hb hg hat; have hcz11_0 := bk_ BK102.out 0 (.int .i64 ((rd_T86 l0 x8_1).f0)); have hcz11_1 := bk_ BK102.out 1 (.string ((rd_T86 l0 x8_1).f1)); have hcz11_2 := bk_ BK102.out 2 (.string ((rd_T86 l0 x8_1).f2)); have hfz11_0 := blk_frozen BK102.out 0; have hfz11_1 := blk_frozen BK102.out 1; have hfz11_2 := blk_frozen BK102.out 2) | (at_builtin; refine print_append_str (w0 := w) w.heap.size rfl (.tmp 16) _ 136 9 5 rfl Try.underlying136 Try.underlying9 info5 v104 y103 ((rd_T86 l0 x8_1).f2) rfl rfl ?aO ?aB ?aS ?aL ?_; (case aB => exact a9_); (case aO => exact (Kd.own_of_R a16_)); (case aS => exact bz9_); (case aL => have := LMc7.out; omega); intro v107 w12 ho0 hb hg; have ho := Kd.R_of_own (h1 := fun _ => rfl) (ok := fun _ => True) ho0 (fun _ _ => trivial); clear ho0; have hat := True.intro; rw [← Ny106.out] at ho; change Kd.R (Kd.int .u8) 5 w12 w.heap.size (fun _ => True) v107 y106 at ho; have n0_ := mz (blk_grown (g := gb102) (o := .cells #[.int .i64 ((rd_T86 l0 x8_1).f0), .string ((rd_T86 l0 x8_1).f1), .string ((rd_T86 l0 x8_1).f2)] 86 (0, 0)) a15_ hg (Kd.R_ne HO105.out BK102.out (by decide))); have n1_ := mz (hb); have n2_ := mz (ho); clear BK102; clear HB; clear HO105; have BK102 := n0_; have HB := n1_; have HO108 := n2_; clear n0_ n1_ n2_; clear ho hb hg hat))
         go_roundg k1
         case measure => have := HK1.out; omega
         case rel => exact ⟨(y106), (wrap64 (x8_1 + 1)), a30_, H', ⟨by have := HK1.out; omega⟩, ⟨by (with_reducible repeat (first | apply Kd.R_alloc | apply Kd.R_drewN | apply Kd.R_drew)); exact HO108.out⟩, ⟨by repeat (first | (with_reducible first | exact HB.out | apply below_alloc | apply pw_below_drewN | apply below_drew1 | refine below_set ?_ GE102.out) | exact HB.out)⟩⟩
        ·rw [if_neg c7] at H
         exact absurd H (by simp)
       ·rw [if_neg c6] at H
        exact absurd H (by simp)
      ·rw [if_neg c5] at H
       exact absurd H (by simp)
     ·rw [if_neg c4] at H
      exact absurd H (by simp)
    ·rw [if_neg c3] at H
     exact absurd H (by simp)
   ·rw [if_neg c2] at H
    have c2b0 : decide (x8_1 < (l0.length : Int)) = false := decide_eq_false c2
    clear c2
    obtain rfl := Option.some.inj H
    go_wp2
    go_ret
    exact ⟨_, a27_, a24_, a12_⟩
end
section
attribute [local go_sem] max2_int min2_int max_two min_two max_three min_three max_four min_four
mutual
def impl_SameTexts.j0 : Nat → List (S86) → List (S86) → Bool → Option (Bool × Bool)
 | 0, _, _, _ => none
 | k + 1, x0, x1, x17 => if x17 = true then (some (false, false)) else ((impl_dropped.f k x0).bind fun t103 => ((impl_dropped.f k x1).bind fun t106 => (if (t103.length : Int) = (t106.length : Int) then (impl_SameTexts.l0 k t106 t103 (t103.length : Int) 0) else (some (false, false)))))
def impl_SameTexts.l0 : Nat → List Int → List Int → Int → Int → Option (Bool × Bool)
 | 0, _, _, _, _ => none
 | k + 1, x7, x27, x28, x29 => if x29 < x28 then (if 0 ≤ x29 then (if x29 < (x27.length : Int) then (if (rd x27 x29) = 0 then (impl_SameTexts.l0 k x7 x27 x28 (wrap64 (x29 + 1))) else (if x29 < (x7.length : Int) then (if (rd x7 x29) = 0 then (impl_SameTexts.l0 k x7 x27 x28 (wrap64 (x29 + 1))) else (if (rd x27 x29) = (rd x7 x29) then (impl_SameTexts.l0 k x7 x27 x28 (wrap64 (x29 + 1))) else (some (false, true)))) else (none))) else (none)) else (none)) else (some (true, true))
end
def impl_SameTexts.f (k : Nat) (l0 : List (S86)) (l1 : List (S86)) : Option (Bool × Bool) := (impl_GoodOp.f k l0).bind fun t101 => (if t101 = true then ((impl_GoodOp.f k l1).bind fun t102 => (impl_SameTexts.j0 k l0 l1 (!t102))) else (impl_SameTexts.j0 k l0 l1 true))
set_option maxHeartbeats 8000000 in
set_option maxRecDepth 100000 in
theorem impl_SameTexts.calls (k : Nat) (A0 : Option Addr) (c0 : Nat) (l0 : List (S86)) (A1 : Option Addr) (c1 : Nat) (l1 : List (S86)) (r1 : Bool) (r2 : Bool) (w : World) (hr0 : Kd.C k86 w A0 l0.length l0) (hc0 : l0.length ≤ c0) (hr1 : Kd.C k86 w A1 l1.length l1) (hc1 : l1.length ≤ c1) (h : impl_SameTexts.f k l0 l1 = some (r1, r2)) :
  Calls Try.prog 116 #[.slice A0 l0.length c0, .slice A1 l1.length c1] w fun e w' => e = .returned (.tuple #[.bool r1, .bool r2]) ∧ Below w.heap.size w w' := by
 have HR0 := mz hr0
 have HC0 := mz hc0
 clear hr0 hc0
 have HR1 := mz hr1
 have HC1 := mz hc1
 clear hr1 hc1
 have HB := mz (Below.refl w.heap.size w)
 have H : ((impl_GoodOp.f k l0).bind fun t101 => (if t101 = true then ((impl_GoodOp.f k l1).bind fun t102 => (impl_SameTexts.j0 k l0 l1 (!t102))) else (impl_SameTexts.j0 k l0 l1 true))) = some (r1, r2) := h
 clear h
 have HC3 := mz H
 clear H
 go_enter Try.func116, Try.ntmps116
 go_upto_region 1 with (fail)
 go_cut [17] (fun v17 wc => ∃ (kq : Nat) (x17_2 : Bool), v17 = .bool x17_2 ∧ Aside0 (impl_SameTexts.j0 kq l0 l1 x17_2 = some (r1, r2)) ∧ Aside0 (kq ≤ k) ∧ Aside0 (Below w.heap.size w wc))
 case first =>
  have H := HC3.out
  clear HC3
  replace H := be0_ H
  obtain ⟨t101, A40, H⟩ := H
  replace H : (if t101 = true then ((impl_GoodOp.f k l1).bind fun t102 => (impl_SameTexts.j0 k l0 l1 (!t102))) else (impl_SameTexts.j0 k l0 l1 true)) = some (r1, r2) := H
  have A4 := mz A40
  clear A40
  by_cases c5 : t101 = true
  ·subst c5
   have H1 : ((impl_GoodOp.f k l1).bind fun t102 => (impl_SameTexts.j0 k l0 l1 (!t102))) = some (r1, r2) := by rw [if_pos rfl] at H; exact H
   clear H
   have H := H1
   clear H1
   replace H := be0_ H
   obtain ⟨t102, A60, H⟩ := H
   replace H : (impl_SameTexts.j0 k l0 l1 (!t102)) = some (r1, r2) := H
   have A6 := mz A60
   clear A60
   have H' := mz H
   clear H
   go_wp2_with (first | ((with_reducible refine gate_callee (f := 104) rfl ?_); refine goesL_ (some 11) rfl rfl Try.func104 (by kernel_rfl) rfl #[.slice A0 l0.length c0] rfl a11_ ?_; (with_reducible refine (impl_GoodOp.calls k _ _ l0 true _ ?side1 ?side2 A4.out).mono ?_); (case side1 => repeat (first | exact (Kd.C_below HR0.out HB.out) | (with_reducible refine Kd.C_alloc ?_ _) | (with_reducible refine Kd.C_drewN ?_ _) | (with_reducible refine Kd.C_drew ?_))); (case side2 => exact HC0.out); rintro e w7 ⟨rfl, hb⟩; refine ⟨_, rfl, ?_⟩; have n0_ := mz (bs0_ hb); clear HB; have HB := n0_; clear n0_; (try clear hb); (try clear hb2); (try clear hk); (try clear hi)) | (go_at_call 104; (with_reducible refine (impl_GoodOp.calls k _ _ l1 t102 _ ?side1 ?side2 A6.out).mono ?_); (case side1 => repeat (first | exact (Kd.C_below HR1.out HB.out) | (with_reducible refine Kd.C_alloc ?_ _) | (with_reducible refine Kd.C_drewN ?_ _) | (with_reducible refine Kd.C_drew ?_))); (case side2 => exact HC1.out); rintro e w8 ⟨rfl, hb⟩; have n0_ := mz (bs0_ hb); clear HB; have HB := n0_; clear n0_; (try clear hb); (try clear hb2); (try clear hk); (try clear hi)))
   go_meet
   case rel => exact ⟨_, (!t102), a30_, H', ⟨by first | omega | exact Nat.le_refl _⟩, ⟨by repeat (first | (with_reducible first | exact HB.out | apply below_alloc | apply pw_below_drewN | apply below_drew1) | exact HB.out)⟩⟩
  ·replace c5 := Bool.eq_false_iff.mpr c5
   subst c5
   have H1 : (impl_SameTexts.j0 k l0 l1 true) = some (r1, r2) := by rw [if_neg (show ¬ (false = true) by decide)] at H; exact H
   clear H
   have H := H1
   clear H1
   have H' := mz H
   clear H
   go_wp2_with (first | ((with_reducible refine gate_callee (f := 104) rfl ?_); refine goesL_ (some 11) rfl rfl Try.func104 (by kernel_rfl) rfl #[.slice A0 l0.length c0] rfl a11_ ?_; (with_reducible refine (impl_GoodOp.calls k _ _ l0 false _ ?side1 ?side2 A4.out).mono ?_); (case side1 => repeat (first | exact (Kd.C_below HR0.out HB.out) | (with_reducible refine Kd.C_alloc ?_ _) | (with_reducible refine Kd.C_drewN ?_ _) | (with_reducible refine Kd.C_drew ?_))); (case side2 => exact HC0.out); rintro e w9 ⟨rfl, hb⟩; refine ⟨_, rfl, ?_⟩; have n0_ := mz (bs0_ hb); clear HB; have HB := n0_; clear n0_; (try clear hb); (try clear hb2); (try clear hk); (try clear hi)))
   go_meet
   case rel => exact ⟨_, (true), a30_, H', ⟨by first | omega | exact Nat.le_refl _⟩, ⟨by repeat (first | (with_reducible first | exact HB.out | apply below_alloc | apply pw_below_drewN | apply below_drew1) | exact HB.out)⟩⟩
 case rest =>
  clear HC3
  try clear c1
  try clear p2
  try clear c5
  obtain ⟨kq, x17_2, rfl, HA, HJ2, HB⟩ := hcut
  cases kq with
  | zero => exact absurd HA.out (by simp [impl_SameTexts.j0])
  | succ kj2 =>
   have H := HA.out
   clear HA
   simp only [impl_SameTexts.j0] at H
   by_cases c10 : x17_2 = true
   ·subst c10
    have H1 : (some (false, false)) = some (r1, r2) := by rw [if_pos rfl] at H; exact H
    clear H
    have H := H1
    clear H1
    simp only [Option.some.injEq, Prod.mk.injEq] at H
    obtain ⟨rfl, rfl⟩ := H
    go_wp2
    go_ret2
    exact ⟨a27_, a12_⟩
   ·replace c10 := Bool.eq_false_iff.mpr c10
    subst c10
    have H1 : ((impl_dropped.f kj2 l0).bind fun t103 => ((impl_dropped.f kj2 l1).bind fun t106 => (if (t103.length : Int) = (t106.length : Int) then (impl_SameTexts.l0 kj2 t106 t103 (t103.length : Int) 0) else (some (false, false))))) = some (r1, r2) := by rw [if_neg (show ¬ (false = true) by decide)] at H; exact H
    clear H
    have H := H1
    clear H1
    replace H := be0_ H
    obtain ⟨t103, A110, H⟩ := H
    replace H : ((impl_dropped.f kj2 l1).bind fun t106 => (if (t103.length : Int) = (t106.length : Int) then (impl_SameTexts.l0 kj2 t106 t103 (t103.length : Int) 0) else (some (false, false)))) = some (r1, r2) := H
    have A11 := mz A110
    clear A110
    replace H := be0_ H
    obtain ⟨t106, A120, H⟩ := H
    replace H : (if (t103.length : Int) = (t106.length : Int) then (impl_SameTexts.l0 kj2 t106 t103 (t103.length : Int) 0) else (some (false, false))) = some (r1, r2) := H
    have A12 := mz A120
    clear A120
    by_cases c13 : (t103.length : Int) = (t106.length : Int)
    ·rw [if_pos c13] at H
     have c13b0 : ((t103.length : Int) == (t106.length : Int)) = true := beq_iff_eq.mpr c13
     have c13b1 : ((t103.length : Int) != (t106.length : Int)) = false := bne_eq_false_iff_eq.mpr c13
     have c13b2 : (t103.length == t106.length) = true := by first | simpa using c13 | (simp at c13 ⊢; omega)
     clear c13
     have H' := mz H
     clear H
     go_wp2_with (first | ((with_reducible refine gate_callee (f := 132) rfl ?_); refine goesL_ (some 19) rfl rfl Try.func132 (by kernel_rfl) rfl #[.slice A0 l0.length c0] rfl a11_ ?_; (with_reducible refine (impl_dropped.calls kj2 _ _ l0 t103 _ ?side1 ?side2 A11.out).mono ?_); (case side1 => repeat (first | exact (Kd.C_below HR0.out HB.out) | (with_reducible refine Kd.C_alloc ?_ _) | (with_reducible refine Kd.C_drewN ?_ _) | (with_reducible refine Kd.C_drew ?_))); (case side2 => exact HC0.out); rintro e w14 ⟨v104, rfl, ho0, hb⟩; refine ⟨_, rfl, ?_⟩; have n0_ := mz (Kd.R_lower ho0 bz1_); have n1_ := mz (bs0_ hb); clear HB; have HO105 := n0_; have HB := n1_; clear n0_ n1_; (try clear hb); (try clear hb2); (try clear hk); (try clear hi); (try clear ho0)) | ((with_reducible refine gate_callee (f := 132) rfl ?_); refine goesL_ (some 21) rfl rfl Try.func132 (by kernel_rfl) rfl #[.slice A1 l1.length c1] rfl a11_ ?_; (with_reducible refine (impl_dropped.calls kj2 _ _ l1 t106 _ ?side1 ?side2 A12.out).mono ?_); (case side1 => repeat (first | exact (Kd.C_below HR1.out HB.out) | (with_reducible refine Kd.C_alloc ?_ _) | (with_reducible refine Kd.C_drewN ?_ _) | (with_reducible refine Kd.C_drew ?_))); (case side2 => exact HC1.out); rintro e w15 ⟨v107, rfl, ho0, hb⟩; refine ⟨_, rfl, ?_⟩; have n0_ := mz (Kd.R_elder' a16_ (Kd.R_base ho0) hb); have n1_ := mz (Kd.R_lower (Kd.R_new' ho0 (Kd.R_lt a16_)) bz1_); have n2_ := mz (bs0_ hb); clear HO105; clear HB; have HO105 := n0_; have HO108 := n1_; have HB := n2_; clear n0_ n1_ n2_; (try clear hb); (try clear hb2); (try clear hk); (try clear hi); (try clear ho0); obtain ⟨Ao16, co16, eo16⟩ := Kd.R_slice HO105.out; subst eo16; obtain ⟨Ao17, co17, eo17⟩ := Kd.R_slice HO108.out; subst eo17))
     go_loopg [29] kj2 (fun kq v29 w' => ∃ (x29_2 : Int), v29 = .int .i64 x29_2 ∧ Aside0 (impl_SameTexts.l0 kq t106 t103 (t103.length : Int) x29_2 = some (r1, r2)) ∧ Aside0 (kq ≤ kj2) ∧ Aside0 (Kd.R (Kd.int .u8) 5 w' w.heap.size (fun k_ => some k_ ≠ ((.slice Ao16 t103.length co16) : Value).ownBlock) (.slice Ao17 t106.length co17) t106) ∧ Aside0 (Kd.R (Kd.int .u8) 5 w' w.heap.size (fun k_ => some k_ ≠ ((.slice Ao17 t106.length co17) : Value).ownBlock) (.slice Ao16 t103.length co16) t103) ∧ Aside0 (Below w.heap.size w w'))
     case atStart => exact ⟨(0), a30_, H', ⟨Nat.le_refl _⟩, ⟨by (with_reducible repeat (first | apply Kd.R_alloc | apply Kd.R_drewN | apply Kd.R_drew)); exact Kd.R_mono HO108.out (fun _ hk => hk.2)⟩, ⟨by (with_reducible repeat (first | apply Kd.R_alloc | apply Kd.R_drewN | apply Kd.R_drew)); exact Kd.R_mono HO105.out (fun _ hk => hk.2)⟩, ⟨by repeat (first | (with_reducible first | exact HB.out | apply below_alloc | apply pw_below_drewN | apply below_drew1) | exact HB.out)⟩⟩
     case round =>
      clear H'
      try clear c1
      try clear p2
      try clear c5
      try clear c10
      try clear c11
      try clear c13
      try clear c13b0
      try clear c13b1
      try clear c13b2
      try clear p2
      obtain ⟨x29_2, rfl, HA, HK2, HO_7, HO_27, HB⟩ := hrel
      cases gk with
      | zero => exact absurd HA.out (by simp [impl_SameTexts.l0])
      | succ k2 =>
       have H := HA.out
       clear HA
       simp only [impl_SameTexts.l0] at H
       by_cases c18 : x29_2 < (t103.length : Int)
       ·rw [if_pos c18] at H
        have c18b0 : decide (x29_2 < (t103.length : Int)) = true := decide_eq_true c18
        clear c18
        by_cases c19 : 0 ≤ x29_2
        ·rw [if_pos c19] at H
         have c19b0 : decide (0 ≤ x29_2) = true := decide_eq_true c19
         clear c19
         by_cases c20 : x29_2 < (t103.length : Int)
         ·rw [if_pos c20] at H
          have c20b0 : decide (x29_2 < (t103.length : Int)) = true := decide_eq_true c20
          clear c20
          by_cases c21 : (rd t103 x29_2) = 0
          ·rw [if_pos c21] at H
           have c21b0 : ((rd t103 x29_2) == 0) = true := beq_iff_eq.mpr c21
           have c21b1 : ((rd t103 x29_2) != 0) = false := bne_eq_false_iff_eq.mpr c21
           clear c21
           have H' := mz H
           clear H
           have p109 : 0 ≤ (x29_2 : Int) := of_decide_eq_true a29_
           have q109 : x29_2 < (t103.length : Int) := of_decide_eq_true a29_
           obtain ⟨ad109, e109, hx109_0⟩ := Kd.at_int (Kd.R_reads' HO_27.out).2.2 x29_2 p109 q109
           cases e109
           replace p109 := eq_true p109
           replace q109 := eq_true q109
           go_wp2
           go_roundg k2
           case measure => have := HJ2.out; have := HK2.out; omega
           case rel => exact ⟨(wrap64 (x29_2 + 1)), a30_, H', ⟨by have := HJ2.out; have := HK2.out; omega⟩, ⟨by (with_reducible repeat (first | apply Kd.R_alloc | apply Kd.R_drewN | apply Kd.R_drew)); exact HO_7.out⟩, ⟨by (with_reducible repeat (first | apply Kd.R_alloc | apply Kd.R_drewN | apply Kd.R_drew)); exact HO_27.out⟩, ⟨by repeat (first | (with_reducible first | exact HB.out | apply below_alloc | apply pw_below_drewN | apply below_drew1) | exact HB.out)⟩⟩
          ·rw [if_neg c21] at H
           have c21b0 : ((rd t103 x29_2) == 0) = false := beq_eq_false_iff_ne.mpr c21
           have c21b1 : ((rd t103 x29_2) != 0) = true := bne_iff_ne.mpr c21
           by_cases c22 : x29_2 < (t106.length : Int)
           ·rw [if_pos c22] at H
            have c22b0 : decide (x29_2 < (t106.length : Int)) = true := decide_eq_true c22
            clear c22
            by_cases c23 : (rd t106 x29_2) = 0
            ·rw [if_pos c23] at H
             have c23b0 : ((rd t106 x29_2) == 0) = true := beq_iff_eq.mpr c23
             have c23b1 : ((rd t106 x29_2) != 0) = false := bne_eq_false_iff_eq.mpr c23
             clear c23
             have H' := mz H
             clear H
             have p109 : 0 ≤ (x29_2 : Int) := of_decide_eq_true a29_
             have q109 : x29_2 < (t103.length : Int) := of_decide_eq_true a29_
             obtain ⟨ad109, e109, hx109_0⟩ := Kd.at_int (Kd.R_reads' HO_27.out).2.2 x29_2 p109 q109
             cases e109
             replace p109 := eq_true p109
             replace q109 := eq_true q109
             have p110 : 0 ≤ (x29_2 : Int) := of_decide_eq_true a29_
             have q110 : x29_2 < (t106.length : Int) := of_decide_eq_true a29_
             obtain ⟨ad110, e110, hx110_0⟩ := Kd.at_int (Kd.R_reads' HO_7.out).2.2 x29_2 p110 q110
             cases e110
             replace p110 := eq_true p110
             replace q110 := eq_true q110
             go_wp2
             go_roundg k2
             case measure => have := HJ2.out; have := HK2.out; omega
             case rel => exact ⟨(wrap64 (x29_2 + 1)), a30_, H', ⟨by have := HJ2.out; have := HK2.out; omega⟩, ⟨by (with_reducible repeat (first | apply Kd.R_alloc | apply Kd.R_drewN | apply Kd.R_drew)); exact HO_7.out⟩, ⟨by (with_reducible repeat (first | apply Kd.R_alloc | apply Kd.R_drewN | apply Kd.R_drew)); exact HO_27.out⟩, ⟨by repeat (first | (with_reducible first | exact HB.out | apply below_alloc | apply pw_below_drewN | apply below_drew1) | exact HB.out)⟩⟩
            ·rw [if_neg c23] at H
             have c23b0 : ((rd t106 x29_2) == 0) = false := beq_eq_false_iff_ne.mpr c23
             have c23b1 : ((rd t106 x29_2) != 0) = true := bne_iff_ne.mpr c23
             by_cases c24 : (rd t103 x29_2) = (rd t106 x29_2)
             ·rw [if_pos c24] at H
              have c24b0 : ((rd t103 x29_2) == (rd t106 x29_2)) = true := beq_iff_eq.mpr c24
              have c24b1 : ((rd t103 x29_2) != (rd t106 x29_2)) = false := bne_eq_false_iff_eq.mpr c24
              clear c24
              have H' := mz H
              clear H
              have p109 : 0 ≤ (x29_2 : Int) := of_decide_eq_true a29_
              have q109 : x29_2 < (t103.length : Int) := of_decide_eq_true a29_
              obtain ⟨ad109, e109, hx109_0⟩ := Kd.at_int (Kd.R_reads' HO_27.out).2.2 x29_2 p109 q109
              cases e109
              replace p109 := eq_true p109
              replace q109 := eq_true q109
              have p110 : 0 ≤ (x29_2 : Int) := of_decide_eq_true a29_
              have q110 : x29_2 < (t106.length : Int) := of_decide_eq_true a29_
              obtain ⟨ad110, e110, hx110_0⟩ := Kd.at_int (Kd.R_reads' HO_7.out).2.2 x29_2 p110 q110
              cases e110
              replace p110 := eq_true p110
              replace q110 := eq_true q110
              have p111 : 0 ≤ (x29_2 : Int) := of_decide_eq_true a29_
              have q111 : x29_2 < (t106.length : Int) := of_decide_eq_true a29_
              obtain ⟨ad111, e111, hx111_0⟩ := Kd.at_int (Kd.R_reads' HO_7.out).2.2 x29_2 p111 q111
              obtain rfl : ad110 = ad111 := (by injection e111)
              replace p111 := eq_true p111
              replace q111 := eq_true q111
              go_wp2
              go_roundg k2
              case measure => have := HJ2.out; have := HK2.out; omega
              case rel => exact ⟨(wrap64 (x29_2 + 1)), a30_, H', ⟨by have := HJ2.out; have := HK2.out; omega⟩, ⟨by (with_reducible repeat (first | apply Kd.R_alloc | apply Kd.R_drewN | apply Kd.R_drew)); exact HO_7.out⟩, ⟨by (with_reducible repeat (first | apply Kd.R_alloc | apply Kd.R_drewN | apply Kd.R_drew)); exact HO_27.out⟩, ⟨by repeat (first | (with_reducible first | exact HB.out | apply below_alloc | apply pw_below_drewN | apply below_drew1) | exact HB.out)⟩⟩
             ·rw [if_neg c24] at H
              have c24b0 : ((rd t103 x29_2) == (rd t106 x29_2)) = false := beq_eq_false_iff_ne.mpr c24
              have c24b1 : ((rd t103 x29_2) != (rd t106 x29_2)) = true := bne_iff_ne.mpr c24
              simp only [Option.some.injEq, Prod.mk.injEq] at H
              obtain ⟨rfl, rfl⟩ := H
              have p109 : 0 ≤ (x29_2 : Int) := of_decide_eq_true a29_
              have q109 : x29_2 < (t103.length : Int) := of_decide_eq_true a29_
              obtain ⟨ad109, e109, hx109_0⟩ := Kd.at_int (Kd.R_reads' HO_27.out).2.2 x29_2 p109 q109
              cases e109
              replace p109 := eq_true p109
              replace q109 := eq_true q109
              have p110 : 0 ≤ (x29_2 : Int) := of_decide_eq_true a29_
              have q110 : x29_2 < (t106.length : Int) := of_decide_eq_true a29_
              obtain ⟨ad110, e110, hx110_0⟩ := Kd.at_int (Kd.R_reads' HO_7.out).2.2 x29_2 p110 q110
              cases e110
              replace p110 := eq_true p110
              replace q110 := eq_true q110
              have p111 : 0 ≤ (x29_2 : Int) := of_decide_eq_true a29_
              have q111 : x29_2 < (t106.length : Int) := of_decide_eq_true a29_
              obtain ⟨ad111, e111, hx111_0⟩ := Kd.at_int (Kd.R_reads' HO_7.out).2.2 x29_2 p111 q111
              obtain rfl : ad110 = ad111 := (by injection e111)
              replace p111 := eq_true p111
              replace q111 := eq_true q111
              go_wp2
              go_ret2
              exact ⟨a27_, a12_⟩
           ·rw [if_neg c22] at H
            exact absurd H (by simp)
         ·rw [if_neg c20] at H
          exact absurd H (by simp)
        ·rw [if_neg c19] at H
         exact absurd H (by simp)
       ·rw [if_neg c18] at H
        have c18b0 : decide (x29_2 < (t103.length : Int)) = false := decide_eq_false c18
        clear c18
        simp only [Option.some.injEq, Prod.mk.injEq] at H
        obtain ⟨rfl, rfl⟩ := H
        go_wp2
        go_ret2
        exact ⟨a27_, a12_⟩
    ·rw [if_neg c13] at H
     have c13b0 : ((t103.length : Int) == (t106.length : Int)) = false := beq_eq_false_iff_ne.mpr c13
     have c13b1 : ((t103.length : Int) != (t106.length : Int)) = true := bne_iff_ne.mpr c13
     have c13b2 : (t103.length == t106.length) = false := by first | simpa using c13 | (simp at c13 ⊢; omega)
     simp only [Option.some.injEq, Prod.mk.injEq] at H
     obtain ⟨rfl, rfl⟩ := H
     go_wp2_with (first | ((with_reducible refine gate_callee (f := 132) rfl ?_); refine goesL_ (some 19) rfl rfl Try.func132 (by kernel_rfl) rfl #[.slice A0 l0.length c0] rfl a11_ ?_; (with_reducible refine (impl_dropped.calls kj2 _ _ l0 t103 _ ?side1 ?side2 A11.out).mono ?_); (case side1 => repeat (first | exact (Kd.C_below HR0.out HB.out) | (with_reducible refine Kd.C_alloc ?_ _) | (with_reducible refine Kd.C_drewN ?_ _) | (with_reducible refine Kd.C_drew ?_))); (case side2 => exact HC0.out); rintro e w25 ⟨v104, rfl, ho0, hb⟩; refine ⟨_, rfl, ?_⟩; have n0_ := mz (Kd.R_lower ho0 bz1_); have n1_ := mz (bs0_ hb); clear HB; have HO105 := n0_; have HB := n1_; clear n0_ n1_; (try clear hb); (try clear hb2); (try clear hk); (try clear hi); (try clear ho0)) | ((with_reducible refine gate_callee (f := 132) rfl ?_); refine goesL_ (some 21) rfl rfl Try.func132 (by kernel_rfl) rfl #[.slice A1 l1.length c1] rfl a11_ ?_; (with_reducible refine (impl_dropped.calls kj2 _ _ l1 t106 _ ?side1 ?side2 A12.out).mono ?_); (case side1 => repeat (first | exact (Kd.C_below HR1.out HB.out) | (with_reducible refine Kd.C_alloc ?_ _) | (with_reducible refine Kd.C_drewN ?_ _) | (with_reducible refine Kd.C_drew ?_))); (case side2 => exact HC1.out); rintro e w26 ⟨v107, rfl, ho0, hb⟩; refine ⟨_, rfl, ?_⟩; have n0_ := mz (Kd.R_elder' a16_ (Kd.R_base ho0) hb); have n1_ := mz (Kd.R_lower (Kd.R_new' ho0 (Kd.R_lt a16_)) bz1_); have n2_ := mz (bs0_ hb); clear HO105; clear HB; have HO105 := n0_; have HO108 := n1_; have HB := n2_; clear n0_ n1_ n2_; (try clear hb); (try clear hb2); (try clear hk); (try clear hi); (try clear ho0); obtain ⟨Ao27, co27, eo27⟩ := Kd.R_slice HO105.out; subst eo27; obtain ⟨Ao28, co28, eo28⟩ := Kd.R_slice HO108.out; subst eo28))
     go_ret2
     exact ⟨a27_, a12_⟩
end
section
attribute [local go_sem] max2_int min2_int max_two min_two max_three min_three max_four min_four
def spec_l4Bytes.l0 : Nat → List Int → List (S86) → Int → Int → Option (List Int)
 | 0, _, _, _, _ => none
 | k + 1, x3, x6, x7, x8 => if x8 < x7 then (if 0 ≤ x8 then (if x8 < (x6.length : Int) then (if 0 ≤ ((rd_T86 x6 x8).f0) then (if x3.length + ((rd_T86 x6 x8).f0 : Int).toNat < 140737488355328 then ((some (x3 ++ List.replicate ((rd_T86 x6 x8).f0 : Int).toNat 0 : List Int)).bind fun y103 => (if y103.length + ((rd_T86 x6 x8).f2).size < 140737488355328 then (spec_l4Bytes.l0 k (y103 ++ bytesOf ((rd_T86 x6 x8).f2)) x6 x7 (wrap64 (x8 + 1))) else (none))) else (none)) else (none)) else (none)) else (none)) else (some x3)
def spec_l4Bytes.f (k : Nat) (l0 : List (S86)) : Option (List Int) := spec_l4Bytes.l0 k ([] : List Int) l0 (l0.length : Int) 0
set_option maxHeartbeats 8000000 in
set_option maxRecDepth 100000 in
theorem spec_l4Bytes.calls (k : Nat) (A0 : Option Addr) (c0 : Nat) (l0 : List (S86)) (r : List Int) (w : World) (hr0 : Kd.C k86 w A0 l0.length l0) (hc0 : l0.length ≤ c0) (h : spec_l4Bytes.f k l0 = some r) :
  Calls Try.prog 137 #[.slice A0 l0.length c0] w fun e w' => ∃ v0_ : Value, e = .returned (v0_) ∧ Kd.R (Kd.int .u8) 5 w' w.heap.size (fun _ => True) v0_ r ∧ Below w.heap.size w w' := by
 have hu86 := Try.underlying86
 have HR0 := mz hr0
 have HC0 := mz hc0
 clear hr0 hc0
 have HB := mz (Below.refl w.heap.size w)
 have H : (spec_l4Bytes.l0 k ([] : List Int) l0 (l0.length : Int) 0) = some r := h
 clear h
 have H' := mz H
 clear H
 go_enter Try.func137, Try.ntmps137
 go_wp2
 go_loopg [3, 8] k (fun kq v3 v8 w' => ∃ (x3_1 : List Int) (x8_1 : Int), v8 = .int .i64 x8_1 ∧ Aside0 (spec_l4Bytes.l0 kq x3_1 l0 (l0.length : Int) x8_1 = some r) ∧ Aside0 (kq ≤ k) ∧ Aside0 (Kd.R (Kd.int .u8) 5 w' w.heap.size (fun _ => True) v3 x3_1) ∧ Aside0 (Below w.heap.size w w'))
 case atStart => exact ⟨(([] : List Int)), (0), a30_, H', ⟨Nat.le_refl _⟩, ⟨by first | exact Kd.R_nil _ _ _ _ _ | exact Kd.N_nil _ _ _ _ _ | exact Kd.V_nil _ _ _ _ _ | exact Kd.Q_nil _ _ _ _ _ | exact Kd.S_nil _ _ _ _ _⟩, ⟨by repeat (first | (with_reducible first | exact HB.out | apply below_alloc | apply pw_below_drewN | apply below_drew1) | exact HB.out)⟩⟩
 case round =>
  clear H'
  try clear c1
  obtain ⟨x3_1, x8_1, rfl, HA, HK1, HO_3, HB⟩ := hrel
  cases gk with
  | zero => exact absurd HA.out (by simp [spec_l4Bytes.l0])
  | succ k1 =>
   have H := HA.out
   clear HA
   simp only [spec_l4Bytes.l0] at H
   by_cases c2 : x8_1 < (l0.length : Int)
   ·rw [if_pos c2] at H
    have c2b0 : decide (x8_1 < (l0.length : Int)) = true := decide_eq_true c2
    clear c2
    by_cases c3 : 0 ≤ x8_1
    ·rw [if_pos c3] at H
     have c3b0 : decide (0 ≤ x8_1) = true := decide_eq_true c3
     clear c3
     by_cases c4 : x8_1 < (l0.length : Int)
     ·rw [if_pos c4] at H
      have c4b0 : decide (x8_1 < (l0.length : Int)) = true := decide_eq_true c4
      clear c4
      by_cases c5 : 0 ≤ ((rd_T86 l0 x8_1).f0)
      ·rw [if_pos c5] at H
       have c5b0 := eq_true c5
       have c5b1 : decide (0 ≤ ((rd_T86 l0 x8_1).f0)) = true := decide_eq_true c5
       clear c5
       by_cases c6 : x3_1.length + ((rd_T86 l0 x8_1).f0 : Int).toNat < 140737488355328
       ·rw [if_pos c6] at H
        have LMc6 := mz c6
        clear c6
        obtain ⟨y103, hy103⟩ : ∃ y_ : List Int, y_ = (x3_1 ++ List.replicate ((rd_T86 l0 x8_1).f0 : Int).toNat 0) := ⟨_, rfl⟩
        replace H : (if y103.length + ((rd_T86 l0 x8_1).f2).size < 140737488355328 then (spec_l4Bytes.l0 k1 (y103 ++ bytesOf ((rd_T86 l0 x8_1).f2)) l0 (l0.length : Int) (wrap64 (x8_1 + 1))) else (none)) = some r := by first | (rw [hy103]; with_reducible exact H) | (have H2_ := (Option.bind_some _ _).symm.trans H; rw [hy103]; with_reducible exact H2_) | (have H2_ := (Option.bind_some _ _).symm.trans H; with_reducible exact H2_) | with_reducible exact H | (rw [hy103]; exact H) | exact H
        have Ny103 := mz hy103
        clear hy103
        by_cases c7 : y103.length + ((rd_T86 l0 x8_1).f2).size < 140737488355328
        ·rw [if_pos c7] at H
         have LMc7 := mz c7
         clear c7
         obtain ⟨y106, hy106⟩ : ∃ y_ : List Int, y_ = (y103 ++ bytesOf ((rd_T86 l0 x8_1).f2)) := ⟨_, rfl⟩
         replace H : (spec_l4Bytes.l0 k1 y106 l0 (l0.length : Int) (wrap64 (x8_1 + 1))) = some r := by first | (rw [hy106]; with_reducible exact H) | (have H2_ := (Option.bind_some _ _).symm.trans H; rw [hy106]; with_reducible exact H2_) | (have H2_ := (Option.bind_some _ _).symm.trans H; with_reducible exact H2_) | with_reducible exact H | (rw [hy106]; exact H) | exact H
         have Ny106 := mz hy106
         clear hy106
         have H' := mz H
         clear H
         have p101 : 0 ≤ (x8_1 : Int) := of_decide_eq_true a29_
         have q101 : x8_1 < (l0.length : Int) := of_decide_eq_true a29_
         obtain ⟨ad101, e101, hx101_0, hx101_1, hx101_2⟩ := at_T86 HR0.out x8_1 p101 q101
         cases e101
         replace hx101_0 := bc_ HB.out hx101_0
         replace hx101_1 := bc_ HB.out hx101_1
         replace hx101_2 := bc_ HB.out hx101_2
         replace p101 := eq_true p101
         replace q101 := eq_true q101
         go_wp2_with (first | ((with_reducible refine gate_dst (N := 5) rfl ?_); refine bz_ 5 #[.int .i64 0, .string (⟨#[]⟩ : ByteArray), .string (⟨#[]⟩ : ByteArray)] 86 ?_; intro gb102 hg w8 hbox hb; have n0_ := mz (Kd.R_below a24_ hb); have n1_ := mz (bs0_ hb); have n2_ := mz (hbox); have n3_ := mz ((by rw [hg]; exact bz1_ : w.heap.size ≤ gb102)); have n4_ := mz ((by rw [hg]; exact bz1_ : w.heap.size ≤ gb102)); clear HO_3; clear HB; have HO_3 := n0_; have HB := n1_; have BK102 := n2_; have GW102 := n3_; have GE102 := n4_; clear n0_ n1_ n2_ n3_ n4_; clear hb hbox hg; have hcz9_0 := bk_ BK102.out 0 (.int .i64 0); have hcz9_1 := bk_ BK102.out 1 (.string (⟨#[]⟩ : ByteArray)); have hcz9_2 := bk_ BK102.out 2 (.string (⟨#[]⟩ : ByteArray)); have hfz9_0 := blk_frozen BK102.out 0; have hfz9_1 := blk_frozen BK102.out 1; have hfz9_2 := blk_frozen BK102.out 2) | (at_builtin; refine Kd.R_append_zeros (Kd.int .u8) (w0 := w) w.heap.size rfl (.tmp 12) (.tmp 14) 136 3 5 (.int .u8 0) 1 rfl Try.underlying136 Try.underlying3 info5 rfl (by decide) (by omega) u3 x3_1 0 ((rd_T86 l0 x8_1).f0 : Int) (fun _ => True) rfl rfl rfl ?aF ?aO (of_decide_eq_true a29_) ?aB ?aS ?aL ?_; (case aB => exact a9_); (case aF => exact (fun _ _ => trivial)); (case aO => exact (by (with_reducible repeat (first | apply Kd.R_alloc | apply Kd.R_drewN | apply Kd.R_drew)); exact Kd.R_mono (Kd.R_far (p := ⟨gb102, 2, none⟩) (Kd.R_far (p := ⟨gb102, 1, none⟩) (Kd.R_far (p := ⟨gb102, 0, none⟩) (Kd.R_types HO_3.out BK102.out (by decide)) (fun _ hk => hk.2) (.int .i64 ((rd_T86 l0 x8_1).f0))) (fun _ hk => hk.2) (.string ((rd_T86 l0 x8_1).f1))) (fun _ hk => hk.2) (.string ((rd_T86 l0 x8_1).f2))) (fun _ hk => trivial))); (case aS => exact bz9_); (case aL => have := LMc6.out; omega); intro v104 w10 ho hb hg hat; rw [← Ny103.out] at ho; have n0_ := mz (blk_grown (g := gb102) (o := .cells #[.int .i64 ((rd_T86 l0 x8_1).f0), .string ((rd_T86 l0 x8_1).f1), .string ((rd_T86 l0 x8_1).f2)] 86 (0, 0)) (by (with_reducible repeat (first | refine blk_drewN ?_ _ | refine blk_drew ?_ | refine blk_alloc ?_ _)); refine blk_put (cs := #[.int .i64 ((rd_T86 l0 x8_1).f0), .string ((rd_T86 l0 x8_1).f1), .string (⟨#[]⟩ : ByteArray)]) ?_ 2 _ rfl; (with_reducible repeat (first | refine blk_drewN ?_ _ | refine blk_drew ?_ | refine blk_alloc ?_ _)); refine blk_put (cs := #[.int .i64 ((rd_T86 l0 x8_1).f0), .string (⟨#[]⟩ : ByteArray), .string (⟨#[]⟩ : ByteArray)]) ?_ 1 _ rfl; (with_reducible repeat (first | refine blk_drewN ?_ _ | refine blk_drew ?_ | refine blk_alloc ?_ _)); refine blk_put (cs := #[.int .i64 0, .string (⟨#[]⟩ : ByteArray), .string (⟨#[]⟩ : ByteArray)]) ?_ 0 _ rfl; (with_reducible repeat (first | refine blk_drewN ?_ _ | refine blk_drew ?_ | refine blk_alloc ?_ _)); exact BK102.out) hg (Kd.R_ne HO_3.out BK102.out (by decide))); have n1_ := mz (hb); have n2_ := mz (ho); clear BK102; clear HB; clear HO_3; have BK102 := n0_; have HB := n1_; have HO105 := n2_; clear n0_ n1_ n2_; clear ho hb hg hat; have hcz11_0 := bk_ BK102.out 0 (.int .i64 ((rd_T86 l0 x8_1).f0)); have hcz11_1 := bk_ BK102.out 1 (.string ((rd_T86 l0 x8_1).f1)); have hcz11_2 := bk_ BK102.out 2 (.string ((rd_T86 l0 x8_1).f2)); have hfz11_0 := blk_frozen BK102.out 0; have hfz11_1 := blk_frozen BK102.out 1; have hfz11_2 := blk_frozen BK102.out 2) | (at_builtin; refine print_append_str (w0 := w) w.heap.size rfl (.tmp 16) _ 136 9 5 rfl Try.underlying136 Try.underlying9 info5 v104 y103 ((rd_T86 l0 x8_1).f2) rfl rfl ?aO ?aB ?aS ?aL ?_; (case aB => exact a9_); (case aO => exact (Kd.own_of_R a16_)); (case aS => exact bz9_); (case aL => have := LMc7.out; omega); intro v107 w12 ho0 hb hg; have ho := Kd.R_of_own (h1 := fun _ => rfl) (ok := fun _ => True) ho0 (fun _ _ => trivial); clear ho0; have hat := True.intro; rw [← Ny106.out] at ho; change Kd.R (Kd.int .u8) 5 w12 w.heap.size (fun _ => True) v107 y106 at ho; have n0_ := mz (blk_grown (g := gb102) (o := .cells #[.int .i64 ((rd_T86 l0 x8_1).f0), .string ((rd_T86 l0 x8_1).f1), .string ((rd_T86 l0 x8_1).f2)] 86 (0, 0)) a15_ hg (Kd.R_ne HO105.out BK102.out (by decide))); have n1_ := mz (hb); have n2_ := mz (ho); clear BK102; clear HB; clear HO105; have BK102 := n0_; have HB := n1_; have HO108 := n2_; clear n0_ n1_ n2_; clear ho hb hg hat))
         go_roundg k1
         case measure => have := HK1.out; omega
         case rel => exact ⟨(y106), (wrap64 (x8_1 + 1)), a30_, H', ⟨by have := HK1.out; omega⟩, ⟨by (with_reducible repeat (first | apply Kd.R_alloc | apply Kd.R_drewN | apply Kd.R_drew)); exact HO108.out⟩, ⟨by repeat (first | (with_reducible first | exact HB.out | apply below_alloc | apply pw_below_drewN | apply below_drew1 | refine below_set ?_ GE102.out) | exact HB.out)⟩⟩
        ·rw [if_neg c7] at H
         exact absurd H (by simp)
       ·rw [if_neg c6] at H
        exact absurd H (by simp)
      ·rw [if_neg c5] at H
       exact absurd H (by simp)
     ·rw [if_neg c4] at H
      exact absurd H (by simp)
    ·rw [if_neg c3] at H
     exact absurd H (by simp)
   ·rw [if_neg c2] at H
    have c2b0 : decide (x8_1 < (l0.length : Int)) = false := decide_eq_false c2
    clear c2
    obtain rfl := Option.some.inj H
    go_wp2
    go_ret
    exact ⟨_, a27_, a24_, a12_⟩
end
section
attribute [local go_sem] max2_int min2_int max_two min_two max_three min_three max_four min_four
def spec_l4Same.l0 : Nat → List Int → List Int → Int → Int → Option (Bool × Bool)
 | 0, _, _, _, _ => none
 | k + 1, x6, x7, x19, x20 => if x20 < x19 then (if 0 ≤ x20 then (if x20 < (x6.length : Int) then (if (rd x6 x20) = 0 then (spec_l4Same.l0 k x6 x7 x19 (wrap64 (x20 + 1))) else (if x20 < (x7.length : Int) then (if (rd x7 x20) = 0 then (spec_l4Same.l0 k x6 x7 x19 (wrap64 (x20 + 1))) else (if (rd x6 x20) = (rd x7 x20) then (spec_l4Same.l0 k x6 x7 x19 (wrap64 (x20 + 1))) else (some (false, true)))) else (none))) else (none)) else (none)) else (some (true, true))
def spec_l4Same.f (k : Nat) (l0 : List (S86)) (l1 : List (S86)) : Option (Bool × Bool) := (spec_l4Bytes.f k l0).bind fun t101 => ((spec_l4Bytes.f k l1).bind fun t104 => (if (t101.length : Int) = (t104.length : Int) then (spec_l4Same.l0 k t101 t104 (t101.length : Int) 0) else (some (false, false))))
set_option maxHeartbeats 8000000 in
set_option maxRecDepth 100000 in
theorem spec_l4Same.calls (k : Nat) (A0 : Option Addr) (c0 : Nat) (l0 : List (S86)) (A1 : Option Addr) (c1 : Nat) (l1 : List (S86)) (r1 : Bool) (r2 : Bool) (w : World) (hr0 : Kd.C k86 w A0 l0.length l0) (hc0 : l0.length ≤ c0) (hr1 : Kd.C k86 w A1 l1.length l1) (hc1 : l1.length ≤ c1) (h : spec_l4Same.f k l0 l1 = some (r1, r2)) :
  Calls Try.prog 131 #[.slice A0 l0.length c0, .slice A1 l1.length c1] w fun e w' => e = .returned (.tuple #[.bool r1, .bool r2]) ∧ Below w.heap.size w w' := by
 have HR0 := mz hr0
 have HC0 := mz hc0
 clear hr0 hc0
 have HR1 := mz hr1
 have HC1 := mz hc1
 clear hr1 hc1
 have HB := mz (Below.refl w.heap.size w)
 have H : ((spec_l4Bytes.f k l0).bind fun t101 => ((spec_l4Bytes.f k l1).bind fun t104 => (if (t101.length : Int) = (t104.length : Int) then (spec_l4Same.l0 k t101 t104 (t101.length : Int) 0) else (some (false, false))))) = some (r1, r2) := h
 clear h
 replace H := be0_ H
 obtain ⟨t101, A30, H⟩ := H
 replace H : ((spec_l4Bytes.f k l1).bind fun t104 => (if (t101.length : Int) = (t104.length : Int) then (spec_l4Same.l0 k t101 t104 (t101.length : Int) 0) else (some (false, false)))) = some (r1, r2) := H
 have A3 := mz A30
 clear A30
 replace H := be0_ H
 obtain ⟨t104, A40, H⟩ := H
 replace H : (if (t101.length : Int) = (t104.length : Int) then (spec_l4Same.l0 k t101 t104 (t101.length : Int) 0) else (some (false, false))) = some (r1, r2) := H
 have A4 := mz A40
 clear A40
 by_cases c5 : (t101.length : Int) = (t104.length : Int)
 ·rw [if_pos c5] at H
  have c5b0 : ((t101.length : Int) == (t104.length : Int)) = true := beq_iff_eq.mpr c5
  have c5b1 : ((t101.length : Int) != (t104.length : Int)) = false := bne_eq_false_iff_eq.mpr c5
  have c5b2 : (t101.length == t104.length) = true := by first | simpa using c5 | (simp at c5 ⊢; omega)
  clear c5
  have H' := mz H
  clear H
  go_enter Try.func131, Try.ntmps131
  go_wp2_with (first | (go_at_call 137; (with_reducible refine (spec_l4Bytes.calls k _ _ l0 t101 _ ?side1 ?side2 A3.out).mono ?_); (case side1 => repeat (first | exact HR0.out | (with_reducible refine Kd.C_alloc ?_ _) | (with_reducible refine Kd.C_drewN ?_ _) | (with_reducible refine Kd.C_drew ?_))); (case side2 => exact HC0.out); rintro e w6 ⟨v102, rfl, ho0, hb⟩; have n0_ := mz (Kd.R_lower ho0 bz1_); have n1_ := mz (bs0_ hb); clear HB; have HO103 := n0_; have HB := n1_; clear n0_ n1_; (try clear hb); (try clear hb2); (try clear hk); (try clear hi); (try clear ho0)) | (go_at_call 137; (with_reducible refine (spec_l4Bytes.calls k _ _ l1 t104 _ ?side1 ?side2 A4.out).mono ?_); (case side1 => repeat (first | exact (Kd.C_below HR1.out HB.out) | (with_reducible refine Kd.C_alloc ?_ _) | (with_reducible refine Kd.C_drewN ?_ _) | (with_reducible refine Kd.C_drew ?_))); (case side2 => exact HC1.out); rintro e w7 ⟨v105, rfl, ho0, hb⟩; have n0_ := mz (Kd.R_elder' a20_ (Kd.R_base ho0) hb); have n1_ := mz (Kd.R_lower (Kd.R_new' ho0 (Kd.R_lt a20_)) bz1_); have n2_ := mz (bs0_ hb); clear HO103; clear HB; have HO103 := n0_; have HO106 := n1_; have HB := n2_; clear n0_ n1_ n2_; (try clear hb); (try clear hb2); (try clear hk); (try clear hi); (try clear ho0); obtain ⟨Ao8, co8, eo8⟩ := Kd.R_slice HO103.out; subst eo8; obtain ⟨Ao9, co9, eo9⟩ := Kd.R_slice HO106.out; subst eo9))
  repeat (go_quiet (first | (go_at_call 137; (with_reducible refine (spec_l4Bytes.calls k _ _ l0 t101 _ ?side1 ?side2 A3.out).mono ?_); (case side1 => repeat (first | exact HR0.out | (with_reducible refine Kd.C_alloc ?_ _) | (with_reducible refine Kd.C_drewN ?_ _) | (with_reducible refine Kd.C_drew ?_))); (case side2 => exact HC0.out); rintro e w6 ⟨v102, rfl, ho0, hb⟩; have n0_ := mz (Kd.R_lower ho0 bz1_); have n1_ := mz (bs0_ hb); clear HB; have HO103 := n0_; have HB := n1_; clear n0_ n1_; (try clear hb); (try clear hb2); (try clear hk); (try clear hi); (try clear ho0)) | (go_at_call 137; (with_reducible refine (spec_l4Bytes.calls k _ _ l1 t104 _ ?side1 ?side2 A4.out).mono ?_); (case side1 => repeat (first | exact (Kd.C_below HR1.out HB.out) | (with_reducible refine Kd.C_alloc ?_ _) | (with_reducible refine Kd.C_drewN ?_ _) | (with_reducible refine Kd.C_drew ?_))); (case side2 => exact HC1.out); rintro e w7 ⟨v105, rfl, ho0, hb⟩; have n0_ := mz (Kd.R_elder' a20_ (Kd.R_base ho0) hb); have n1_ := mz (Kd.R_lower (Kd.R_new' ho0 (Kd.R_lt a20_)) bz1_); have n2_ := mz (bs0_ hb); clear HO103; clear HB; have HO103 := n0_; have HO106 := n1_; have HB := n2_; clear n0_ n1_ n2_; (try clear hb); (try clear hb2); (try clear hk); (try clear hi); (try clear ho0); obtain ⟨Ao8, co8, eo8⟩ := Kd.R_slice HO103.out; subst eo8; obtain ⟨Ao9, co9, eo9⟩ := Kd.R_slice HO106.out; subst eo9)); try go_wp2_with (first | (go_at_call 137; (with_reducible refine (spec_l4Bytes.calls k _ _ l0 t101 _ ?side1 ?side2 A3.out).mono ?_); (case side1 => repeat (first | exact HR0.out | (with_reducible refine Kd.C_alloc ?_ _) | (with_reducible refine Kd.C_drewN ?_ _) | (with_reducible refine Kd.C_drew ?_))); (case side2 => exact HC0.out); rintro e w6 ⟨v102, rfl, ho0, hb⟩; have n0_ := mz (Kd.R_lower ho0 bz1_); have n1_ := mz (bs0_ hb); clear HB; have HO103 := n0_; have HB := n1_; clear n0_ n1_; (try clear hb); (try clear hb2); (try clear hk); (try clear hi); (try clear ho0)) | (go_at_call 137; (with_reducible refine (spec_l4Bytes.calls k _ _ l1 t104 _ ?side1 ?side2 A4.out).mono ?_); (case side1 => repeat (first | exact (Kd.C_below HR1.out HB.out) | (with_reducible refine Kd.C_alloc ?_ _) | (with_reducible refine Kd.C_drewN ?_ _) | (with_reducible refine Kd.C_drew ?_))); (case side2 => exact HC1.out); rintro e w7 ⟨v105, rfl, ho0, hb⟩; have n0_ := mz (Kd.R_elder' a20_ (Kd.R_base ho0) hb); have n1_ := mz (Kd.R_lower (Kd.R_new' ho0 (Kd.R_lt a20_)) bz1_); have n2_ := mz (bs0_ hb); clear HO103; clear HB; have HO103 := n0_; have HO106 := n1_; have HB := n2_; clear n0_ n1_ n2_; (try clear hb); (try clear hb2); (try clear hk); (try clear hi); (try clear ho0); obtain ⟨Ao8, co8, eo8⟩ := Kd.R_slice HO103.out; subst eo8; obtain ⟨Ao9, co9, eo9⟩ := Kd.R_slice HO106.out; subst eo9)))
  go_loopg [20] k (fun kq v20 w' => ∃ (x20_1 : Int), v20 = .int .i64 x20_1 ∧ Aside0 (spec_l4Same.l0 kq t101 t104 (t101.length : Int) x20_1 = some (r1, r2)) ∧ Aside0 (kq ≤ k) ∧ Aside0 (Kd.R (Kd.int .u8) 5 w' w.heap.size (fun k_ => some k_ ≠ ((.slice Ao9 t104.length co9) : Value).ownBlock) (.slice Ao8 t101.length co8) t101) ∧ Aside0 (Kd.R (Kd.int .u8) 5 w' w.heap.size (fun k_ => some k_ ≠ ((.slice Ao8 t101.length co8) : Value).ownBlock) (.slice Ao9 t104.length co9) t104) ∧ Aside0 (Below w.heap.size w w'))
  case atStart => exact ⟨(0), a30_, H', ⟨Nat.le_refl _⟩, ⟨by (with_reducible repeat (first | apply Kd.R_alloc | apply Kd.R_drewN | apply Kd.R_drew)); exact Kd.R_mono HO103.out (fun _ hk => hk.2)⟩, ⟨by (with_reducible repeat (first | apply Kd.R_alloc | apply Kd.R_drewN | apply Kd.R_drew)); exact Kd.R_mono HO106.out (fun _ hk => hk.2)⟩, ⟨by repeat (first | (with_reducible first | exact HB.out | apply below_alloc | apply pw_below_drewN | apply below_drew1) | exact HB.out)⟩⟩
  case round =>
   clear H'
   try clear c1
   try clear p2
   try clear c5
   try clear c5b0
   try clear c5b1
   try clear c5b2
   obtain ⟨x20_1, rfl, HA, HK1, HO_6, HO_7, HB⟩ := hrel
   cases gk with
   | zero => exact absurd HA.out (by simp [spec_l4Same.l0])
   | succ k1 =>
    have H := HA.out
    clear HA
    simp only [spec_l4Same.l0] at H
    by_cases c10 : x20_1 < (t101.length : Int)
    ·rw [if_pos c10] at H
     have c10b0 : decide (x20_1 < (t101.length : Int)) = true := decide_eq_true c10
     clear c10
     by_cases c11 : 0 ≤ x20_1
     ·rw [if_pos c11] at H
      have c11b0 : decide (0 ≤ x20_1) = true := decide_eq_true c11
      clear c11
      by_cases c12 : x20_1 < (t101.length : Int)
      ·rw [if_pos c12] at H
       have c12b0 : decide (x20_1 < (t101.length : Int)) = true := decide_eq_true c12
       clear c12
       by_cases c13 : (rd t101 x20_1) = 0
       ·rw [if_pos c13] at H
        have c13b0 : ((rd t101 x20_1) == 0) = true := beq_iff_eq.mpr c13
        have c13b1 : ((rd t101 x20_1) != 0) = false := bne_eq_false_iff_eq.mpr c13
        clear c13
        have H' := mz H
        clear H
        have p107 : 0 ≤ (x20_1 : Int) := of_decide_eq_true a29_
        have q107 : x20_1 < (t101.length : Int) := of_decide_eq_true a29_
        obtain ⟨ad107, e107, hx107_0⟩ := Kd.at_int (Kd.R_reads' HO_6.out).2.2 x20_1 p107 q107
        cases e107
        replace p107 := eq_true p107
        replace q107 := eq_true q107
        go_wp2
        repeat (go_quiet (fail); try go_wp2)
        go_roundg k1
        case measure => have := HK1.out; omega
        case rel => exact ⟨(wrap64 (x20_1 + 1)), a30_, H', ⟨by have := HK1.out; omega⟩, ⟨by (with_reducible repeat (first | apply Kd.R_alloc | apply Kd.R_drewN | apply Kd.R_drew)); exact HO_6.out⟩, ⟨by (with_reducible repeat (first | apply Kd.R_alloc | apply Kd.R_drewN | apply Kd.R_drew)); exact HO_7.out⟩, ⟨by repeat (first | (with_reducible first | exact HB.out | apply below_alloc | apply pw_below_drewN | apply below_drew1) | exact HB.out)⟩⟩
       ·rw [if_neg c13] at H
        have c13b0 : ((rd t101 x20_1) == 0) = false := beq_eq_false_iff_ne.mpr c13
        have c13b1 : ((rd t101 x20_1) != 0) = true := bne_iff_ne.mpr c13
        by_cases c14 : x20_1 < (t104.length : Int)
        ·rw [if_pos c14] at H
         have c14b0 : decide (x20_1 < (t104.length : Int)) = true := decide_eq_true c14
         clear c14
         by_cases c15 : (rd t104 x20_1) = 0
         ·rw [if_pos c15] at H
          have c15b0 : ((rd t104 x20_1) == 0) = true := beq_iff_eq.mpr c15
          have c15b1 : ((rd t104 x20_1) != 0) = false := bne_eq_false_iff_eq.mpr c15
          clear c15
          have H' := mz H
          clear H
          have p107 : 0 ≤ (x20_1 : Int) := of_decide_eq_true a29_
          have q107 : x20_1 < (t101.length : Int) := of_decide_eq_true a29_
          obtain ⟨ad107, e107, hx107_0⟩ := Kd.at_int (Kd.R_reads' HO_6.out).2.2 x20_1 p107 q107
          cases e107
          replace p107 := eq_true p107
          replace q107 := eq_true q107
          have p108 : 0 ≤ (x20_1 : Int) := of_decide_eq_true a29_
          have q108 : x20_1 < (t104.length : Int) := of_decide_eq_true a29_
          obtain ⟨ad108, e108, hx108_0⟩ := Kd.at_int (Kd.R_reads' HO_7.out).2.2 x20_1 p108 q108
          cases e108
          replace p108 := eq_true p108
          replace q108 := eq_true q108
          go_wp2
          repeat (go_quiet (fail); try go_wp2)
          go_roundg k1
          case measure => have := HK1.out; omega
          case rel => exact ⟨(wrap64 (x20_1 + 1)), a30_, H', ⟨by have := HK1.out; omega⟩, ⟨by (with_reducible repeat (first | apply Kd.R_alloc | apply Kd.R_drewN | apply Kd.R_drew)); exact HO_6.out⟩, ⟨by (with_reducible repeat (first | apply Kd.R_alloc | apply Kd.R_drewN | apply Kd.R_drew)); exact HO_7.out⟩, ⟨by repeat (first | (with_reducible first | exact HB.out | apply below_alloc | apply pw_below_drewN | apply below_drew1) | exact HB.out)⟩⟩
         ·rw [if_neg c15] at H
          have c15b0 : ((rd t104 x20_1) == 0) = false := beq_eq_false_iff_ne.mpr c15
          have c15b1 : ((rd t104 x20_1) != 0) = true := bne_iff_ne.mpr c15
          by_cases c16 : (rd t101 x20_1) = (rd t104 x20_1)
          ·rw [if_pos c16] at H
           have c16b0 : ((rd t101 x20_1) == (rd t104 x20_1)) = true := beq_iff_eq.mpr c16
           have c16b1 : ((rd t101 x20_1) != (rd t104 x20_1)) = false := bne_eq_false_iff_eq.mpr c16
           clear c16
           have H' := mz H
           clear H
           have p107 : 0 ≤ (x20_1 : Int) := of_decide_eq_true a29_
           have q107 : x20_1 < (t101.length : Int) := of_decide_eq_true a29_
           obtain ⟨ad107, e107, hx107_0⟩ := Kd.at_int (Kd.R_reads' HO_6.out).2.2 x20_1 p107 q107
           cases e107
           replace p107 := eq_true p107
           replace q107 := eq_true q107
           have p108 : 0 ≤ (x20_1 : Int) := of_decide_eq_true a29_
           have q108 : x20_1 < (t104.length : Int) := of_decide_eq_true a29_
           obtain ⟨ad108, e108, hx108_0⟩ := Kd.at_int (Kd.R_reads' HO_7.out).2.2 x20_1 p108 q108
           cases e108
           replace p108 := eq_true p108
           replace q108 := eq_true q108
           have p109 : 0 ≤ (x20_1 : Int) := of_decide_eq_true a29_
           have q109 : x20_1 < (t101.length : Int) := of_decide_eq_true a29_
           obtain ⟨ad109, e109, hx109_0⟩ := Kd.at_int (Kd.R_reads' HO_6.out).2.2 x20_1 p109 q109
           obtain rfl : ad107 = ad109 := (by injection e109)
           replace p109 := eq_true p109
           replace q109 := eq_true q109
           have p110 : 0 ≤ (x20_1 : Int) := of_decide_eq_true a29_
           have q110 : x20_1 < (t104.length : Int) := of_decide_eq_true a29_
           obtain ⟨ad110, e110, hx110_0⟩ := Kd.at_int (Kd.R_reads' HO_7.out).2.2 x20_1 p110 q110
           obtain rfl : ad108 = ad110 := (by injection e110)
           replace p110 := eq_true p110
           replace q110 := eq_true q110
           go_wp2
           repeat (go_quiet (fail); try go_wp2)
           go_roundg k1
           case measure => have := HK1.out; omega
           case rel => exact ⟨(wrap64 (x20_1 + 1)), a30_, H', ⟨by have := HK1.out; omega⟩, ⟨by (with_reducible repeat (first | apply Kd.R_alloc | apply Kd.R_drewN | apply Kd.R_drew)); exact HO_6.out⟩, ⟨by (with_reducible repeat (first | apply Kd.R_alloc | apply Kd.R_drewN | apply Kd.R_drew)); exact HO_7.out⟩, ⟨by repeat (first | (with_reducible first | exact HB.out | apply below_alloc | apply pw_below_drewN | apply below_drew1) | exact HB.out)⟩⟩
          ·rw [if_neg c16] at H
           have c16b0 : ((rd t101 x20_1) == (rd t104 x20_1)) = false := beq_eq_false_iff_ne.mpr c16
           have c16b1 : ((rd t101 x20_1) != (rd t104 x20_1)) = true := bne_iff_ne.mpr c16
           simp only [Option.some.injEq, Prod.mk.injEq] at H
           obtain ⟨rfl, rfl⟩ := H
           have p107 : 0 ≤ (x20_1 : Int) := of_decide_eq_true a29_
           have q107 : x20_1 < (t101.length : Int) := of_decide_eq_true a29_
           obtain ⟨ad107, e107, hx107_0⟩ := Kd.at_int (Kd.R_reads' HO_6.out).2.2 x20_1 p107 q107
           cases e107
           replace p107 := eq_true p107
           replace q107 := eq_true q107
           have p108 : 0 ≤ (x20_1 : Int) := of_decide_eq_true a29_
           have q108 : x20_1 < (t104.length : Int) := of_decide_eq_true a29_
           obtain ⟨ad108, e108, hx108_0⟩ := Kd.at_int (Kd.R_reads' HO_7.out).2.2 x20_1 p108 q108
           cases e108
           replace p108 := eq_true p108
           replace q108 := eq_true q108
           have p109 : 0 ≤ (x20_1 : Int) := of_decide_eq_true a29_
           have q109 : x20_1 < (t101.length : Int) := of_decide_eq_true a29_
           obtain ⟨ad109, e109, hx109_0⟩ := Kd.at_int (Kd.R_reads' HO_6.out).2.2 x20_1 p109 q109
           obtain rfl : ad107 = ad109 := (by injection e109)
           replace p109 := eq_true p109
           replace q109 := eq_true q109
           have p110 : 0 ≤ (x20_1 : Int) := of_decide_eq_true a29_
           have q110 : x20_1 < (t104.length : Int) := of_decide_eq_true a29_
           obtain ⟨ad110, e110, hx110_0⟩ := Kd.at_int (Kd.R_reads' HO_7.out).2.2 x20_1 p110 q110
           obtain rfl : ad108 = ad110 := (by injection e110)
           replace p110 := eq_true p110
           replace q110 := eq_true q110
           go_wp2
           repeat (go_quiet (fail); try go_wp2)
           go_ret2
           exact ⟨a27_, a12_⟩
        ·rw [if_neg c14] at H
         exact absurd H (by simp)
      ·rw [if_neg c12] at H
       exact absurd H (by simp)
     ·rw [if_neg c11] at H
      exact absurd H (by simp)
    ·rw [if_neg c10] at H
     have c10b0 : decide (x20_1 < (t101.length : Int)) = false := decide_eq_false c10
     clear c10
     simp only [Option.some.injEq, Prod.mk.injEq] at H
     obtain ⟨rfl, rfl⟩ := H
     go_wp2
     repeat (go_quiet (fail); try go_wp2)
     go_ret2
     exact ⟨a27_, a12_⟩
 ·rw [if_neg c5] at H
  have c5b0 : ((t101.length : Int) == (t104.length : Int)) = false := beq_eq_false_iff_ne.mpr c5
  have c5b1 : ((t101.length : Int) != (t104.length : Int)) = true := bne_iff_ne.mpr c5
  have c5b2 : (t101.length == t104.length) = false := by first | simpa using c5 | (simp at c5 ⊢; omega)
  simp only [Option.some.injEq, Prod.mk.injEq] at H
  obtain ⟨rfl, rfl⟩ := H
  go_enter Try.func131, Try.ntmps131
  go_wp2_with (first | (go_at_call 137; (with_reducible refine (spec_l4Bytes.calls k _ _ l0 t101 _ ?side1 ?side2 A3.out).mono ?_); (case side1 => repeat (first | exact HR0.out | (with_reducible refine Kd.C_alloc ?_ _) | (with_reducible refine Kd.C_drewN ?_ _) | (with_reducible refine Kd.C_drew ?_))); (case side2 => exact HC0.out); rintro e w17 ⟨v102, rfl, ho0, hb⟩; have n0_ := mz (Kd.R_lower ho0 bz1_); have n1_ := mz (bs0_ hb); clear HB; have HO103 := n0_; have HB := n1_; clear n0_ n1_; (try clear hb); (try clear hb2); (try clear hk); (try clear hi); (try clear ho0)) | (go_at_call 137; (with_reducible refine (spec_l4Bytes.calls k _ _ l1 t104 _ ?side1 ?side2 A4.out).mono ?_); (case side1 => repeat (first | exact (Kd.C_below HR1.out HB.out) | (with_reducible refine Kd.C_alloc ?_ _) | (with_reducible refine Kd.C_drewN ?_ _) | (with_reducible refine Kd.C_drew ?_))); (case side2 => exact HC1.out); rintro e w18 ⟨v105, rfl, ho0, hb⟩; have n0_ := mz (Kd.R_elder' a20_ (Kd.R_base ho0) hb); have n1_ := mz (Kd.R_lower (Kd.R_new' ho0 (Kd.R_lt a20_)) bz1_); have n2_ := mz (bs0_ hb); clear HO103; clear HB; have HO103 := n0_; have HO106 := n1_; have HB := n2_; clear n0_ n1_ n2_; (try clear hb); (try clear hb2); (try clear hk); (try clear hi); (try clear ho0); obtain ⟨Ao19, co19, eo19⟩ := Kd.R_slice HO103.out; subst eo19; obtain ⟨Ao20, co20, eo20⟩ := Kd.R_slice HO106.out; subst eo20))
  repeat (go_quiet (first | (go_at_call 137; (with_reducible refine (spec_l4Bytes.calls k _ _ l0 t101 _ ?side1 ?side2 A3.out).mono ?_); (case side1 => repeat (first | exact HR0.out | (with_reducible refine Kd.C_alloc ?_ _) | (with_reducible refine Kd.C_drewN ?_ _) | (with_reducible refine Kd.C_drew ?_))); (case side2 => exact HC0.out); rintro e w17 ⟨v102, rfl, ho0, hb⟩; have n0_ := mz (Kd.R_lower ho0 bz1_); have n1_ := mz (bs0_ hb); clear HB; have HO103 := n0_; have HB := n1_; clear n0_ n1_; (try clear hb); (try clear hb2); (try clear hk); (try clear hi); (try clear ho0)) | (go_at_call 137; (with_reducible refine (spec_l4Bytes.calls k _ _ l1 t104 _ ?side1 ?side2 A4.out).mono ?_); (case side1 => repeat (first | exact (Kd.C_below HR1.out HB.out) | (with_reducible refine Kd.C_alloc ?_ _) | (with_reducible refine Kd.C_drewN ?_ _) | (with_reducible refine Kd.C_drew ?_))); (case side2 => exact HC1.out); rintro e w18 ⟨v105, rfl, ho0, hb⟩; have n0_ := mz (Kd.R_elder' a20_ (Kd.R_base ho0) hb); have n1_ := mz (Kd.R_lower (Kd.R_new' ho0 (Kd.R_lt a20_)) bz1_); have n2_ := mz (bs0_ hb); clear HO103; clear HB; have HO103 := n0_; have HO106 := n1_; have HB := n2_; clear n0_ n1_ n2_; (try clear hb); (try clear hb2); (try clear hk); (try clear hi); (try clear ho0); obtain ⟨Ao19, co19, eo19⟩ := Kd.R_slice HO103.out; subst eo19; obtain ⟨Ao20, co20, eo20⟩ := Kd.R_slice HO106.out; subst eo20)); try go_wp2_with (first | (go_at_call 137; (with_reducible refine (spec_l4Bytes.calls k _ _ l0 t101 _ ?side1 ?side2 A3.out).mono ?_); (case side1 => repeat (first | exact HR0.out | (with_reducible refine Kd.C_alloc ?_ _) | (with_reducible refine Kd.C_drewN ?_ _) | (with_reducible refine Kd.C_drew ?_))); (case side2 => exact HC0.out); rintro e w17 ⟨v102, rfl, ho0, hb⟩; have n0_ := mz (Kd.R_lower ho0 bz1_); have n1_ := mz (bs0_ hb); clear HB; have HO103 := n0_; have HB := n1_; clear n0_ n1_; (try clear hb); (try clear hb2); (try clear hk); (try clear hi); (try clear ho0)) | (go_at_call 137; (with_reducible refine (spec_l4Bytes.calls k _ _ l1 t104 _ ?side1 ?side2 A4.out).mono ?_); (case side1 => repeat (first | exact (Kd.C_below HR1.out HB.out) | (with_reducible refine Kd.C_alloc ?_ _) | (with_reducible refine Kd.C_drewN ?_ _) | (with_reducible refine Kd.C_drew ?_))); (case side2 => exact HC1.out); rintro e w18 ⟨v105, rfl, ho0, hb⟩; have n0_ := mz (Kd.R_elder' a20_ (Kd.R_base ho0) hb); have n1_ := mz (Kd.R_lower (Kd.R_new' ho0 (Kd.R_lt a20_)) bz1_); have n2_ := mz (bs0_ hb); clear HO103; clear HB; have HO103 := n0_; have HO106 := n1_; have HB := n2_; clear n0_ n1_ n2_; (try clear hb); (try clear hb2); (try clear hk); (try clear hi); (try clear ho0); obtain ⟨Ao19, co19, eo19⟩ := Kd.R_slice HO103.out; subst eo19; obtain ⟨Ao20, co20, eo20⟩ := Kd.R_slice HO106.out; subst eo20)))
  go_ret2
  exact ⟨a27_, a12_⟩
end
def bitsT (p : Part) : List Int := List.replicate p.f0.toNat 0 ++ bytesOf p.f2
def bitsL (l : List Part) : List Int := l.flatMap bitsT
def sameL : List Int → List Int → Bool
 | x :: a, y :: b => if x = 0 then sameL a b else if y = 0 then sameL a b else if x = y then sameL a b else false
 | _, _ => true
def sameV (a b : List Part) : Bool × Bool := if (bitsL a).length = (bitsL b).length then (if sameL (bitsL a) (bitsL b) = true then (true, true) else (false, true)) else (false, false)
theorem bytesOf_len (s : ByteArray) : (bytesOf s).length = s.size := by simp [bytesOf]
theorem bitsL_len (l : List Part) : (bitsL l).length = takesN l := by
 induction l with
 | nil => rfl
 | cons p l ih => rw [takesN_cons, ← ih]; simp only [bitsL, List.flatMap_cons, List.length_append, bitsT, List.length_replicate, bytesOf_len]
theorem rd_nat (l : List Int) (i : Nat) (h : i < l.length) : rd l (i : Int) = l[i] := by
 simp [rd, h]
theorem dropped_loop (l : List Part) (hl : l.length ≤ 60) (hb : ∀ p ∈ l, partB p = true) (d : Nat) : ∀ (i : Nat) (acc : List Int), i + d = l.length → acc.length ≤ i * 2000 →
  Ev (fun k => impl_dropped.l0 k acc l (l.length : Int) (i : Int)) (acc ++ bitsL (l.drop i)) ∧ Ev (fun k => spec_l4Bytes.l0 k acc l (l.length : Int) (i : Int)) (acc ++ bitsL (l.drop i)) := by
 induction d with
 | zero =>
  intro i acc h _
  rw [List.drop_eq_nil_of_le (by omega)]
  refine ⟨Ev.succ ?_, Ev.succ ?_⟩
  ·simp only [impl_dropped.l0, if_neg (show ¬ ((i : Int) < (l.length : Int)) by omega)]
   exact ev_eq (Ev.now _) (by simp [bitsL])
  ·simp only [spec_l4Bytes.l0, if_neg (show ¬ ((i : Int) < (l.length : Int)) by omega)]
   exact ev_eq (Ev.now _) (by simp [bitsL])
 | succ d ih =>
  intro i acc h ha
  have hi : i < l.length := by omega
  have hp := hb l[i] (List.getElem_mem hi)
  obtain ⟨p0, p1, p2, p3, _⟩ := partB_cases hp
  have e : l.drop i = l[i] :: l.drop (i + 1) := List.drop_eq_getElem_cons hi
  have e2 : acc ++ bitsL (l.drop i) = (acc ++ List.replicate l[i].f0.toNat 0 ++ bytesOf l[i].f2) ++ bitsL (l.drop (i + 1)) := by
   rw [e]; simp only [bitsL, List.flatMap_cons, bitsT, List.append_assoc]
  have hlen : (acc ++ List.replicate l[i].f0.toNat 0 ++ bytesOf l[i].f2).length ≤ (i + 1) * 2000 := by
   simp only [List.length_append, List.length_replicate, bytesOf_len]; omega
  obtain ⟨h1, h2⟩ := ih (i + 1) (acc ++ List.replicate l[i].f0.toNat 0 ++ bytesOf l[i].f2) (by omega) hlen
  rw [e2]
  refine ⟨Ev.succ ?_, Ev.succ ?_⟩
  ·simp only [impl_dropped.l0, if_pos (show ((i : Int) < (l.length : Int)) by omega), if_pos (show (0 : Int) ≤ i by omega), rd_part l i hi, if_pos p0, if_pos (show acc.length + l[i].f0.toNat < 140737488355328 by omega), Option.bind_some, w64 (show -9223372036854775808 ≤ (i : Int) + 1 by omega) (by omega)]
   simp only [if_pos (show (acc ++ List.replicate l[i].f0.toNat (0 : Int)).length + l[i].f2.size < 140737488355328 by simp only [List.length_append, List.length_replicate]; omega)]
   exact h1
  ·simp only [spec_l4Bytes.l0, if_pos (show ((i : Int) < (l.length : Int)) by omega), if_pos (show (0 : Int) ≤ i by omega), rd_part l i hi, if_pos p0, if_pos (show acc.length + l[i].f0.toNat < 140737488355328 by omega), Option.bind_some, w64 (show -9223372036854775808 ≤ (i : Int) + 1 by omega) (by omega)]
   simp only [if_pos (show (acc ++ List.replicate l[i].f0.toNat (0 : Int)).length + l[i].f2.size < 140737488355328 by simp only [List.length_append, List.length_replicate]; omega)]
   exact h2
theorem dropped_ev {l : List Part} (h : opB l = true) : Ev (fun k => impl_dropped.f k l) (bitsL l) ∧ Ev (fun k => spec_l4Bytes.f k l) (bitsL l) := by
 obtain ⟨h1, h2, _⟩ := opB_of h
 have := dropped_loop l h1 h2 l.length 0 [] (by omega) (by simp)
 simpa [impl_dropped.f, spec_l4Bytes.f] using this
theorem same_loop (x y : List Int) (he : x.length = y.length) (hm : x.length ≤ 100000) (d : Nat) : ∀ i : Nat, i + d = x.length →
  Ev (fun k => impl_SameTexts.l0 k y x (x.length : Int) (i : Int)) (if sameL (x.drop i) (y.drop i) = true then (true, true) else (false, true)) ∧ Ev (fun k => spec_l4Same.l0 k x y (x.length : Int) (i : Int)) (if sameL (x.drop i) (y.drop i) = true then (true, true) else (false, true)) := by
 induction d with
 | zero =>
  intro i h
  rw [List.drop_eq_nil_of_le (show x.length ≤ i by omega)]
  refine ⟨Ev.succ ?_, Ev.succ ?_⟩
  ·simp only [impl_SameTexts.l0, if_neg (show ¬ ((i : Int) < (x.length : Int)) by omega), sameL, if_true]; exact Ev.now _
  ·simp only [spec_l4Same.l0, if_neg (show ¬ ((i : Int) < (x.length : Int)) by omega), sameL, if_true]; exact Ev.now _
 | succ d ih =>
  intro i h
  have hi : i < x.length := by omega
  have hj : i < y.length := by omega
  obtain ⟨h1, h2⟩ := ih (i + 1) (by omega)
  rw [List.drop_eq_getElem_cons hi, List.drop_eq_getElem_cons hj, sameL]
  refine ⟨Ev.succ ?_, Ev.succ ?_⟩
  ·simp only [impl_SameTexts.l0, if_pos (show ((i : Int) < (x.length : Int)) by omega), if_pos (show (0 : Int) ≤ i by omega), if_pos (show ((i : Int) < (y.length : Int)) by omega), rd_nat x i hi, rd_nat y i hj, w64 (show -9223372036854775808 ≤ (i : Int) + 1 by omega) (by omega)]
   by_cases a : x[i] = 0
   ·simp only [if_pos a]; exact h1
   ·by_cases b : y[i] = 0
    ·simp only [if_neg a, if_pos b]; exact h1
    ·by_cases c : x[i] = y[i]
     ·simp only [if_neg a, if_neg b, if_pos c]; exact h1
     ·simp only [if_neg a, if_neg b, if_neg c, Bool.false_eq_true, if_false]; exact Ev.now _
  ·simp only [spec_l4Same.l0, if_pos (show ((i : Int) < (x.length : Int)) by omega), if_pos (show (0 : Int) ≤ i by omega), if_pos (show ((i : Int) < (y.length : Int)) by omega), rd_nat x i hi, rd_nat y i hj, w64 (show -9223372036854775808 ≤ (i : Int) + 1 by omega) (by omega)]
   by_cases a : x[i] = 0
   ·simp only [if_pos a]; exact h2
   ·by_cases b : y[i] = 0
    ·simp only [if_neg a, if_pos b]; exact h2
    ·by_cases c : x[i] = y[i]
     ·simp only [if_neg a, if_neg b, if_pos c]; exact h2
     ·simp only [if_neg a, if_neg b, if_neg c, Bool.false_eq_true, if_false]; exact Ev.now _
theorem bits_small {l : List Part} (h : opB l = true) : (bitsL l).length ≤ 100000 := by
 rw [bitsL_len]; have := (opB_of h).2.2.1; omega
theorem specSame_ev {a b : List Part} (ha : opB a = true) (hb : opB b = true) : Ev (fun k => spec_l4Same.f k a b) (sameV a b) := by
 unfold spec_l4Same.f sameV
 refine Ev.bind (dropped_ev ha).2 ?_
 refine Ev.bind (dropped_ev hb).2 ?_
 by_cases e : (bitsL a).length = (bitsL b).length
 ·simp only [if_pos e, if_pos (show ((bitsL a).length : Int) = ((bitsL b).length : Int) by omega)]
  have := (same_loop _ _ e (bits_small ha) (bitsL a).length 0 (by omega)).2
  simpa using this
 ·simp only [if_neg e, if_neg (show ¬ ((bitsL a).length : Int) = ((bitsL b).length : Int) by omega)]; exact Ev.now _
def sameW (a b : List Part) : Bool × Bool := if opB a = true ∧ opB b = true then sameV a b else (false, false)
theorem implSame_ev {a b : List Part} (ha : sizedP a = true) (hb : sizedP b = true) : Ev (fun k => impl_SameTexts.f k a b) (sameW a b) := by
 unfold impl_SameTexts.f sameW
 refine Ev.bind (implGoodOp_ev a ha) ?_
 cases qa : opB a with
 | false =>
  simp only [Bool.false_eq_true, if_false, false_and]
  refine Ev.succ ?_
  simp only [impl_SameTexts.j0, if_true]; exact Ev.now _
 | true =>
  simp only [if_true, true_and]
  refine Ev.bind (implGoodOp_ev b hb) ?_
  cases qb : opB b with
  | false =>
   simp only [Bool.false_eq_true, if_false, Bool.not_false]
   refine Ev.succ ?_
   simp only [impl_SameTexts.j0, if_true]; exact Ev.now _
  | true =>
   simp only [if_true, Bool.not_true]
   refine Ev.succ ?_
   simp only [impl_SameTexts.j0, Bool.false_eq_true, if_false]
   refine Ev.bind (dropped_ev qa).1 ?_
   refine Ev.bind (dropped_ev qb).1 ?_
   unfold sameV
   by_cases e : (bitsL a).length = (bitsL b).length
   ·simp only [if_pos e, if_pos (show ((bitsL a).length : Int) = ((bitsL b).length : Int) by omega)]
    have := (same_loop _ _ e (bits_small qa) (bitsL a).length 0 (by omega)).1
    simpa using this
   ·simp only [if_neg e, if_neg (show ¬ ((bitsL a).length : Int) = ((bitsL b).length : Int) by omega)]; exact Ev.now _
theorem sameW_true {a b : List Part} (h : sameW a b = (true, true)) : opB a = true ∧ opB b = true ∧ takesN a = takesN b ∧ sameV a b = (true, true) := by
 unfold sameW at h
 by_cases c : opB a = true ∧ opB b = true
 ·rw [if_pos c] at h
  refine ⟨c.1, c.2, ?_, h⟩
  unfold sameV at h
  by_cases e : (bitsL a).length = (bitsL b).length
  ·rw [← bitsL_len, ← bitsL_len]; exact e
  ·rw [if_neg e] at h; simp at h
 ·rw [if_neg c] at h; simp at h
def goodL (l : List Part) : List Part × Bool := if opB l = true then (l, true) else ([], false)
def trQ (p : Mk × Mk) : List Part × List Part × Bool := if opB (madeL p.1) = true ∧ opB (madeL p.2) = true then (madeL p.1, madeL p.2, true) else ([], [], false)
def trR (a b : List Part) : List Part × List Part × Bool := trQ (trU (unitsL (normL a)) (unitsL (normL b)) mk0 mk0)
def trV (a b : List Part) : List Part × List Part × Bool := if sameW a b = (true, true) then trR a b else ([], [], false)
def impl_TransformOps.f (l0 l1 : List Part) : Option (List Part × List Part × Bool) := if sizedP l0 = true ∧ sizedP l1 = true then some (trV l0 l1) else none
theorem trQ_cases {m o : Mk} {x1 x2 r1 r2 : List Part} {f1 f2 r3 : Bool} (h1 : goodL (madeL m) = (x1, f1)) (h2 : goodL (madeL o) = (x2, f2)) (h : trQ (m, o) = (r1, r2, r3)) :
  (f1 = true ∧ f2 = true ∧ r1 = x1 ∧ r2 = x2 ∧ r3 = true) ∨ ((f1 = false ∨ f2 = false) ∧ r1 = [] ∧ r2 = [] ∧ r3 = false) := by
 unfold goodL at h1 h2
 unfold trQ at h
 simp only at h
 cases q1 : opB (madeL m) <;> cases q2 : opB (madeL o) <;> simp only [q1, q2, if_true, Bool.false_eq_true, if_false, and_self, and_false, false_and, and_true, true_and, Prod.mk.injEq] at h1 h2 h
 ·exact .inr ⟨.inl h1.2.symm, h.1.symm, h.2.1.symm, h.2.2.symm⟩
 ·exact .inr ⟨.inl h1.2.symm, h.1.symm, h.2.1.symm, h.2.2.symm⟩
 ·exact .inr ⟨.inr h2.2.symm, h.1.symm, h.2.1.symm, h.2.2.symm⟩
 ·exact .inl ⟨h1.2.symm, h2.2.symm, by rw [← h.1, ← h1.1], by rw [← h.2.1, ← h2.1], h.2.2.symm⟩
theorem two_apart {wm wn wo : Nat} {v' v2 v0 v1 u : Value} (hmn : wm ≤ wn) (hno : wn ≤ wo) (hv : ∀ k, v'.ownBlock = some k → k < wm) (hu : ∀ k, v'.ownBlock = some k → u.ownBlock ≠ some k) (hul : ∀ k, u.ownBlock = some k → k < wm) (h2 : v2.ownBlock = u.ownBlock ∨ ∃ b, v2.ownBlock = some b ∧ wn ≤ b) :
  ∀ k, ((v'.ownBlock = some k ∨ wm ≤ k) ∧ k < wn) → (v2.ownBlock = some k ∨ wo ≤ k) → False := by
 rintro k ⟨h1, hk⟩ (e | e)
 ·rcases h2 with e2 | ⟨b, e2, hle⟩
  ·have e3 := e2.symm.trans e
   have := hul k e3
   rcases h1 with h1 | h1
   ·exact hu k h1 e3
   ·omega
  ·rw [e2] at e; injection e with e; omega
 ·rcases h1 with h1 | h1
  ·have := hv k h1; omega
  ·omega

set_option maxHeartbeats 16000000 in
set_option maxRecDepth 100000 in
theorem impl_TransformOps.calls (A0 : Option Addr) (c0 : Nat) (l0 : List Part) (A1 : Option Addr) (c1 : Nat) (l1 : List Part) (r1 : List Part) (r2 : List Part) (r3 : Bool) (w : World) (hr0 : Kd.C k86 w A0 l0.length l0) (hc0 : l0.length ≤ c0) (hr1 : Kd.C k86 w A1 l1.length l1) (hc1 : l1.length ≤ c1) (h : impl_TransformOps.f l0 l1 = some (r1, r2, r3)) :
  Calls Try.prog 76 #[.slice A0 l0.length c0, .slice A1 l1.length c1] w fun e w' => ∃ v0_ v1_ : Value, e = .returned (.tuple #[v0_, v1_, .bool r3]) ∧ Kd.R k86 86 w' w.heap.size (fun k_ => some k_ ≠ (v1_ : Value).ownBlock) v0_ r1 ∧ Kd.R k86 86 w' w.heap.size (fun k_ => some k_ ≠ (v0_ : Value).ownBlock) v1_ r2 ∧ Below w.heap.size w w' := by
 unfold impl_TransformOps.f at h
 by_cases hs : sizedP l0 = true ∧ sizedP l1 = true
 case neg => rw [if_neg hs] at h; exact absurd h (by simp)
 rw [if_pos hs] at h
 have h0 := Option.some.inj h
 obtain ⟨hs0, hs1⟩ := hs
 obtain ⟨ka, hka⟩ := Ev.rounds (implSame_ev hs0 hs1)
 obtain ⟨⟨b1, b2⟩, hbb⟩ : ∃ p, sameW l0 l1 = p := ⟨_, rfl⟩
 rw [hbb] at hka
 have HC0 := mz hr0
 have HC1 := mz hr1
 have HL0 := mz hc0
 have HL1 := mz hc1
 have HKA := mz hka
 clear hr0 hr1 hc0 hc1 hs0 hs1 h hka
 cases b2 with
 | false =>
  cases b1 with
  | false =>
   have hv : trV l0 l1 = ([], [], false) := by unfold trV; rw [if_neg (by rw [hbb]; simp)]
   rw [hv] at h0
   obtain ⟨rfl, h1⟩ := Prod.mk.inj h0
   obtain ⟨rfl, rfl⟩ := Prod.mk.inj h1
   clear h0 h1 hv hbb
   go_enter Try.func76, Try.ntmps76
   go_wp2_with fail
   refine (impl_SameTexts.calls ka A0 c0 l0 A1 c1 l1 false false _ HC0.out HL0.out HC1.out HL1.out HKA.out).mono ?_
   rintro e w1 ⟨rfl, hb⟩
   have HB1 := mz hb
   clear hb
   go_wp2_with fail
   go_ret3
   exact ⟨.slice none 0 0, .slice none 0 0, rfl, Kd.R_nil _ _ _ _ _, Kd.R_nil _ _ _ _ _, HB1.out⟩
  | true =>
   have hv : trV l0 l1 = ([], [], false) := by unfold trV; rw [if_neg (by rw [hbb]; simp)]
   rw [hv] at h0
   obtain ⟨rfl, h1⟩ := Prod.mk.inj h0
   obtain ⟨rfl, rfl⟩ := Prod.mk.inj h1
   clear h0 h1 hv hbb
   go_enter Try.func76, Try.ntmps76
   go_wp2_with fail
   refine (impl_SameTexts.calls ka A0 c0 l0 A1 c1 l1 true false _ HC0.out HL0.out HC1.out HL1.out HKA.out).mono ?_
   rintro e w1 ⟨rfl, hb⟩
   have HB1 := mz hb
   clear hb
   go_wp2_with fail
   go_ret3
   exact ⟨.slice none 0 0, .slice none 0 0, rfl, Kd.R_nil _ _ _ _ _, Kd.R_nil _ _ _ _ _, HB1.out⟩
 | true =>
  cases b1 with
  | false =>
   have hv : trV l0 l1 = ([], [], false) := by unfold trV; rw [if_neg (by rw [hbb]; simp)]
   rw [hv] at h0
   obtain ⟨rfl, h1⟩ := Prod.mk.inj h0
   obtain ⟨rfl, rfl⟩ := Prod.mk.inj h1
   clear h0 h1 hv hbb
   go_enter Try.func76, Try.ntmps76
   go_wp2_with fail
   refine (impl_SameTexts.calls ka A0 c0 l0 A1 c1 l1 false true _ HC0.out HL0.out HC1.out HL1.out HKA.out).mono ?_
   rintro e w1 ⟨rfl, hb⟩
   have HB1 := mz hb
   clear hb
   go_wp2_with fail
   go_ret3
   exact ⟨.slice none 0 0, .slice none 0 0, rfl, Kd.R_nil _ _ _ _ _, Kd.R_nil _ _ _ _ _, HB1.out⟩
  | true =>
   obtain ⟨pa, pb, he, _⟩ := sameW_true hbb
   have hv : trV l0 l1 = trR l0 l1 := by unfold trV; rw [if_pos hbb]
   rw [hv] at h0
   unfold trR at h0
   obtain ⟨n1, n2, n3, n4⟩ := norm_ok pa
   obtain ⟨o1, o2, o3, o4⟩ := norm_ok pb
   have f0 : impl_normal.f l0 = some (normL l0) := by unfold impl_normal.f; rw [if_pos (makeB_good pa).1]
   have f1 : impl_normal.f l1 = some (normL l1) := by unfold impl_normal.f; rw [if_pos (makeB_good pb).1]
   generalize normL l0 = nx at *
   generalize normL l1 = ny at *
   have hI0 : TrI (trU (unitsL nx) (unitsL ny) mk0 mk0) nx ny mk0 mk0 := ⟨rfl, n1, o1, by rw [n3, o3, he], by unfold leftN; omega, BndM.zero.mono (Nat.zero_le _), BndM.zero.mono (Nat.zero_le _)⟩
   have HI0 := mz hI0
   have H0 := mz h0
   have HF0 := mz f0
   have HF1 := mz f1
   clear hI0 hv h0 pa pb he hbb n1 n2 n3 n4 o1 o2 o3 o4 f0 f1
   go_enter Try.func76, Try.ntmps76
   go_wp2_with fail
   refine (impl_SameTexts.calls ka A0 c0 l0 A1 c1 l1 true true _ HC0.out HL0.out HC1.out HL1.out HKA.out).mono ?_
   rintro e w1 ⟨rfl, hb⟩
   have HB1 := mz hb
   clear hb
   go_wp2_with fail
   refine (impl_normal.calls A0 c0 l0 nx _ (Kd.C_below HC0.out HB1.out) HL0.out HF0.out).mono ?_
   rintro e w5 ⟨v5, rfl, hR5, hb⟩
   obtain ⟨A5, c5, rfl, hc5, hC5⟩ := Kd.R_reads hR5
   have HC5 := mz hC5
   have HL5 := mz hc5
   have HB5 := mz (below_step HB1.out hb)
   clear hb hR5 hC5 hc5
   go_wp2_with fail
   refine (impl_normal.calls A1 c1 l1 ny _ (Kd.C_below HC1.out HB5.out) HL1.out HF1.out).mono ?_
   rintro e w6 ⟨v6, rfl, hR6, hb⟩
   obtain ⟨A6, c6, rfl, hc6, hC6⟩ := Kd.R_reads hR6
   have HC5' := mz (Kd.C_below HC5.out hb)
   have HC6 := mz hC6
   have HL6 := mz hc6
   have HB6 := mz (below_step HB5.out hb)
   clear hb hR6 hC6 hc6 HC5
   go_upto_region 5 with (first | ((with_reducible refine gate_dst (N := 9) rfl ?_); refine bx 9 #[.slice none 0 0] 138 ?_; intro g10 hg w7 hbox hb; have HG10 := mz hg; have B67 := mz hb; have K10 := mz hbox; clear hg hb hbox) | ((with_reducible refine gate_dst (N := 10) rfl ?_); go_loud (refine bx 10 #[.slice none 0 0] 138 ?_; intro g11 hg w8 hbox hb; have HG11 := mz hg; have B78 := mz hb; have K11 := mz hbox; have K10' := mz (blk_below K10.out hb); have x11 : w8.cell? ⟨g11, 0, none⟩ = some (.slice none 0 0) := (blk_cell hbox 0).trans rfl; have x10 : w8.cell? ⟨g10, 0, none⟩ = some (.slice none 0 0) := (blk_cell K10'.out 0).trans rfl; have z11 := blk_frozen hbox 0; have z10 := blk_frozen K10'.out 0; have hne1 : g10 ≠ g11 := fun e => absurd (blk_lt K10.out) (by rw [e, hg]; exact Nat.lt_irrefl _); have hne2' : g11 ≠ g10 := Ne.symm hne1; clear hg hb hbox)))
   have r1a := (⟨K10'.out, C_none _ _, Nat.zero_le _⟩ : IsRd 138 w8 g10 none 0 []).set_ (Kd.C_below HC5'.out (below_step B67.out B78.out)) HL5.out (fun hl a e => by obtain ⟨b, e2, hlt⟩ := C_addr HC5'.out hl; rw [e] at e2; injection e2 with e2; subst e2; have := HG10.out; omega)
   have r2a : IsRd 138 (w8.setCell ⟨g10, 0, none⟩ (.slice A5 nx.length c5)) g11 none 0 [] := ⟨blk_far (p := ⟨g10, 0, none⟩) K11.out hne2' _, C_none _ _, Nat.zero_le _⟩
   have b68 : Below w6.heap.size w6 (w8.setCell ⟨g10, 0, none⟩ (.slice A5 nx.length c5)) := below_set (j := 0) (below_step B67.out B78.out) (Nat.le_of_eq HG10.out.symm)
   have h611 : w6.heap.size ≤ g11 := by have h1 := HG11.out; have h2 := B67.out.size; omega
   have r1b := r1a.by_rd r2a hne1 (Kept.setCell (S := fun k => k = g11) (p := ⟨g11, 0, none⟩) (Kept.refl _ _) (.inl rfl) (.slice A6 ny.length c6))
   have r2b := r2a.set_ (Kd.C_below HC6.out b68) HL6.out (fun hl a e => by obtain ⟨b, e2, hlt⟩ := C_addr HC6.out hl; rw [e] at e2; injection e2 with e2; subst e2; omega)
   have b69 : Below w6.heap.size w6 ((w8.setCell ⟨g10, 0, none⟩ (.slice A5 nx.length c5)).setCell ⟨g11, 0, none⟩ (.slice A6 ny.length c6)) := below_set (j := 0) b68 h611
   have R1 := mz r1b
   have R2 := mz r2b
   have HB9_ := mz (below_step HB6.out b69)
   have HG2 : Aside0 (w.heap.size ≤ g10 ∧ w.heap.size ≤ g11) := ⟨by have := HB6.out.size; have := HG10.out; omega⟩
   have HNE := mz hne1
   clear r1a r2a b68 b69 r1b r2b h611 x10 x11 z10 z11 hne1 hne2' K10 K10' K11 B67 B78 HC5' HC6 HL5 HL6 HG10 HG11 HB6 HB5 HB1 HKA HF0 HF1 HC0 HC1 HL0 HL1
   generalize (w8.setCell ⟨g10, 0, none⟩ (.slice A5 nx.length c5)).setCell ⟨g11, 0, none⟩ (.slice A6 ny.length c6) = w9 at R1 R2 HB9_ ⊢
   go_wp2_with (first | ((with_reducible refine gate_dst (N := 11) rfl ?_); refine bx 11 #[.slice none 0 0, .string ⟨#[]⟩, .string ⟨#[]⟩] 132 ?_; intro g12 hg w10 hbox hb; have HM := mz (mk_new w.heap.size HB9_.out.size hg hbox); have R1' := mz (R1.out.below hb); have R2' := mz (R2.out.below hb); have HB10 := mz (below_step HB9_.out hb); clear hg hbox hb) | ((with_reducible refine gate_dst (N := 12) rfl ?_); refine bx 12 #[.slice none 0 0, .string ⟨#[]⟩, .string ⟨#[]⟩] 132 ?_; intro g15 hg w11 hbox hb; have ST := mz (St4.mk (St3.mk (R1'.out.below hb) (R2'.out.below hb) (HM.out.below hb) (fun _ _ _ e => by cases e) (fun _ _ _ e => by cases e) HNE.out HG2.out) (St3.mk (R1'.out.below hb) (R2'.out.below hb) (mk_new w.heap.size HB10.out.size hg hbox) (fun _ _ _ e => by cases e) (fun _ _ _ e => by cases e) HNE.out HG2.out) ⟨fun e => absurd (blk_lt HM.out.blk) (by rw [e, hg]; exact Nat.lt_irrefl _), fun _ e => by cases e⟩); have HB11 := mz (below_step HB10.out hb); clear hg hbox hb))
   simp only [Act.put, List.setIfInBounds_toArray, List.set_cons_zero, List.set_cons_succ]
   clear R1 R2 R1' R2' HM HB9_ HB10 HNE HG2
   go_loopg [13, 14, 15] (leftN nx ny) (fun gg _ _ _ wr => ∃ (xs ys : List Part) (m : Mk) (v : Value) (o : Mk) (u : Value) (Ax : Option Addr) (cx : Nat) (Ay : Option Addr) (cy : Nat), leftN xs ys ≤ gg ∧ Aside0 (TrI (trU (unitsL nx) (unitsL ny) mk0 mk0) xs ys m o) ∧ Aside0 (St4 138 w.heap.size wr g10 g11 g12 g15 Ax cx xs Ay cy ys v m u o) ∧ Aside0 (Below w.heap.size w wr))
   case atStart => exact ⟨nx, ny, mk0, _, mk0, _, A5, c5, A6, c6, Nat.le_refl _, ⟨HI0.out⟩, ⟨ST.out⟩, ⟨HB11.out⟩⟩
   case round =>
    obtain ⟨xs, ys, m, v, o, u, Ax, cx, Ay, cy, hg, HI, HS, HB⟩ := hrel
    clear HI0 ST HB11
    have HG12 : Aside0 (g10 < wr.heap.size ∧ g11 < wr.heap.size ∧ g12 < wr.heap.size ∧ g15 < wr.heap.size) := ⟨⟨blk_lt HS.out.a.r1.blk, blk_lt HS.out.a.r2.blk, blk_lt HS.out.a.mkr.blk, blk_lt HS.out.b.mkr.blk⟩⟩
    have HB900 : Aside0 (400 * (1300 - leftN xs ys) ≤ 900000) := ⟨by omega⟩
    have x10 : wr.cell? ⟨g10, 0, none⟩ = some (.slice Ax xs.length cx) := rd_cell HS.out.a.r1
    have x11 : wr.cell? ⟨g11, 0, none⟩ = some (.slice Ay ys.length cy) := rd_cell HS.out.a.r2
    rcases xs with _ | ⟨p, xs⟩
    ·rcases ys with _ | ⟨q, ys⟩
     ·simp only [List.length_nil] at x10 x11
      obtain ⟨⟨x1, f1⟩, hx1⟩ : ∃ p, goodL (madeL m) = p := ⟨_, rfl⟩
      obtain ⟨kg1, hkg1⟩ := Ev.rounds (implgoodOp_ev (madeL m) (made_sized HI.out.bm (by have := HB900.out; omega)))
      have hkg1' : impl_goodOp.f kg1 (madeL m) = some (x1, f1) := hkg1.trans (congrArg some hx1)
      have HKG1 := mz hkg1'
      have HX1 := mz hx1
      clear hkg1 hkg1' hx1
      obtain ⟨⟨x2, f2⟩, hx2⟩ : ∃ p, goodL (madeL o) = p := ⟨_, rfl⟩
      obtain ⟨kg2, hkg2⟩ := Ev.rounds (implgoodOp_ev (madeL o) (made_sized HI.out.bo (by have := HB900.out; omega)))
      have hkg2' : impl_goodOp.f kg2 (madeL o) = some (x2, f2) := hkg2.trans (congrArg some hx2)
      have HKG2 := mz hkg2'
      have HX2 := mz hx2
      clear hkg2 hkg2' hx2
      have HQ : Aside0 (trQ (m, o) = (r1, r2, r3)) := ⟨by rw [← HI.out.done]; exact H0.out⟩
      go_wp2_with fail
      refine (mk_made_b w.heap.size g12 v m wr HS.out.a.mkr _ HI.out.bm HB900.out).mono ?_
      rintro e wm ⟨v', rfl, hM, hs⟩
      have HO := mz (HS.out.b.mkr.by_mk HS.out.a.mkr HS.out.two.swap hs)
      have HT := mz ((HS.out.two.swap.step HS.out.b.mkr hs).swap)
      have HV := mz (fun k hk => own_lt hM.row k hk)
      have HA := mz (own_ne hM.row HO.out.blk (by decide))
      have HR := mz (R_own hM.row)
      have HBm := mz (HB.out.trans hs.below)
      clear hM hs x10 x11
      go_wp2_with fail
      refine (impl_goodOp.calls kg1 (fun k => v'.ownBlock = some k) v' (madeL m) x1 f1 w wm HBm.out HR.out HKG1.out).mono ?_
      rintro e wn ⟨v0, rfl, hR2, hb, hk⟩
      have HR2 := mz (Kd.R_mono (Kd.R_bound hR2) (fun k hk => (⟨hk.1, hk.2.2.1⟩ : (v'.ownBlock = some k ∨ wm.heap.size ≤ k) ∧ k < wn.heap.size)))
      have HBn := mz hb
      have HSZ := mz hk.1
      have HO2 : Aside0 (IsMk w.heap.size wn g15 u o) := ⟨⟨(hk.2 g15 (blk_lt HO.out.blk) (fun e => HA.out e.symm)).trans HO.out.blk, HO.out.ge, own_move HO.out.row (fun k hk2 => hk.2 k (own_lt HO.out.row k hk2) (fun e => HT.out.row k e hk2))⟩⟩
      clear hR2 hb hk
      go_wp2_with fail
      refine (mk_made_b w.heap.size g15 u o wn HO2.out _ HI.out.bo HB900.out).mono ?_
      rintro e wo ⟨u', rfl, hM, hs⟩
      have HAP : Aside0 (∀ k, ((v'.ownBlock = some k ∨ wm.heap.size ≤ k) ∧ k < wn.heap.size) → (u'.ownBlock = some k ∨ wo.heap.size ≤ k) → False) := ⟨two_apart (v0 := v0) (v1 := v0) HSZ.out hs.below.size HV.out (fun k e => HT.out.row k e) (fun k e => own_lt HO.out.row k e) hs.own⟩
      have HR3 := mz (Kd.R_step HR2.out (fun k hk hlt => hs.kept.2 k hlt (by rintro (e | e); (· have h1 := blk_lt HO.out.blk; rcases hk.1 with h2 | h2; (· rw [e] at h2; exact HA.out h2.symm); (· omega)); (· have h1 := own_lt HO.out.row k e.symm; rcases hk.1 with h2 | h2; (· exact HT.out.row k h2 e.symm); (· omega)))))
      have HRo := mz (R_own hM.row)
      have HBo := mz (HBn.out.trans hs.below)
      clear hM hs HR2 HO2
      go_wp2_with fail
      refine (impl_goodOp.calls kg2 (fun k => u'.ownBlock = some k) u' (madeL o) x2 f2 w wo HBo.out HRo.out HKG2.out).mono ?_
      rintro e wp ⟨v1, rfl, hR4, hb, hk⟩
      have HR5 := mz (Kd.R_step HR3.out (fun k hk2 hlt => hk.2 k hlt (fun e => HAP.out k hk2 (.inl e))))
      have HR4 := mz hR4
      have HBp := mz hb
      clear hR4 hb hk HR3 HRo HBo HBn HBm
      have hcs := trQ_cases HX1.out HX2.out HQ.out
      rcases hcs with ⟨rfl, rfl, rfl, rfl, rfl⟩ | ⟨hff, rfl, rfl, rfl⟩
      ·go_wp2_with fail
       go_ret3
       exact ⟨v0, v1, rfl, Kd.R_mono HR5.out (fun k hk e => HAP.out k hk (HR4.out.1 k e.symm)), Kd.R_mono HR4.out (fun k hk e => HAP.out k (HR5.out.1 k e.symm) hk), HBp.out⟩
      ·cases f1 with
       | false =>
        go_wp2_with fail
        go_ret3
        exact ⟨.slice none 0 0, .slice none 0 0, rfl, Kd.R_nil _ _ _ _ _, Kd.R_nil _ _ _ _ _, HBp.out⟩
       | true =>
        obtain rfl : f2 = false := by rcases hff with e | e; (· cases e); (· exact e)
        go_wp2_with fail
        go_ret3
        exact ⟨.slice none 0 0, .slice none 0 0, rfl, Kd.R_nil _ _ _ _ _, Kd.R_nil _ _ _ _ _, HBp.out⟩
     ·have hq := HI.out.noX
      have l_qf1 : ¬ (q.f1.toList = []) := fun e => hq ((toList_nil _).1 e)
      have e_qf1 : q.f1.toList.isEmpty = false := by cases hh : q.f1.toList with | nil => exact absurd hh l_qf1 | cons _ _ => rfl
      obtain ⟨hI1, hlt⟩ := HI.out.putR hq (fun p l e => by cases e)
      have HI1 := mz hI1
      have HOK := mz (HI.out.fy q List.mem_cons_self)
      clear hI1 hq
      simp only [List.length_cons] at x11
      simp only [List.length_nil] at x10
      go_wp2_with fail
      refine (rd_head g10 Ax cx ([] : List Part) wr HS.out.a.r1).mono ?_
      rintro e wh ⟨rfl, hb⟩
      dsimp only [partV, headL]
      have Bh := mz hb
      clear hb x10 x11
      go_wp2_with fail
      refine (rd_head g11 Ay cy (q :: ys) wh (HS.out.a.r2.below Bh.out)).mono ?_
      rintro e wi ⟨rfl, hb⟩
      dsimp only [partV, headL]
      have Bi := mz (below_step Bh.out hb)
      clear hb Bh
      go_upto_region 8 with (first | ((with_reducible refine gate_dst (N := 13) rfl ?_); refine bx 13 #[.int .i64 0, .string ⟨#[]⟩, .string ⟨#[]⟩] 86 ?_; intro g13 hg13 wb hbox hb; have HG13 := mz hg13; have Bb := mz hb; have K13 := mz hbox; clear hg13 hb hbox) | ((with_reducible refine gate_dst (N := 14) rfl ?_); refine bx 14 #[.int .i64 0, .string ⟨#[]⟩, .string ⟨#[]⟩] 86 ?_; intro g14 hg14 wc hbox hb; have HG14 := mz hg14; have Bc := mz hb; have K14 := mz hbox; have K13' := mz (blk_below K13.out hb); have hn34 : g13 ≠ g14 := fun e => absurd (blk_lt K13.out) (by rw [e, hg14]; exact Nat.lt_irrefl _); have hn43 : g14 ≠ g13 := Ne.symm hn34; obtain ⟨y0, y1, y2⟩ := cells3 K13'.out; obtain ⟨z0, z1, z2⟩ := froz3 K13'.out; obtain ⟨y3, y4, y5⟩ := cells3 K14.out; obtain ⟨z3, z4, z5⟩ := froz3 K14.out; clear hg14 hb hbox))
      have bf := two_boxes Bb.out Bc.out HG13.out HG14.out K13'.out K14.out hn34 (0) (q.f0) (⟨#[]⟩) (⟨#[]⟩) (q.f1) (q.f2)
      have M13 := mz bf.1
      have M14 := mz bf.2.1
      have Bd := mz bf.2.2
      have HGE : Aside0 (wr.heap.size ≤ g13 ∧ wr.heap.size ≤ g14) := ⟨by have h1 := HG13.out; have h2 := HG14.out; have h3 := Bb.out.size; have h4 := Bi.out.size; omega⟩
      have HN34 := mz hn34
      clear y0 y1 y2 y3 y4 y5 z0 z1 z2 z3 z4 z5 bf hn34 hn43 K13 K13' K14 Bb Bc HG13 HG14
      generalize (((((((wc.setCell ⟨g13, 0, none⟩ (.int .i64 (0))).setCell ⟨g13, 1, none⟩ (.string (⟨#[]⟩))).setCell ⟨g13, 2, none⟩ (.string (⟨#[]⟩))).setCell ⟨g14, 0, none⟩ (.int .i64 (q.f0))).setCell ⟨g14, 1, none⟩ (.string (q.f1))).setCell ⟨g14, 2, none⟩ (.string (q.f2))) : World) = wd at M13 M14 Bd ⊢
      have HSd := mz (HS.out.below (below_step Bi.out Bd.out))
      have HBd := mz (HB.out.trans ((below_step Bi.out Bd.out).mono HB.out.size))
      obtain ⟨y0, y1, y2⟩ := cells3 M13.out
      obtain ⟨y3, y4, y5⟩ := cells3 M14.out
      go_wp2_with fail
      clear y0 y1 y2 y3 y4 y5
      refine (rd_next w.heap.size g11 Ay cy q ys wd HSd.out.a.r2 HSd.out.a.le.2).mono ?_
      rintro e we ⟨rfl, hP⟩
      dsimp only [partV]
      obtain ⟨hb, hk, A', c', _, hst⟩ := HSd.out.rd2 (by decide) (by decide) (by simp) hP
      have HSe := mz hst
      have HBe := mz (HBd.out.trans hb)
      have M14e := mz ((hk.2 g14 (blk_lt M14.out) (fun e => by have h1 := HGE.out; have h2 := HG12.out; omega)).trans M14.out)
      clear hb hk hst hP
      go_wp2_with fail
      refine (mk_take_b w.heap.size g15 u o we HSe.out.b.mkr q _ HI.out.bo HB900.out (HOK.out.2.mono (by omega))).mono ?_
      rintro e wf ⟨rfl, hP⟩
      obtain ⟨hb, hk, u', hst⟩ := HSe.out.take2 (by decide) (by decide) hP
      have HSf := mz hst
      have HBf := mz (HBe.out.trans hb)
      have M14f := mz (blk_mk M14e.out hk HS.out.b.mkr HGE.out.2)
      clear hb hk hst hP
      obtain ⟨y3, y4, y5⟩ := cells3 M14f.out
      go_wp2_with fail
      clear y3 y4 y5
      refine (mk_keep_b w.heap.size g12 v m wf HSf.out.a.mkr (q.f1.size : Int) _ HI.out.bm HB900.out (by omega) (by have := put_le HOK.out; omega)).mono ?_
      rintro e wg ⟨rfl, hP⟩
      obtain ⟨hb, hk, v', hst⟩ := HSf.out.take1 (by decide) (by decide) hP
      have HSg := mz hst
      have HBg := mz (HBf.out.trans hb)
      clear hb hk hst hP
      go_wp2_with fail
      go_roundg (leftN [] ys)
      case measure => omega
      case rel => exact ⟨[], ys, (keepM q.f1.size m), v', (takeM o q), u', Ax, cx, A', c', Nat.le_refl _, ⟨HI1.out⟩, ⟨HSg.out⟩, ⟨HBg.out⟩⟩
    ·by_cases hd : p.f1.size = 0
     ·rcases ys with _ | ⟨q, ys⟩
      ·exact absurd hd HI.out.noY
      ·by_cases hq : q.f1.size = 0
       ·have l_pf1 : p.f1.toList = [] := (toList_nil _).2 hd
        have e_pf1 : p.f1.toList.isEmpty = true := by rw [l_pf1]; rfl
        have l_qf1 : q.f1.toList = [] := (toList_nil _).2 hq
        have e_qf1 : q.f1.toList.isEmpty = true := by rw [l_qf1]; rfl
        obtain ⟨n, hn⟩ : ∃ n, n = min (sizeP p) (sizeP q) := ⟨_, rfl⟩
        obtain ⟨b0, b1, b2, b3, o1, o2, i1⟩ := HI.out.both hd hq n hn
        have hp1 := HI.out.fx p List.mem_cons_self
        have hq1 := HI.out.fy q List.mem_cons_self
        have SP := mz (size_val p hp1)
        have SQ := mz (size_val q hq1)
        have HN := mz hn
        have HP1 := mz hp1
        have HQ1 := mz hq1
        have N0 := mz b0
        have N1 := mz b1
        have N2 := mz b2
        have O1 := mz o1
        have O2 := mz o2
        have I1 := mz i1
        have HLX : Aside0 (xs.length ≤ 100000 ∧ ys.length ≤ 100000) := ⟨by have h1 := len_le_units (p :: xs) HI.out.fx; have h2 := len_le_units (q :: ys) HI.out.fy; have h3 := HI.out.tot; unfold leftN at h3; simp only [List.length_cons] at h1 h2; omega⟩
        clear hd hq hn hp1 hq1 b0 b1 b2 o1 o2 i1
        simp only [List.length_cons] at x10 x11
        go_wp2_with fail
        refine (rd_head g10 Ax cx ((p :: xs)) wr HS.out.a.r1).mono ?_
        rintro e wh ⟨rfl, hb⟩
        dsimp only [partV, headL]
        have Bh := mz hb
        clear hb x10 x11
        go_wp2_with fail
        refine (rd_head g11 Ay cy (q :: ys) wh (HS.out.a.r2.below Bh.out)).mono ?_
        rintro e wi ⟨rfl, hb⟩
        dsimp only [partV, headL]
        have Bi := mz (below_step Bh.out hb)
        clear hb Bh
        go_upto_region 8 with (first | ((with_reducible refine gate_dst (N := 13) rfl ?_); refine bx 13 #[.int .i64 0, .string ⟨#[]⟩, .string ⟨#[]⟩] 86 ?_; intro g13 hg13 wb hbox hb; have HG13 := mz hg13; have Bb := mz hb; have K13 := mz hbox; clear hg13 hb hbox) | ((with_reducible refine gate_dst (N := 14) rfl ?_); refine bx 14 #[.int .i64 0, .string ⟨#[]⟩, .string ⟨#[]⟩] 86 ?_; intro g14 hg14 wc hbox hb; have HG14 := mz hg14; have Bc := mz hb; have K14 := mz hbox; have K13' := mz (blk_below K13.out hb); have hn34 : g13 ≠ g14 := fun e => absurd (blk_lt K13.out) (by rw [e, hg14]; exact Nat.lt_irrefl _); have hn43 : g14 ≠ g13 := Ne.symm hn34; obtain ⟨y0, y1, y2⟩ := cells3 K13'.out; obtain ⟨z0, z1, z2⟩ := froz3 K13'.out; obtain ⟨y3, y4, y5⟩ := cells3 K14.out; obtain ⟨z3, z4, z5⟩ := froz3 K14.out; clear hg14 hb hbox))
        have bf := two_boxes Bb.out Bc.out HG13.out HG14.out K13'.out K14.out hn34 (p.f0) (q.f0) (p.f1) (p.f2) (q.f1) (q.f2)
        have M13 := mz bf.1
        have M14 := mz bf.2.1
        have Bd := mz bf.2.2
        have HGE : Aside0 (wr.heap.size ≤ g13 ∧ wr.heap.size ≤ g14) := ⟨by have h1 := HG13.out; have h2 := HG14.out; have h3 := Bb.out.size; have h4 := Bi.out.size; omega⟩
        have HN34 := mz hn34
        clear y0 y1 y2 y3 y4 y5 z0 z1 z2 z3 z4 z5 bf hn34 hn43 K13 K13' K14 Bb Bc HG13 HG14
        generalize (((((((wc.setCell ⟨g13, 0, none⟩ (.int .i64 (p.f0))).setCell ⟨g13, 1, none⟩ (.string (p.f1))).setCell ⟨g13, 2, none⟩ (.string (p.f2))).setCell ⟨g14, 0, none⟩ (.int .i64 (q.f0))).setCell ⟨g14, 1, none⟩ (.string (q.f1))).setCell ⟨g14, 2, none⟩ (.string (q.f2))) : World) = wd at M13 M14 Bd ⊢
        have HSd := mz (HS.out.below (below_step Bi.out Bd.out))
        have HBd := mz (HB.out.trans ((below_step Bi.out Bd.out).mono HB.out.size))
        obtain ⟨y0, y1, y2⟩ := cells3 M13.out
        obtain ⟨y3, y4, y5⟩ := cells3 M14.out
        go_upto_region 14 with fail
        clear y0 y1 y2 y3 y4 y5
        have F : ∀ W' : World, (W'.heap[g13]? = some (.cells #[.int .i64 p.f0, .string p.f1, .string p.f2] 86 (0, 0)) ∧ W'.heap[g14]? = some (.cells #[.int .i64 q.f0, .string q.f1, .string q.f2] 86 (0, 0)) ∧ St4 138 w.heap.size W' g10 g11 g12 g15 Ax cx (p :: xs) Ay cy (q :: ys) v m u o ∧ Below w.heap.size w W' ∧ wd.heap.size ≤ W'.heap.size) → (W'.cell? ⟨g13, 0, none⟩ = some (.int .i64 p.f0) ∧ W'.cell? ⟨g13, 1, none⟩ = some (.string p.f1) ∧ W'.cell? ⟨g13, 2, none⟩ = some (.string p.f2)) ∧ (W'.cell? ⟨g14, 0, none⟩ = some (.int .i64 q.f0) ∧ W'.cell? ⟨g14, 1, none⟩ = some (.string q.f1) ∧ W'.cell? ⟨g14, 2, none⟩ = some (.string q.f2)) := fun W' hb => ⟨cells3 hb.1, cells3 hb.2.1⟩
        refine wp_region_held_drew (S := fun W' => W'.heap[g13]? = some (.cells #[.int .i64 p.f0, .string p.f1, .string p.f2] 86 (0, 0)) ∧ W'.heap[g14]? = some (.cells #[.int .i64 q.f0, .string q.f1, .string q.f2] 86 (0, 0)) ∧ St4 138 w.heap.size W' g10 g11 g12 g15 Ax cx (p :: xs) Ay cy (q :: ys) v m u o ∧ Below w.heap.size w W' ∧ wd.heap.size ≤ W'.heap.size) (by kernel_rfl) ⟨M13.out, M14.out, HSd.out.below (below_drew (Below.refl _ _)), below_drew HBd.out, Nat.le_refl _⟩ (fun hH => ?_)
        refine' tF 0 F ?_
        refine' tF 2 F ?_
        refine tC 1 (impl_Part_size.calls p.f0 p.f1 p.f2 (sizeP p : Int) _ SP.out) ?_
        rintro e ws1 ⟨rfl, hb⟩
        refine ⟨_, rfl, ⟨blk_below hH.1 hb, blk_below hH.2.1 hb, hH.2.2.1.below hb, below_step hH.2.2.2.1 hb, Nat.le_trans hH.2.2.2.2 hb.size⟩, ?_⟩
        intro a' ha'
        (try simp only [Act.put, List.getElem_toArray, List.getElem_cons_succ, List.getElem_cons_zero, List.setIfInBounds_toArray, List.set_cons_zero, List.set_cons_succ] at ha')
        subst ha'
        intro hH1
        refine tC 3 (impl_Part_size.calls q.f0 q.f1 q.f2 (sizeP q : Int) _ SQ.out) ?_
        rintro e ws3 ⟨rfl, hb⟩
        refine ⟨_, rfl, ⟨blk_below hH1.1 hb, blk_below hH1.2.1 hb, hH1.2.2.1.below hb, below_step hH1.2.2.2.1 hb, Nat.le_trans hH1.2.2.2.2 hb.size⟩, ?_⟩
        intro a' ha'
        (try simp only [Act.put, List.getElem_toArray, List.getElem_cons_succ, List.getElem_cons_zero, List.setIfInBounds_toArray, List.set_cons_zero, List.set_cons_succ] at ha')
        subst ha'
        intro hH3
        refine' tF 4 (v := .int .i64 (n : Int)) F ?_ (hy := by (intro W' hSw; (try dsimp only at hSw); go_simp; rw [HN.out]; split <;> omega))
        refine' tF 5 F ?_
        refine wpAnyH_done (by kernel_rfl) ?_ _
        have M13' := mz hH3.1
        have M14' := mz hH3.2.1
        have HSe := mz hH3.2.2.1
        have HBe := mz hH3.2.2.2.1
        have HLE : Aside0 (wd.heap.size ≤ ws3.heap.size) := ⟨hH3.2.2.2.2⟩
        clear F hH hH1 hH3
        go_wp2_with fail
        refine (rd_cut_walk w.heap.size g10 Ax cx p xs ws3 HSe.out.a.r1 HSe.out.a.le.1 n N1.out HP1.out.1.1 HLX.out.1 (by have := HP1.out.le; omega)).mono ?_
        rintro e wt ⟨rfl, hP⟩
        dsimp only [partV]
        obtain ⟨hb, hk, A1', c1', how, hst⟩ := HSe.out.rd1 (by decide) (by decide) (by simp) hP
        have OW1 := mz how
        have HSf := mz hst
        have HBf := mz (HBe.out.trans hb)
        have M13'x := mz ((hk.2 g13 (blk_lt M13'.out) (fun e => by have h1 := HGE.out; have h2 := HG12.out; omega)).trans M13'.out)
        have M14'x := mz ((hk.2 g14 (blk_lt M14'.out) (fun e => by have h1 := HGE.out; have h2 := HG12.out; omega)).trans M14'.out)
        have WSZ := mz hb.size
        clear hP hb hk hst how
        go_wp2_with fail
        refine (rd_cut_walk w.heap.size g11 Ay cy q ys wt HSf.out.a.r2 HSf.out.a.le.2 n N2.out HQ1.out.1.1 HLX.out.2 (by have := HQ1.out.le; omega)).mono ?_
        rintro e wu ⟨rfl, hP⟩
        dsimp only [partV]
        obtain ⟨hb, hk, A2', c2', how, hst⟩ := HSf.out.rd2 (by decide) (by decide) (by simp) hP
        have OW2 := mz how
        have HSg := mz hst
        have HBg := mz (HBf.out.trans hb)
        have M13'xx := mz ((hk.2 g13 (blk_lt M13'x.out) (fun e => by have h1 := HGE.out; have h2 := HG12.out; omega)).trans M13'x.out)
        have M14'xx := mz ((hk.2 g14 (blk_lt M14'x.out) (fun e => by have h1 := HGE.out; have h2 := HG12.out; omega)).trans M14'x.out)
        clear hP hb hk hst how
        have K1 : Aside0 (0 < (firstP p n).f0 ↔ 0 < p.f0) := ⟨first_pos N0.out HP1.out.1.1⟩
        have K2 : Aside0 (0 < (firstP q n).f0 ↔ 0 < q.f0) := ⟨first_pos N0.out HQ1.out.1.1⟩
        generalize firstP p n = p1 at *
        generalize firstP q n = q1 at *
        obtain ⟨y0, y1, y2⟩ := cells3 M13'xx.out
        obtain ⟨y3, y4, y5⟩ := cells3 M14'xx.out
        obtain ⟨z0, z1, z2⟩ := froz3 M13'xx.out
        obtain ⟨z3, z4, z5⟩ := froz3 M14'xx.out
        have hn34 := HN34.out
        have hn43 := Ne.symm hn34
        go_upto_region 16 with fail
        have M13 := mz (farP (fillP M13'xx.out rfl p1.f0 p1.f1 p1.f2) hn34 (.int .i64 q1.f0) (.string q1.f1) (.string q1.f2))
        have M14 := mz (fillP (farP M14'xx.out hn43 (.int .i64 p1.f0) (.string p1.f1) (.string p1.f2)) rfl q1.f0 q1.f1 q1.f2)
        have b2 : Below wr.heap.size wu ((((((wu.setCell ⟨g13, 0, none⟩ (.int .i64 p1.f0)).setCell ⟨g13, 1, none⟩ (.string p1.f1)).setCell ⟨g13, 2, none⟩ (.string p1.f2)).setCell ⟨g14, 0, none⟩ (.int .i64 q1.f0)).setCell ⟨g14, 1, none⟩ (.string q1.f1)).setCell ⟨g14, 2, none⟩ (.string q1.f2)) := belowP (belowP (Below.refl _ _) HGE.out.1 _ _ _) HGE.out.2 _ _ _
        have hk2 : Kept wu ((((((wu.setCell ⟨g13, 0, none⟩ (.int .i64 p1.f0)).setCell ⟨g13, 1, none⟩ (.string p1.f1)).setCell ⟨g13, 2, none⟩ (.string p1.f2)).setCell ⟨g14, 0, none⟩ (.int .i64 q1.f0)).setCell ⟨g14, 1, none⟩ (.string q1.f1)).setCell ⟨g14, 2, none⟩ (.string q1.f2)) (fun k => k = g13 ∨ k = g14) := ((((((Kept.refl wu (fun k => k = g13 ∨ k = g14)).setCell (p := ⟨g13, 0, none⟩) (.inl (.inl rfl)) (.int .i64 p1.f0)).setCell (p := ⟨g13, 1, none⟩) (.inl (.inl rfl)) (.string p1.f1)).setCell (p := ⟨g13, 2, none⟩) (.inl (.inl rfl)) (.string p1.f2)).setCell (p := ⟨g14, 0, none⟩) (.inl (.inr rfl)) (.int .i64 q1.f0)).setCell (p := ⟨g14, 1, none⟩) (.inl (.inr rfl)) (.string q1.f1)).setCell (p := ⟨g14, 2, none⟩) (.inl (.inr rfl)) (.string q1.f2)
        have HSZ : Aside0 (ws3.heap.size ≤ wt.heap.size) := ⟨WSZ.out⟩
        have hlt13 : g13 < ws3.heap.size ∧ g14 < ws3.heap.size := ⟨blk_lt M13'.out, blk_lt M14'.out⟩
        have HSh := mz (HSg.out.kept hk2 (by have h1 := HGE.out; have h2 := HG12.out; omega) (fun _ a ha => by have h1 := HGE.out; rcases OW1.out a ha with ⟨b, hb, e⟩ | hle; (· obtain ⟨b', hb', hlt⟩ := C_addr HS.out.a.r1.row (by simp); rw [hb] at hb'; injection hb' with hb'; subst hb'; rw [e]; omega); (· omega)) (fun _ a ha => by have h1 := HGE.out; have h5 := HSZ.out; rcases OW2.out a ha with ⟨b, hb, e⟩ | hle; (· obtain ⟨b', hb', hlt⟩ := C_addr HS.out.a.r2.row (by simp); rw [hb] at hb'; injection hb' with hb'; subst hb'; rw [e]; omega); (· omega)) (fun k hk => by have h1 := HGE.out; have h2 := own_lt HS.out.a.mkr.row k hk; omega) (fun k hk => by have h1 := HGE.out; have h2 := own_lt HS.out.b.mkr.row k hk; omega))
        have HBh : Aside0 (Below w.heap.size w ((((((wu.setCell ⟨g13, 0, none⟩ (.int .i64 p1.f0)).setCell ⟨g13, 1, none⟩ (.string p1.f1)).setCell ⟨g13, 2, none⟩ (.string p1.f2)).setCell ⟨g14, 0, none⟩ (.int .i64 q1.f0)).setCell ⟨g14, 1, none⟩ (.string q1.f1)).setCell ⟨g14, 2, none⟩ (.string q1.f2))) := ⟨belowP (belowP HBg.out (by have h1 := HGE.out; have h2 := HB.out.size; omega) _ _ _) (by have h1 := HGE.out; have h2 := HB.out.size; omega) _ _ _⟩
        clear y0 y1 y2 y3 y4 y5 z0 z1 z2 z3 z4 z5 hn34 hn43 b2 hk2 hlt13 M13'xx M14'xx M13'x M14'x M13' M14' HSg HBg HSf HBf HSe HBe
        generalize ((((((wu.setCell ⟨g13, 0, none⟩ (.int .i64 p1.f0)).setCell ⟨g13, 1, none⟩ (.string p1.f1)).setCell ⟨g13, 2, none⟩ (.string p1.f2)).setCell ⟨g14, 0, none⟩ (.int .i64 q1.f0)).setCell ⟨g14, 1, none⟩ (.string q1.f1)).setCell ⟨g14, 2, none⟩ (.string q1.f2)) = wv at M13 M14 HSh HBh ⊢
        obtain ⟨y0, y1, y2⟩ := cells3 M13.out
        obtain ⟨y3, y4, y5⟩ := cells3 M14.out
        by_cases cq : 0 < q.f0
        ·have cq1 : 0 < q1.f0 := K2.out.2 cq
         by_cases cp : 0 < p.f0
         ·have cp1 : 0 < p1.f0 := K1.out.2 cp
          have J := I1.out
          rw [if_pos cq, if_pos cp] at J
          replace J := mz J
          clear cq cp
          go_wp2_with fail
          clear y0 y1 y2 y3 y4 y5
          refine (mk_take_b w.heap.size g12 v m wv HSh.out.a.mkr p1 _ HI.out.bm HB900.out (O1.out.2.mono (by omega))).mono ?_
          rintro e wf ⟨rfl, hP⟩
          obtain ⟨hb, hk, v', hst⟩ := HSh.out.take1 (by decide) (by decide) hP
          have HSi := mz hst
          have HBi := mz (HBh.out.trans hb)
          have M13f := mz (blk_mk M13.out hk HS.out.a.mkr HGE.out.1)
          have M14f := mz (blk_mk M14.out hk HS.out.a.mkr HGE.out.2)
          clear hb hk hst hP
          obtain ⟨y0, y1, y2⟩ := cells3 M13f.out
          obtain ⟨y3, y4, y5⟩ := cells3 M14f.out
          go_wp2_with fail
          clear y0 y1 y2 y3 y4 y5
          refine (mk_take_b w.heap.size g15 u o wf HSi.out.b.mkr q1 _ HI.out.bo HB900.out (O2.out.2.mono (by omega))).mono ?_
          rintro e wg ⟨rfl, hP⟩
          obtain ⟨hb, hk, u', hst⟩ := HSi.out.take2 (by decide) (by decide) hP
          have HSj := mz hst
          have HBj := mz (HBi.out.trans hb)
          clear hb hk hst hP
          go_wp2_with fail
          go_roundg (leftN (cutL p xs n) (cutL q ys n))
          case measure => omega
          case rel => exact ⟨(cutL p xs n), (cutL q ys n), (takeM m p1), v', (takeM o q1), u', A1', c1', A2', c2', Nat.le_refl _, ⟨J.out⟩, ⟨HSj.out⟩, ⟨HBj.out⟩⟩
         ·have cp1 : ¬ 0 < p1.f0 := fun e => cp (K1.out.1 e)
          have J := I1.out
          rw [if_pos cq, if_neg cp] at J
          replace J := mz J
          clear cq cp
          go_wp2_with fail
          clear y0 y1 y2 y3 y4 y5
          refine (mk_take_b w.heap.size g12 v m wv HSh.out.a.mkr p1 _ HI.out.bm HB900.out (O1.out.2.mono (by omega))).mono ?_
          rintro e wf ⟨rfl, hP⟩
          obtain ⟨hb, hk, v', hst⟩ := HSh.out.take1 (by decide) (by decide) hP
          have HSi := mz hst
          have HBi := mz (HBh.out.trans hb)
          have M13f := mz (blk_mk M13.out hk HS.out.a.mkr HGE.out.1)
          have M14f := mz (blk_mk M14.out hk HS.out.a.mkr HGE.out.2)
          clear hb hk hst hP
          obtain ⟨y0, y1, y2⟩ := cells3 M13f.out
          obtain ⟨y3, y4, y5⟩ := cells3 M14f.out
          go_wp2_with fail
          go_roundg (leftN (cutL p xs n) (cutL q ys n))
          case measure => omega
          case rel => exact ⟨(cutL p xs n), (cutL q ys n), (takeM m p1), v', o, u, A1', c1', A2', c2', Nat.le_refl _, ⟨J.out⟩, ⟨HSi.out⟩, ⟨HBi.out⟩⟩
        ·have cq1 : ¬ 0 < q1.f0 := fun e => cq (K2.out.1 e)
         by_cases cp : 0 < p.f0
         ·have cp1 : 0 < p1.f0 := K1.out.2 cp
          have J := I1.out
          rw [if_neg cq, if_pos cp] at J
          replace J := mz J
          clear cq cp
          go_wp2_with fail
          clear y0 y1 y2 y3 y4 y5
          refine (mk_take_b w.heap.size g15 u o wv HSh.out.b.mkr q1 _ HI.out.bo HB900.out (O2.out.2.mono (by omega))).mono ?_
          rintro e wg ⟨rfl, hP⟩
          obtain ⟨hb, hk, u', hst⟩ := HSh.out.take2 (by decide) (by decide) hP
          have HSj := mz hst
          have HBj := mz (HBh.out.trans hb)
          clear hb hk hst hP
          go_wp2_with fail
          go_roundg (leftN (cutL p xs n) (cutL q ys n))
          case measure => omega
          case rel => exact ⟨(cutL p xs n), (cutL q ys n), m, v, (takeM o q1), u', A1', c1', A2', c2', Nat.le_refl _, ⟨J.out⟩, ⟨HSj.out⟩, ⟨HBj.out⟩⟩
         ·have cp1 : ¬ 0 < p1.f0 := fun e => cp (K1.out.1 e)
          have J := I1.out
          rw [if_neg cq, if_neg cp] at J
          replace J := mz J
          clear cq cp
          go_wp2_with fail
          go_wp2_with fail
          go_roundg (leftN (cutL p xs n) (cutL q ys n))
          case measure => omega
          case rel => exact ⟨(cutL p xs n), (cutL q ys n), m, v, o, u, A1', c1', A2', c2', Nat.le_refl _, ⟨J.out⟩, ⟨HSh.out⟩, ⟨HBh.out⟩⟩
       ·have l_qf1 : ¬ (q.f1.toList = []) := fun e => hq ((toList_nil _).1 e)
        have e_qf1 : q.f1.toList.isEmpty = false := by cases hh : q.f1.toList with | nil => exact absurd hh l_qf1 | cons _ _ => rfl
        obtain ⟨hI1, hlt⟩ := HI.out.putR hq (fun p' l e => by injection e with e1 e2; subst e1; exact hd)
        have HI1 := mz hI1
        have HOK := mz (HI.out.fy q List.mem_cons_self)
        clear hI1 hq
        simp only [List.length_cons] at x11
        simp only [List.length_cons] at x10
        have l_pf1 : p.f1.toList = [] := (toList_nil _).2 hd
        have e_pf1 : p.f1.toList.isEmpty = true := by rw [l_pf1]; rfl
        clear hd
        go_wp2_with fail
        refine (rd_head g10 Ax cx ((p :: xs)) wr HS.out.a.r1).mono ?_
        rintro e wh ⟨rfl, hb⟩
        dsimp only [partV, headL]
        have Bh := mz hb
        clear hb x10 x11
        go_wp2_with fail
        refine (rd_head g11 Ay cy (q :: ys) wh (HS.out.a.r2.below Bh.out)).mono ?_
        rintro e wi ⟨rfl, hb⟩
        dsimp only [partV, headL]
        have Bi := mz (below_step Bh.out hb)
        clear hb Bh
        go_upto_region 8 with (first | ((with_reducible refine gate_dst (N := 13) rfl ?_); refine bx 13 #[.int .i64 0, .string ⟨#[]⟩, .string ⟨#[]⟩] 86 ?_; intro g13 hg13 wb hbox hb; have HG13 := mz hg13; have Bb := mz hb; have K13 := mz hbox; clear hg13 hb hbox) | ((with_reducible refine gate_dst (N := 14) rfl ?_); refine bx 14 #[.int .i64 0, .string ⟨#[]⟩, .string ⟨#[]⟩] 86 ?_; intro g14 hg14 wc hbox hb; have HG14 := mz hg14; have Bc := mz hb; have K14 := mz hbox; have K13' := mz (blk_below K13.out hb); have hn34 : g13 ≠ g14 := fun e => absurd (blk_lt K13.out) (by rw [e, hg14]; exact Nat.lt_irrefl _); have hn43 : g14 ≠ g13 := Ne.symm hn34; obtain ⟨y0, y1, y2⟩ := cells3 K13'.out; obtain ⟨z0, z1, z2⟩ := froz3 K13'.out; obtain ⟨y3, y4, y5⟩ := cells3 K14.out; obtain ⟨z3, z4, z5⟩ := froz3 K14.out; clear hg14 hb hbox))
        have bf := two_boxes Bb.out Bc.out HG13.out HG14.out K13'.out K14.out hn34 (p.f0) (q.f0) (p.f1) (p.f2) (q.f1) (q.f2)
        have M13 := mz bf.1
        have M14 := mz bf.2.1
        have Bd := mz bf.2.2
        have HGE : Aside0 (wr.heap.size ≤ g13 ∧ wr.heap.size ≤ g14) := ⟨by have h1 := HG13.out; have h2 := HG14.out; have h3 := Bb.out.size; have h4 := Bi.out.size; omega⟩
        have HN34 := mz hn34
        clear y0 y1 y2 y3 y4 y5 z0 z1 z2 z3 z4 z5 bf hn34 hn43 K13 K13' K14 Bb Bc HG13 HG14
        generalize (((((((wc.setCell ⟨g13, 0, none⟩ (.int .i64 (p.f0))).setCell ⟨g13, 1, none⟩ (.string (p.f1))).setCell ⟨g13, 2, none⟩ (.string (p.f2))).setCell ⟨g14, 0, none⟩ (.int .i64 (q.f0))).setCell ⟨g14, 1, none⟩ (.string (q.f1))).setCell ⟨g14, 2, none⟩ (.string (q.f2))) : World) = wd at M13 M14 Bd ⊢
        have HSd := mz (HS.out.below (below_step Bi.out Bd.out))
        have HBd := mz (HB.out.trans ((below_step Bi.out Bd.out).mono HB.out.size))
        obtain ⟨y0, y1, y2⟩ := cells3 M13.out
        obtain ⟨y3, y4, y5⟩ := cells3 M14.out
        go_wp2_with fail
        clear y0 y1 y2 y3 y4 y5
        refine (rd_next w.heap.size g11 Ay cy q ys wd HSd.out.a.r2 HSd.out.a.le.2).mono ?_
        rintro e we ⟨rfl, hP⟩
        dsimp only [partV]
        obtain ⟨hb, hk, A', c', _, hst⟩ := HSd.out.rd2 (by decide) (by decide) (by simp) hP
        have HSe := mz hst
        have HBe := mz (HBd.out.trans hb)
        have M14e := mz ((hk.2 g14 (blk_lt M14.out) (fun e => by have h1 := HGE.out; have h2 := HG12.out; omega)).trans M14.out)
        clear hb hk hst hP
        go_wp2_with fail
        refine (mk_take_b w.heap.size g15 u o we HSe.out.b.mkr q _ HI.out.bo HB900.out (HOK.out.2.mono (by omega))).mono ?_
        rintro e wf ⟨rfl, hP⟩
        obtain ⟨hb, hk, u', hst⟩ := HSe.out.take2 (by decide) (by decide) hP
        have HSf := mz hst
        have HBf := mz (HBe.out.trans hb)
        have M14f := mz (blk_mk M14e.out hk HS.out.b.mkr HGE.out.2)
        clear hb hk hst hP
        obtain ⟨y3, y4, y5⟩ := cells3 M14f.out
        go_wp2_with fail
        clear y3 y4 y5
        refine (mk_keep_b w.heap.size g12 v m wf HSf.out.a.mkr (q.f1.size : Int) _ HI.out.bm HB900.out (by omega) (by have := put_le HOK.out; omega)).mono ?_
        rintro e wg ⟨rfl, hP⟩
        obtain ⟨hb, hk, v', hst⟩ := HSf.out.take1 (by decide) (by decide) hP
        have HSg := mz hst
        have HBg := mz (HBf.out.trans hb)
        clear hb hk hst hP
        go_wp2_with fail
        go_roundg (leftN (p :: xs) ys)
        case measure => omega
        case rel => exact ⟨(p :: xs), ys, (keepM q.f1.size m), v', (takeM o q), u', Ax, cx, A', c', Nat.le_refl _, ⟨HI1.out⟩, ⟨HSg.out⟩, ⟨HBg.out⟩⟩
     ·have l_pf1 : ¬ (p.f1.toList = []) := fun e => hd ((toList_nil _).1 e)
      have e_pf1 : p.f1.toList.isEmpty = false := by cases hh : p.f1.toList with | nil => exact absurd hh l_pf1 | cons _ _ => rfl
      obtain ⟨hI1, hlt⟩ := HI.out.putL hd
      have HI1 := mz hI1
      have HOK := mz (HI.out.fx p List.mem_cons_self)
      clear hI1 hd
      simp only [List.length_cons] at x10
      go_wp2_with fail
      refine (rd_head g10 Ax cx ((p :: xs)) wr HS.out.a.r1).mono ?_
      rintro e wh ⟨rfl, hb⟩
      dsimp only [partV, headL]
      have Bh := mz hb
      clear hb x10 x11
      go_wp2_with fail
      refine (rd_head g11 Ay cy ys wh (HS.out.a.r2.below Bh.out)).mono ?_
      rintro e wi ⟨rfl, hb⟩
      generalize headL ys = qh
      dsimp only [partV, headL]
      have Bi := mz (below_step Bh.out hb)
      clear hb Bh
      go_upto_region 8 with (first | ((with_reducible refine gate_dst (N := 13) rfl ?_); refine bx 13 #[.int .i64 0, .string ⟨#[]⟩, .string ⟨#[]⟩] 86 ?_; intro g13 hg13 wb hbox hb; have HG13 := mz hg13; have Bb := mz hb; have K13 := mz hbox; clear hg13 hb hbox) | ((with_reducible refine gate_dst (N := 14) rfl ?_); refine bx 14 #[.int .i64 0, .string ⟨#[]⟩, .string ⟨#[]⟩] 86 ?_; intro g14 hg14 wc hbox hb; have HG14 := mz hg14; have Bc := mz hb; have K14 := mz hbox; have K13' := mz (blk_below K13.out hb); have hn34 : g13 ≠ g14 := fun e => absurd (blk_lt K13.out) (by rw [e, hg14]; exact Nat.lt_irrefl _); have hn43 : g14 ≠ g13 := Ne.symm hn34; obtain ⟨y0, y1, y2⟩ := cells3 K13'.out; obtain ⟨z0, z1, z2⟩ := froz3 K13'.out; obtain ⟨y3, y4, y5⟩ := cells3 K14.out; obtain ⟨z3, z4, z5⟩ := froz3 K14.out; clear hg14 hb hbox))
      have bf := two_boxes Bb.out Bc.out HG13.out HG14.out K13'.out K14.out hn34 (p.f0) (qh.f0) (p.f1) (p.f2) (qh.f1) (qh.f2)
      have M13 := mz bf.1
      have M14 := mz bf.2.1
      have Bd := mz bf.2.2
      have HGE : Aside0 (wr.heap.size ≤ g13 ∧ wr.heap.size ≤ g14) := ⟨by have h1 := HG13.out; have h2 := HG14.out; have h3 := Bb.out.size; have h4 := Bi.out.size; omega⟩
      have HN34 := mz hn34
      clear y0 y1 y2 y3 y4 y5 z0 z1 z2 z3 z4 z5 bf hn34 hn43 K13 K13' K14 Bb Bc HG13 HG14
      generalize (((((((wc.setCell ⟨g13, 0, none⟩ (.int .i64 (p.f0))).setCell ⟨g13, 1, none⟩ (.string (p.f1))).setCell ⟨g13, 2, none⟩ (.string (p.f2))).setCell ⟨g14, 0, none⟩ (.int .i64 (qh.f0))).setCell ⟨g14, 1, none⟩ (.string (qh.f1))).setCell ⟨g14, 2, none⟩ (.string (qh.f2))) : World) = wd at M13 M14 Bd ⊢
      have HSd := mz (HS.out.below (below_step Bi.out Bd.out))
      have HBd := mz (HB.out.trans ((below_step Bi.out Bd.out).mono HB.out.size))
      obtain ⟨y0, y1, y2⟩ := cells3 M13.out
      obtain ⟨y3, y4, y5⟩ := cells3 M14.out
      go_wp2_with fail
      clear y0 y1 y2 y3 y4 y5
      refine (rd_next w.heap.size g10 Ax cx p xs wd HSd.out.a.r1 HSd.out.a.le.1).mono ?_
      rintro e we ⟨rfl, hP⟩
      dsimp only [partV]
      obtain ⟨hb, hk, A', c', _, hst⟩ := HSd.out.rd1 (by decide) (by decide) (by simp) hP
      have HSe := mz hst
      have HBe := mz (HBd.out.trans hb)
      have M13e := mz ((hk.2 g13 (blk_lt M13.out) (fun e => by have h1 := HGE.out; have h2 := HG12.out; omega)).trans M13.out)
      clear hb hk hst hP
      go_wp2_with fail
      refine (mk_take_b w.heap.size g12 v m we HSe.out.a.mkr p _ HI.out.bm HB900.out (HOK.out.2.mono (by omega))).mono ?_
      rintro e wf ⟨rfl, hP⟩
      obtain ⟨hb, hk, v', hst⟩ := HSe.out.take1 (by decide) (by decide) hP
      have HSf := mz hst
      have HBf := mz (HBe.out.trans hb)
      have M13f := mz (blk_mk M13e.out hk HS.out.a.mkr HGE.out.1)
      clear hb hk hst hP
      obtain ⟨y0, y1, y2⟩ := cells3 M13f.out
      go_wp2_with fail
      clear y0 y1 y2
      refine (mk_keep_b w.heap.size g15 u o wf HSf.out.b.mkr (p.f1.size : Int) _ HI.out.bo HB900.out (by omega) (by have := put_le HOK.out; omega)).mono ?_
      rintro e wg ⟨rfl, hP⟩
      obtain ⟨hb, hk, u', hst⟩ := HSf.out.take2 (by decide) (by decide) hP
      have HSg := mz hst
      have HBg := mz (HBf.out.trans hb)
      clear hb hk hst hP
      go_wp2_with fail
      go_roundg (leftN xs ys)
      case measure => omega
      case rel => exact ⟨xs, ys, (takeM m p), v', (keepM p.f1.size o), u', A', c', Ay, cy, Nat.le_refl _, ⟨HI1.out⟩, ⟨HSg.out⟩, ⟨HBg.out⟩⟩
structure TrJ (R : Mk × Mk) (xs ys : List Part) (m o : Mk) : Prop where
 t : TrI R xs ys m o
 im : InvM m
 io : InvM o
theorem InvM.keepN {m : Mk} (h : InvM m) (n : Nat) : InvM (keepM n m) := h.keep n (by omega)
section
variable {R : Mk × Mk} {xs ys : List Part} {p q : Part} {m o : Mk}
theorem TrJ.putL (h : TrJ R (p :: xs) ys m o) (hd : p.f1.size ≠ 0) : TrJ R xs ys (takeM m p) (keepM p.f1.size o) ∧ leftN xs ys + 1 ≤ leftN (p :: xs) ys := by
 have hp := h.t.fx p List.mem_cons_self
 have := h.t.putL hd
 exact ⟨⟨this.1, h.im.take p hp.1.1.1, h.io.keepN _⟩, this.2⟩
theorem TrJ.putR (h : TrJ R xs (q :: ys) m o) (hd : q.f1.size ≠ 0) (hx : ∀ p l, xs = p :: l → p.f1.size = 0) : TrJ R xs ys (keepM q.f1.size m) (takeM o q) ∧ leftN xs ys + 1 ≤ leftN xs (q :: ys) := by
 have hp := h.t.fy q List.mem_cons_self
 have := h.t.putR hd hx
 exact ⟨⟨this.1, h.im.keepN _, h.io.take q hp.1.1.1⟩, this.2⟩
theorem TrJ.both (h : TrJ R (p :: xs) (q :: ys) m o) (h1 : p.f1.size = 0) (h2 : q.f1.size = 0) (n : Nat) (hn : n = min (sizeP p) (sizeP q)) :
  0 < n ∧ n ≤ sizeP p ∧ n ≤ sizeP q ∧ leftN (cutL p xs n) (cutL q ys n) + 1 ≤ leftN (p :: xs) (q :: ys) ∧ okP (firstP p n) ∧ okP (firstP q n) ∧
  TrJ R (cutL p xs n) (cutL q ys n) (if 0 < q.f0 then takeM m (firstP p n) else m) (if 0 < p.f0 then takeM o (firstP q n) else o) := by
 obtain ⟨a, b, c, d, e, f, g⟩ := h.t.both h1 h2 n hn
 refine ⟨a, b, c, d, e, f, g, ?_, ?_⟩
 ·split
  ·exact h.im.take _ e.1.1.1
  ·exact h.im
 ·split
  ·exact h.io.take _ f.1.1.1
  ·exact h.io
end
theorem takeM_keep (m : Mk) (n : Nat) : takeM m ⟨n, noB, noB⟩ = keepM n m := by
 unfold takeM
 have e : ∀ s : ByteArray, s ++ noB = s := fun s => bd_ext (by simp [noB])
 simp only [e]
theorem add_m (base : Nat) (v : Value) (m : Mk) (p : Part) (B : Nat) (w : World) (h : OwnP base w v (madeL m)) (hb : base ≤ w.heap.size) (hm : BndM m B) (hB : B ≤ 900000) (hi : InvM m) (hp : okP p) :
  Calls Try.prog 100 #[v, .agg #[.int .i64 p.f0, .string p.f1, .string p.f2]] w fun e w' => ∃ v', e = .returned v' ∧ AddPost base v (madeL (takeM m p)) w w' v' := by
 have := add_walk base v (madeL m) p w h hb ⟨hp.1.1, by have := hm.len; omega, hp.2.mono (by omega), fun q hq => (hm.mem q hq).mono (by omega)⟩
 rw [addL_made m p hi hp.1.1] at this
 exact this
theorem add_n (base : Nat) (v : Value) (m : Mk) (n : Nat) (B : Nat) (w : World) (h : OwnP base w v (madeL m)) (hb : base ≤ w.heap.size) (hm : BndM m B) (hB : B ≤ 900000) (hi : InvM m) (h0 : n ≠ 0) (hn : n ≤ 300) :
  Calls Try.prog 100 #[v, .agg #[.int .i64 (n : Int), .string ⟨#[]⟩, .string ⟨#[]⟩]] w fun e w' => ∃ v', e = .returned v' ∧ AddPost base v (madeL (keepM n m)) w w' v' := by
 have := add_m base v m ⟨n, noB, noB⟩ B w h hb hm hB hi ⟨⟨⟨by simp only; omega, fun _ => ⟨rfl, rfl⟩, fun x => absurd rfl x⟩, by simp only [sizeP]; omega⟩, by simp only; omega, by simp only; omega, by simp only [noB_size]; omega, by simp only [noB_size]; omega⟩
 rw [takeM_keep] at this
 exact this
structure StW (t : TypeId) (base : Nat) (w : World) (g1 g2 : Nat) (A1 : Option Addr) (c1 : Nat) (xs : List Part) (A2 : Option Addr) (c2 : Nat) (ys : List Part) (v : Value) (L : List Part) (u : Value) (M : List Part) : Prop where
 a : StS t base w g1 g2 A1 c1 xs A2 c2 ys v L
 b : StS t base w g1 g2 A1 c1 xs A2 c2 ys u M
 ap : ∀ k, v.ownBlock = some k → u.ownBlock ≠ some k
section
variable {t : TypeId} {base g1 g2 c1 c2 : Nat} {w w' : World} {A1 A2 : Option Addr} {xs ys l' L L' M : List Part} {v v' u : Value} (htp : t ≠ 86)
theorem StW.below (h : StW t base w g1 g2 A1 c1 xs A2 c2 ys v L u M) (hb : Below w.heap.size w w') : StW t base w' g1 g2 A1 c1 xs A2 c2 ys v L u M := ⟨h.a.below hb, h.b.below hb, h.ap⟩
include htp in
theorem StW.rd1 (h : StW t base w g1 g2 A1 c1 xs A2 c2 ys v L u M) (h0 : 0 < xs.length) (hP : RdPost t base g1 A1 l' w w') : Below base w w' ∧ Kept w w' (fun k => k = g1) ∧ ∃ A' c', StW t base w' g1 g2 A' c' l' A2 c2 ys v L u M := by
 obtain ⟨A', c', hr, hs⟩ := hP
 have hk : ∀ {x : Value} {N : List Part}, StS t base w g1 g2 A1 c1 xs A2 c2 ys x N → StS t base w' g1 g2 A' c' l' A2 c2 ys x N := fun h =>
  ⟨hr, h.r2.by_rd h.r1 (Ne.symm h.ne) hs.kept, own_move h.row (fun k hk => hs.kept.2 k (own_lt h.row k hk) (fun e => own_ne h.row h.r1.blk (Ne.symm htp) (by rw [hk, e]))), h.s1.byRdS h0 h.row hs, h.s2, h.ne, h.le⟩
 exact ⟨hs.below, hs.kept, A', c', hk h.a, hk h.b, h.ap⟩
include htp in
theorem StW.rd2 (h : StW t base w g1 g2 A1 c1 xs A2 c2 ys v L u M) (h0 : 0 < ys.length) (hP : RdPost t base g2 A2 l' w w') : Below base w w' ∧ Kept w w' (fun k => k = g2) ∧ ∃ A' c', StW t base w' g1 g2 A1 c1 xs A' c' l' v L u M := by
 obtain ⟨A', c', hr, hs⟩ := hP
 have hk : ∀ {x : Value} {N : List Part}, StS t base w g1 g2 A1 c1 xs A2 c2 ys x N → StS t base w' g1 g2 A1 c1 xs A' c' l' x N := fun h =>
  ⟨h.r1.by_rd h.r2 h.ne hs.kept, hr, own_move h.row (fun k hk => hs.kept.2 k (own_lt h.row k hk) (fun e => own_ne h.row h.r2.blk (Ne.symm htp) (by rw [hk, e]))), h.s1, h.s2.byRdS h0 h.row hs, h.ne, h.le⟩
 exact ⟨hs.below, hs.kept, A', c', hk h.a, hk h.b, h.ap⟩
theorem StW.swap (h : StW t base w g1 g2 A1 c1 xs A2 c2 ys v L u M) : StW t base w g1 g2 A1 c1 xs A2 c2 ys u M v L := ⟨h.b, h.a, fun k e e' => h.ap k e' e⟩
include htp in
theorem StW.add1 (h : StW t base w g1 g2 A1 c1 xs A2 c2 ys v L u M) (hP : AddPost base v L' w w' v') : Below base w w' ∧ Kept w w' (fun k => some k = v.ownBlock) ∧ StW t base w' g1 g2 A1 c1 xs A2 c2 ys v' L' u M := by
 have ha := h.a.add htp hP
 obtain ⟨ho, hs⟩ := hP
 refine ⟨hs.below, hs.kept, ha.2, ⟨ha.2.r1, ha.2.r2, own_move h.b.row (fun k hk => hs.kept.2 k (own_lt h.b.row k hk) (fun e => h.ap k e.symm hk)), h.b.s1, h.b.s2, h.b.ne, h.b.le⟩, fun k e e' => ?_⟩
 rcases hs.own with e2 | ⟨b, e2, hle⟩
 ·exact h.ap k (e2.symm.trans e) e'
 ·rw [e2] at e; injection e with e
  have := own_lt h.b.row k e'; omega
include htp in
theorem StW.add2 (h : StW t base w g1 g2 A1 c1 xs A2 c2 ys v L u M) (hP : AddPost base u L' w w' v') : Below base w w' ∧ Kept w w' (fun k => some k = u.ownBlock) ∧ StW t base w' g1 g2 A1 c1 xs A2 c2 ys v L v' L' := by
 have := h.swap.add1 htp hP
 exact ⟨this.1, this.2.1, this.2.2.swap⟩
end
theorem blk_add {w w' : World} {v : Value} {n gb : Nat} {o : Obj} (hb : w.heap[gb]? = some o) (hk : Kept w w' (fun k => some k = v.ownBlock)) (hv : ∀ k, v.ownBlock = some k → k < n) (hge : n ≤ gb) : w'.heap[gb]? = some o :=
 (hk.2 gb (blk_lt hb) (fun e => by have := hv gb e.symm; omega)).trans hb
def trP (p : Mk × Mk) : List Part × List Part × Bool := (madeL p.1, madeL p.2, true)
def trS (a b : List Part) : List Part × List Part × Bool := if sameV a b = (true, true) then trP (trU (unitsL (normL a)) (unitsL (normL b)) mk0 mk0) else ([], [], false)
def spec_l4Transform.f (l0 l1 : List Part) : Option (List Part × List Part × Bool) := if opB l0 = true ∧ opB l1 = true then some (trS l0 l1) else none

set_option maxHeartbeats 16000000 in
set_option maxRecDepth 100000 in
theorem spec_l4Transform.calls (A0 : Option Addr) (c0 : Nat) (l0 : List Part) (A1 : Option Addr) (c1 : Nat) (l1 : List Part) (r1 : List Part) (r2 : List Part) (r3 : Bool) (w : World) (hr0 : Kd.C k86 w A0 l0.length l0) (hc0 : l0.length ≤ c0) (hr1 : Kd.C k86 w A1 l1.length l1) (hc1 : l1.length ≤ c1) (h : spec_l4Transform.f l0 l1 = some (r1, r2, r3)) :
  Calls Try.prog 115 #[.slice A0 l0.length c0, .slice A1 l1.length c1] w fun e w' => ∃ v0_ v1_ : Value, e = .returned (.tuple #[v0_, v1_, .bool r3]) ∧ Kd.R k86 86 w' w.heap.size (fun k_ => some k_ ≠ (v1_ : Value).ownBlock) v0_ r1 ∧ Kd.R k86 86 w' w.heap.size (fun k_ => some k_ ≠ (v0_ : Value).ownBlock) v1_ r2 ∧ Below w.heap.size w w' := by
 unfold spec_l4Transform.f at h
 by_cases hs : opB l0 = true ∧ opB l1 = true
 case neg => rw [if_neg hs] at h; exact absurd h (by simp)
 rw [if_pos hs] at h
 have h0 := Option.some.inj h
 obtain ⟨pa, pb⟩ := hs
 obtain ⟨ka, hka⟩ := Ev.rounds (specSame_ev pa pb)
 obtain ⟨⟨b1, b2⟩, hbb⟩ : ∃ p, sameV l0 l1 = p := ⟨_, rfl⟩
 rw [hbb] at hka
 have HC0 := mz hr0
 have HC1 := mz hr1
 have HL0 := mz hc0
 have HL1 := mz hc1
 have HKA := mz hka
 clear hr0 hr1 hc0 hc1 h hka
 cases b2 with
 | false =>
  cases b1 with
  | false =>
   have hv : trS l0 l1 = ([], [], false) := by unfold trS; rw [if_neg (by rw [hbb]; simp)]
   rw [hv] at h0
   obtain ⟨rfl, h1⟩ := Prod.mk.inj h0
   obtain ⟨rfl, rfl⟩ := Prod.mk.inj h1
   clear h0 h1 hv hbb pa pb
   go_enter Try.func115, Try.ntmps115
   go_wp2_with fail
   refine (spec_l4Same.calls ka A0 c0 l0 A1 c1 l1 false false _ HC0.out HL0.out HC1.out HL1.out HKA.out).mono ?_
   rintro e w1 ⟨rfl, hb⟩
   have HB1 := mz hb
   clear hb
   go_wp2_with fail
   go_ret3
   exact ⟨.slice none 0 0, .slice none 0 0, rfl, Kd.R_nil _ _ _ _ _, Kd.R_nil _ _ _ _ _, HB1.out⟩
  | true =>
   have hv : trS l0 l1 = ([], [], false) := by unfold trS; rw [if_neg (by rw [hbb]; simp)]
   rw [hv] at h0
   obtain ⟨rfl, h1⟩ := Prod.mk.inj h0
   obtain ⟨rfl, rfl⟩ := Prod.mk.inj h1
   clear h0 h1 hv hbb pa pb
   go_enter Try.func115, Try.ntmps115
   go_wp2_with fail
   refine (spec_l4Same.calls ka A0 c0 l0 A1 c1 l1 true false _ HC0.out HL0.out HC1.out HL1.out HKA.out).mono ?_
   rintro e w1 ⟨rfl, hb⟩
   have HB1 := mz hb
   clear hb
   go_wp2_with fail
   go_ret3
   exact ⟨.slice none 0 0, .slice none 0 0, rfl, Kd.R_nil _ _ _ _ _, Kd.R_nil _ _ _ _ _, HB1.out⟩
 | true =>
  cases b1 with
  | false =>
   have hv : trS l0 l1 = ([], [], false) := by unfold trS; rw [if_neg (by rw [hbb]; simp)]
   rw [hv] at h0
   obtain ⟨rfl, h1⟩ := Prod.mk.inj h0
   obtain ⟨rfl, rfl⟩ := Prod.mk.inj h1
   clear h0 h1 hv hbb pa pb
   go_enter Try.func115, Try.ntmps115
   go_wp2_with fail
   refine (spec_l4Same.calls ka A0 c0 l0 A1 c1 l1 false true _ HC0.out HL0.out HC1.out HL1.out HKA.out).mono ?_
   rintro e w1 ⟨rfl, hb⟩
   have HB1 := mz hb
   clear hb
   go_wp2_with fail
   go_ret3
   exact ⟨.slice none 0 0, .slice none 0 0, rfl, Kd.R_nil _ _ _ _ _, Kd.R_nil _ _ _ _ _, HB1.out⟩
  | true =>
   have he : takesN l0 = takesN l1 := by have h1 := hbb; unfold sameV at h1; by_cases e : (bitsL l0).length = (bitsL l1).length; (· rw [← bitsL_len, ← bitsL_len]; exact e); (· rw [if_neg e] at h1; simp at h1)
   have hv : trS l0 l1 = trP (trU (unitsL (normL l0)) (unitsL (normL l1)) mk0 mk0) := by unfold trS; rw [if_pos hbb]
   rw [hv] at h0
   obtain ⟨n1, n2, n3, n4⟩ := norm_ok pa
   obtain ⟨o1, o2, o3, o4⟩ := norm_ok pb
   have f0 : spec_l3Normal.f l0 = some (normL l0) := specNormal_val pa
   have f1 : spec_l3Normal.f l1 = some (normL l1) := specNormal_val pb
   generalize normL l0 = nx at *
   generalize normL l1 = ny at *
   have hI0 : TrJ (trU (unitsL nx) (unitsL ny) mk0 mk0) nx ny mk0 mk0 := ⟨⟨rfl, n1, o1, by rw [n3, o3, he], by unfold leftN; omega, BndM.zero.mono (Nat.zero_le _), BndM.zero.mono (Nat.zero_le _)⟩, InvM.zero, InvM.zero⟩
   have HI0 := mz hI0
   have H0 := mz h0
   have HF0 := mz f0
   have HF1 := mz f1
   clear hI0 hv h0 pa pb he hbb n1 n2 n3 n4 o1 o2 o3 o4 f0 f1
   go_enter Try.func115, Try.ntmps115
   go_wp2_with fail
   refine (spec_l4Same.calls ka A0 c0 l0 A1 c1 l1 true true _ HC0.out HL0.out HC1.out HL1.out HKA.out).mono ?_
   rintro e w1 ⟨rfl, hb⟩
   have HB1 := mz hb
   clear hb
   go_wp2_with fail
   refine (spec_l3Normal.calls A0 c0 l0 nx _ (Kd.C_below HC0.out HB1.out) HL0.out HF0.out).mono ?_
   rintro e w5 ⟨v5, rfl, hR5, hb⟩
   obtain ⟨A5, c5, rfl, hc5, hC5⟩ := Kd.R_reads hR5
   have HC5 := mz hC5
   have HL5 := mz hc5
   have HB5 := mz (below_step HB1.out hb)
   clear hb hR5 hC5 hc5
   go_wp2_with ((with_reducible refine gate_dst (N := 33) rfl ?_); refine bx 33 #[.slice A5 nx.length c5] 157 ?_; intro g1 hg wa hbox hb; have HGE1 : Aside0 (w.heap.size ≤ g1) := ⟨by rw [hg]; exact HB5.out.size⟩; have HBa := mz (below_step HB5.out hb); have R1 := mz (IsRd.mk (t := 157) hbox (Kd.C_below HC5.out hb) HL5.out); clear hg hbox hb)
   refine (spec_l3Normal.calls A1 c1 l1 ny _ (Kd.C_below HC1.out HBa.out) HL1.out HF1.out).mono ?_
   rintro e w6 ⟨v6, rfl, hR6, hb⟩
   obtain ⟨A6, c6, rfl, hc6, hC6⟩ := Kd.R_reads hR6
   have R1' := mz (R1.out.below hb)
   have HC6 := mz hC6
   have HL6 := mz hc6
   have HB6 := mz (below_step HBa.out hb)
   clear hb hR6 hC6 hc6 R1
   go_wp2_with ((with_reducible refine gate_dst (N := 37) rfl ?_); refine bx 37 #[.slice A6 ny.length c6] 157 ?_; intro g2 hg wb hbox hb; have HB0 := mz (below_step HB6.out hb); have hq1 : StS 157 w.heap.size wb g1 g2 A5 c5 nx A6 c6 ny (.slice none 0 0) (madeL mk0) := StS.mk (R1'.out.below hb) (IsRd.mk (t := 157) hbox (Kd.C_below HC6.out hb) HL6.out) (own_nil _ _ _ _) (fun _ _ _ e => by cases e) (fun _ _ _ e => by cases e) (fun e => absurd (blk_lt R1'.out.blk) (by rw [e, hg]; exact Nat.lt_irrefl _)) ⟨HGE1.out, by rw [hg]; exact HB6.out.size⟩; have ST := mz (StW.mk hq1 hq1 (fun _ e => by cases e)); clear hg hbox hb hq1)
   (try simp only [Act.put, List.setIfInBounds_toArray, List.set_cons_zero, List.set_cons_succ])
   go_loopg [9, 10, 13, 14, 15, 16, 17] (leftN nx ny) (fun gg s9 s10 _ _ _ _ _ wr => ∃ (xs ys : List Part) (m o : Mk) (Ax : Option Addr) (cx : Nat) (Ay : Option Addr) (cy : Nat), leftN xs ys ≤ gg ∧ Aside0 (TrJ (trU (unitsL nx) (unitsL ny) mk0 mk0) xs ys m o) ∧ Aside0 (StW 157 w.heap.size wr g1 g2 Ax cx xs Ay cy ys s9 (madeL m) s10 (madeL o)) ∧ Aside0 (Below w.heap.size w wr))
   case atStart => exact ⟨nx, ny, mk0, mk0, A5, c5, A6, c6, Nat.le_refl _, ⟨HI0.out⟩, ⟨ST.out⟩, ⟨HB0.out⟩⟩
   case round =>
    obtain ⟨xs, ys, m, o, Ax, cx, Ay, cy, hg, HI, HS0, HW0⟩ := hrel
    clear HI0 ST HB0 R1' HC0 HC1 HL0 HL1 HC5 HC6 HL5 HL6 HB1 HB5 HBa HB6 HGE1 HKA HF0 HF1
    have HB900 : Aside0 (400 * (1300 - leftN xs ys) ≤ 900000) := ⟨by omega⟩
    rcases xs with _ | ⟨p, xs⟩
    ·rcases ys with _ | ⟨q, ys⟩
     ·go_wp2_with fail
      refine (rs_done_nil g1 _ _ _ HS0.out.a.r1).mono ?_
      rintro e w1 ⟨rfl, hb⟩
      have HS1 := mz (HS0.out.below hb)
      have HW1 := mz (HW0.out.trans (hb.mono HW0.out.size))
      clear hb
      go_wp2_with fail
      refine (rs_done_nil g2 _ _ _ HS1.out.a.r2).mono ?_
      rintro e w2 ⟨rfl, hb⟩
      have HS2 := mz (HS1.out.below hb)
      have HW2 := mz (HW1.out.trans (hb.mono HW1.out.size))
      clear hb
      go_wp2_with fail
      go_ret3
      have h1 := H0.out
      rw [HI.out.t.done] at h1
      obtain ⟨rfl, h2⟩ := Prod.mk.inj h1
      obtain ⟨rfl, rfl⟩ := Prod.mk.inj h2
      exact ⟨_, _, rfl, Kd.R_mono (R_own HS2.out.a.row) (fun k hk e => HS2.out.ap k hk e.symm), Kd.R_mono (R_own HS2.out.b.row) (fun k hk e => HS2.out.ap k e.symm hk), HW2.out⟩
     ·have hq := HI.out.t.noX
      have l_qf1 : ¬ (q.f1.toList = []) := fun e => hq ((toList_nil _).1 e)
      have e_qf1 : q.f1.toList.isEmpty = false := by cases hh : q.f1.toList with | nil => exact absurd hh l_qf1 | cons _ _ => rfl
      obtain ⟨hI1, hlt⟩ := HI.out.putR hq (fun p l e => by cases e)
      have HI1 := mz hI1
      have HNZ := mz hq
      have HOKq := mz (HI.out.t.fy q List.mem_cons_self)
      have HLX : Aside0 (([] : List Part).length ≤ 100000 ∧ ys.length ≤ 100000) := ⟨by have h1 := len_le_units _ HI.out.t.fx; have h2 := len_le_units _ HI.out.t.fy; have h3 := HI.out.t.tot; unfold leftN at h3; simp only [List.length_cons, List.length_nil] at h1 h2 ⊢; omega⟩
      obtain ⟨ad2, rfl, _⟩ := rd_first HS0.out.a.r2.row
      clear hI1 hq
      go_wp2_with fail
      refine (rs_done_nil g1 _ _ _ HS0.out.a.r1).mono ?_
      rintro e w1 ⟨rfl, hb⟩
      have HS1 := mz (HS0.out.below hb)
      have HW1 := mz (HW0.out.trans (hb.mono HW0.out.size))
      clear hb
      go_wp2_with fail
      refine (rs_done_cons g2 _ _ _ _ _ HS1.out.a.r2).mono ?_
      rintro e w2 ⟨rfl, hb⟩
      have HS2 := mz (HS1.out.below hb)
      have HW2 := mz (HW1.out.trans (hb.mono HW1.out.size))
      clear hb
      go_wp2_with fail
      refine (rs_done_nil g1 _ _ _ HS2.out.a.r1).mono ?_
      rintro e w3 ⟨rfl, hb⟩
      have HS3 := mz (HS2.out.below hb)
      have HW3 := mz (HW2.out.trans (hb.mono HW2.out.size))
      clear hb
      go_wp2_with fail
      refine (rs_done_cons g2 _ _ _ _ _ HS3.out.a.r2).mono ?_
      rintro e w4 ⟨rfl, hb⟩
      have HS4 := mz (HS3.out.below hb)
      have HW4 := mz (HW3.out.trans (hb.mono HW3.out.size))
      clear hb
      have bc := rd_cell HS4.out.a.r2
      simp only [List.length_cons] at bc
      obtain ⟨_, e_, b0, b1, b2⟩ := rd_first HS4.out.a.r2.row
      cases e_
      go_wp2_with fail
      clear bc b0 b1 b2
      refine (rs_size g2 _ _ _ _ _ HS4.out.a.r2 (HOKq.out.2.mono (by omega))).mono ?_
      rintro e w5 ⟨rfl, hb⟩
      have HS5 := mz (HS4.out.below hb)
      have HW5 := mz (HW4.out.trans (hb.mono HW4.out.size))
      clear hb
      go_wp2_with fail
      refine (rs_take w.heap.size g2 _ _ q ys _ HS5.out.a.r2 HS5.out.a.le.2 (sizeP q) (Nat.le_refl _) HOKq.out HLX.out.2).mono ?_
      rintro e wt2 ⟨rfl, hP⟩
      rw [(first_full HOKq.out.1).1]
      rw [(first_full HOKq.out.1).2] at hP
      dsimp only [partV]
      obtain ⟨hb, hk, A2', c2', hst⟩ := HS5.out.rd2 (by decide) (by simp) hP
      have HSt2 := mz hst
      have HWt2 := mz (HW5.out.trans hb)
      have HV2 := mz (⟨own_lt hst.a.row, own_lt hst.b.row⟩ : _ ∧ _)
      clear hb hk hst hP
      go_upto_region 14 with ((with_reducible refine gate_dst (N := 14) rfl ?_); refine bx 14 #[.int .i64 0, .string ⟨#[]⟩, .string ⟨#[]⟩] 86 ?_; intro g14 hg wx hbox hb; have HX2 := mz hg; have Bx := mz hb; have KX := mz hbox; obtain ⟨y0, y1, y2⟩ := cells3 hbox; obtain ⟨z0, z1, z2⟩ := froz3 hbox; clear hg hbox hb)
      have M14 := mz (fillP KX.out rfl q.f0 q.f1 q.f2)
      have By := mz (belowP Bx.out (Nat.le_of_eq HX2.out.symm) (.int .i64 q.f0) (.string q.f1) (.string q.f2))
      have HS6 := mz (HSt2.out.below By.out)
      have HW6 := mz (HWt2.out.trans (By.out.mono HWt2.out.size))
      have HGg14 : Aside0 (wt2.heap.size ≤ g14) := ⟨Nat.le_of_eq HX2.out.symm⟩
      have HLTg14 : Aside0 (g1 < wt2.heap.size ∧ g2 < wt2.heap.size) := ⟨⟨blk_lt HSt2.out.a.r1.blk, blk_lt HSt2.out.a.r2.blk⟩⟩
      clear y0 y1 y2 z0 z1 z2 Bx KX By
      generalize ((wx.setCell ⟨g14, 0, none⟩ (.int .i64 q.f0)).setCell ⟨g14, 1, none⟩ (.string q.f1)).setCell ⟨g14, 2, none⟩ (.string q.f2) = w6 at M14 HS6 HW6  ⊢
      obtain ⟨y0, y1, y2⟩ := cells3 M14.out
      go_wp2_with fail
      clear y0 y1 y2
      refine (add_m w.heap.size _ o q _ _ HS6.out.b.row HS6.out.a.size HI.out.t.bo HB900.out HI.out.io HOKq.out).mono ?_
      rintro e w7 ⟨v2', rfl, hP⟩
      obtain ⟨hb, hk, hst⟩ := HS6.out.add2 (by decide) hP
      have HS7 := mz hst
      have HW7 := mz (HW6.out.trans hb)
      have M14a := mz (blk_add M14.out hk HV2.out.2 HGg14.out)
      clear hb hk hst hP
      obtain ⟨y0, y1, y2⟩ := cells3 M14a.out
      go_wp2_with fail
      clear y0 y1 y2
      refine (add_n w.heap.size _ m q.f1.size _ _ HS7.out.a.row HS7.out.a.size HI.out.t.bm HB900.out HI.out.im HNZ.out (put_le HOKq.out)).mono ?_
      rintro e w8 ⟨v1', rfl, hP⟩
      obtain ⟨hb, hk, hst⟩ := HS7.out.add1 (by decide) hP
      have HS8 := mz hst
      have HW8 := mz (HW7.out.trans hb)
      have M14aa := mz (blk_add M14a.out hk HV2.out.1 HGg14.out)
      clear hb hk hst hP
      go_wp2_with fail
      go_roundg (leftN [] ys)
      case measure => omega
      case rel => exact ⟨[], ys, (keepM q.f1.size m), (takeM o q), Ax, cx, A2', c2', Nat.le_refl _, ⟨HI1.out⟩, ⟨HS8.out⟩, ⟨HW8.out⟩⟩
    ·by_cases hd : p.f1.size = 0
     ·rcases ys with _ | ⟨q, ys⟩
      ·exact absurd hd HI.out.t.noY
      ·by_cases hq : q.f1.size = 0
       ·have l_pf1 : p.f1.toList = [] := (toList_nil _).2 hd
        have e_pf1 : p.f1.toList.isEmpty = true := by rw [l_pf1]; rfl
        have l_qf1 : q.f1.toList = [] := (toList_nil _).2 hq
        have e_qf1 : q.f1.toList.isEmpty = true := by rw [l_qf1]; rfl
        have HOKp := mz (HI.out.t.fx p List.mem_cons_self)
        have HOKq := mz (HI.out.t.fy q List.mem_cons_self)
        have HLX : Aside0 (xs.length ≤ 100000 ∧ ys.length ≤ 100000) := ⟨by have h1 := len_le_units _ HI.out.t.fx; have h2 := len_le_units _ HI.out.t.fy; have h3 := HI.out.t.tot; unfold leftN at h3; simp only [List.length_cons, List.length_nil] at h1 h2 ⊢; omega⟩
        obtain ⟨ad1, rfl, _⟩ := rd_first HS0.out.a.r1.row
        obtain ⟨ad2, rfl, _⟩ := rd_first HS0.out.a.r2.row
        obtain ⟨n, hn⟩ : ∃ n, n = min (sizeP p) (sizeP q) := ⟨_, rfl⟩
        obtain ⟨b0, b1, b2, b3, o1, o2, i1⟩ := HI.out.both hd hq n hn
        have HN := mz hn
        have N0 := mz b0
        have N1 := mz b1
        have N2 := mz b2
        have O1 := mz o1
        have O2 := mz o2
        have I1 := mz i1
        clear hd hq hn b0 b1 b2 o1 o2 i1
        go_wp2_with fail
        refine (rs_done_cons g1 _ _ _ _ _ HS0.out.a.r1).mono ?_
        rintro e w1 ⟨rfl, hb⟩
        have HS1 := mz (HS0.out.below hb)
        have HW1 := mz (HW0.out.trans (hb.mono HW0.out.size))
        clear hb
        go_wp2_with fail
        refine (rs_done_cons g1 _ _ _ _ _ HS1.out.a.r1).mono ?_
        rintro e w2 ⟨rfl, hb⟩
        have HS2 := mz (HS1.out.below hb)
        have HW2 := mz (HW1.out.trans (hb.mono HW1.out.size))
        clear hb
        have ac := rd_cell HS2.out.a.r1
        simp only [List.length_cons] at ac
        obtain ⟨_, e_, a0, a1, a2⟩ := rd_first HS2.out.a.r1.row
        cases e_
        go_wp2_with fail
        clear ac a0 a1 a2
        refine (rs_done_cons g2 _ _ _ _ _ HS2.out.a.r2).mono ?_
        rintro e w3 ⟨rfl, hb⟩
        have HS3 := mz (HS2.out.below hb)
        have HW3 := mz (HW2.out.trans (hb.mono HW2.out.size))
        clear hb
        have bc := rd_cell HS3.out.a.r2
        simp only [List.length_cons] at bc
        obtain ⟨_, e_, b0, b1, b2⟩ := rd_first HS3.out.a.r2.row
        cases e_
        go_wp2_with fail
        clear bc b0 b1 b2
        refine (rs_size g1 _ _ _ _ _ HS3.out.a.r1 (HOKp.out.2.mono (by omega))).mono ?_
        rintro e w4 ⟨rfl, hb⟩
        have HS4 := mz (HS3.out.below hb)
        have HW4 := mz (HW3.out.trans (hb.mono HW3.out.size))
        clear hb
        go_wp2_with fail
        refine (rs_size g2 _ _ _ _ _ HS4.out.a.r2 (HOKq.out.2.mono (by omega))).mono ?_
        rintro e w5 ⟨rfl, hb⟩
        have HS5 := mz (HS4.out.below hb)
        have HW5 := mz (HW4.out.trans (hb.mono HW4.out.size))
        clear hb
        have hcz : Aside0 (n = if sizeP q < sizeP p then sizeP q else sizeP p) := ⟨by rw [HN.out]; split <;> omega⟩
        by_cases hc : sizeP q < sizeP p
        ·have hcn : n = sizeP q := by have := hcz.out; rw [if_pos hc] at this; exact this
         have hci : (sizeP q : Int) < (sizeP p : Int) := by omega
         clear hc
         go_wp2_with fail
         refine (rs_size g2 _ _ _ _ _ HS5.out.a.r2 (HOKq.out.2.mono (by omega))).mono ?_
         rintro e w6 ⟨rfl, hb⟩
         have HS6 := mz (HS5.out.below hb)
         have HW6 := mz (HW5.out.trans (hb.mono HW5.out.size))
         clear hb
         go_wp2_with fail
         rw [← hcn]
         clear hcn hci
         refine (rs_take w.heap.size g1 _ _ p xs _ HS6.out.a.r1 HS6.out.a.le.1 n N1.out HOKp.out HLX.out.1).mono ?_
         rintro e wt1 ⟨rfl, hP⟩
         dsimp only [partV]
         obtain ⟨hb, hk, A1', c1', hst⟩ := HS6.out.rd1 (by decide) (by simp) hP
         have HSt1 := mz hst
         have HWt1 := mz (HW6.out.trans hb)
         have HV1 := mz (⟨own_lt hst.a.row, own_lt hst.b.row⟩ : _ ∧ _)
         clear hb hk hst hP
         go_upto_region 20 with ((with_reducible refine gate_dst (N := 16) rfl ?_); refine bx 16 #[.int .i64 0, .string ⟨#[]⟩, .string ⟨#[]⟩] 86 ?_; intro g16 hg wx hbox hb; have HX1 := mz hg; have Bx := mz hb; have KX := mz hbox; obtain ⟨y0, y1, y2⟩ := cells3 hbox; obtain ⟨z0, z1, z2⟩ := froz3 hbox; clear hg hbox hb)
         have M16 := mz (fillP KX.out rfl (firstP p n).f0 (firstP p n).f1 (firstP p n).f2)
         have By := mz (belowP Bx.out (Nat.le_of_eq HX1.out.symm) (.int .i64 (firstP p n).f0) (.string (firstP p n).f1) (.string (firstP p n).f2))
         have HS7 := mz (HSt1.out.below By.out)
         have HW7 := mz (HWt1.out.trans (By.out.mono HWt1.out.size))
         have HGg16 : Aside0 (wt1.heap.size ≤ g16) := ⟨Nat.le_of_eq HX1.out.symm⟩
         have HLTg16 : Aside0 (g1 < wt1.heap.size ∧ g2 < wt1.heap.size) := ⟨⟨blk_lt HSt1.out.a.r1.blk, blk_lt HSt1.out.a.r2.blk⟩⟩
         clear y0 y1 y2 z0 z1 z2 Bx KX By
         generalize ((wx.setCell ⟨g16, 0, none⟩ (.int .i64 (firstP p n).f0)).setCell ⟨g16, 1, none⟩ (.string (firstP p n).f1)).setCell ⟨g16, 2, none⟩ (.string (firstP p n).f2) = w7 at M16 HS7 HW7  ⊢
         go_wp2_with fail
         refine (rs_take w.heap.size g2 _ _ q ys _ HS7.out.a.r2 HS7.out.a.le.2 n N2.out HOKq.out HLX.out.2).mono ?_
         rintro e wt2 ⟨rfl, hP⟩
         dsimp only [partV]
         obtain ⟨hb, hk, A2', c2', hst⟩ := HS7.out.rd2 (by decide) (by simp) hP
         have HSt2 := mz hst
         have HWt2 := mz (HW7.out.trans hb)
         have HV2 := mz (⟨own_lt hst.a.row, own_lt hst.b.row⟩ : _ ∧ _)
         have M16t := mz ((hk.2 g16 (blk_lt M16.out) (fun e => by have h1 := HGg16.out; have h2 := HLTg16.out; omega)).trans M16.out)
         clear hb hk hst hP
         go_upto_region 21 with ((with_reducible refine gate_dst (N := 17) rfl ?_); refine bx 17 #[.int .i64 0, .string ⟨#[]⟩, .string ⟨#[]⟩] 86 ?_; intro g17 hg wx hbox hb; have HX2 := mz hg; have Bx := mz hb; have KX := mz hbox; obtain ⟨y0, y1, y2⟩ := cells3 hbox; obtain ⟨z0, z1, z2⟩ := froz3 hbox; clear hg hbox hb)
         have M17 := mz (fillP KX.out rfl (firstP q n).f0 (firstP q n).f1 (firstP q n).f2)
         have By := mz (belowP Bx.out (Nat.le_of_eq HX2.out.symm) (.int .i64 (firstP q n).f0) (.string (firstP q n).f1) (.string (firstP q n).f2))
         have HS8 := mz (HSt2.out.below By.out)
         have HW8 := mz (HWt2.out.trans (By.out.mono HWt2.out.size))
         have M16tu := mz (blk_below M16t.out By.out)
         have HGg17 : Aside0 (wt2.heap.size ≤ g17) := ⟨Nat.le_of_eq HX2.out.symm⟩
         have HLTg17 : Aside0 (g1 < wt2.heap.size ∧ g2 < wt2.heap.size) := ⟨⟨blk_lt HSt2.out.a.r1.blk, blk_lt HSt2.out.a.r2.blk⟩⟩
         clear y0 y1 y2 z0 z1 z2 Bx KX By
         generalize ((wx.setCell ⟨g17, 0, none⟩ (.int .i64 (firstP q n).f0)).setCell ⟨g17, 1, none⟩ (.string (firstP q n).f1)).setCell ⟨g17, 2, none⟩ (.string (firstP q n).f2) = w8 at M17 HS8 HW8 M16tu ⊢
         have K1 : Aside0 (0 < (firstP p n).f0 ↔ 0 < p.f0) := ⟨first_posS N0.out HOKp.out.1.1⟩
         have K2 : Aside0 (0 < (firstP q n).f0 ↔ 0 < q.f0) := ⟨first_posS N0.out HOKq.out.1.1⟩
         generalize firstP p n = p1 at *
         generalize firstP q n = q1 at *
         obtain ⟨y0, y1, y2⟩ := cells3 M16tu.out
         obtain ⟨z0, z1, z2⟩ := cells3 M17.out
         by_cases cp : 0 < p.f0
         ·have cp1 : 0 < p1.f0 := K1.out.2 cp
          by_cases cq : 0 < q.f0
          ·have cq1 : 0 < q1.f0 := K2.out.2 cq
           have J := I1.out
           rw [if_pos cq, if_pos cp] at J
           replace J := mz J
           clear cq cp
           go_wp2_with fail
           clear y0 y1 y2 z0 z1 z2
           refine (add_m w.heap.size _ m p1 _ _ HS8.out.a.row HS8.out.a.size HI.out.t.bm HB900.out HI.out.im O1.out).mono ?_
           rintro e w9 ⟨v1', rfl, hP⟩
           obtain ⟨hb, hk, hst⟩ := HS8.out.add1 (by decide) hP
           have HS9 := mz hst
           have HW9 := mz (HW8.out.trans hb)
           have M16tua := mz (blk_add M16tu.out hk HV1.out.1 HGg16.out)
           have M17a := mz (blk_add M17.out hk HV2.out.1 HGg17.out)
           clear hb hk hst hP
           obtain ⟨y0, y1, y2⟩ := cells3 M16tua.out
           obtain ⟨z0, z1, z2⟩ := cells3 M17a.out
           go_wp2_with fail
           clear y0 y1 y2 z0 z1 z2
           refine (add_m w.heap.size _ o q1 _ _ HS9.out.b.row HS9.out.a.size HI.out.t.bo HB900.out HI.out.io O2.out).mono ?_
           rintro e w10 ⟨v2', rfl, hP⟩
           obtain ⟨hb, hk, hst⟩ := HS9.out.add2 (by decide) hP
           have HS10 := mz hst
           have HW10 := mz (HW9.out.trans hb)
           have M16tuaa := mz (blk_add M16tua.out hk HV1.out.2 HGg16.out)
           have M17aa := mz (blk_add M17a.out hk HV2.out.2 HGg17.out)
           clear hb hk hst hP
           go_wp2_with fail
           go_roundg (leftN (cutL p xs n) (cutL q ys n))
           case measure => omega
           case rel => exact ⟨(cutL p xs n), (cutL q ys n), (takeM m p1), (takeM o q1), A1', c1', A2', c2', Nat.le_refl _, ⟨J.out⟩, ⟨HS10.out⟩, ⟨HW10.out⟩⟩
          ·have cq1 : ¬ 0 < q1.f0 := fun e => cq (K2.out.1 e)
           have J := I1.out
           rw [if_neg cq, if_pos cp] at J
           replace J := mz J
           clear cq cp
           go_wp2_with fail
           clear y0 y1 y2 z0 z1 z2
           refine (add_m w.heap.size _ o q1 _ _ HS8.out.b.row HS8.out.a.size HI.out.t.bo HB900.out HI.out.io O2.out).mono ?_
           rintro e w9 ⟨v2', rfl, hP⟩
           obtain ⟨hb, hk, hst⟩ := HS8.out.add2 (by decide) hP
           have HS9 := mz hst
           have HW9 := mz (HW8.out.trans hb)
           have M16tua := mz (blk_add M16tu.out hk HV1.out.2 HGg16.out)
           have M17a := mz (blk_add M17.out hk HV2.out.2 HGg17.out)
           clear hb hk hst hP
           go_wp2_with fail
           go_roundg (leftN (cutL p xs n) (cutL q ys n))
           case measure => omega
           case rel => exact ⟨(cutL p xs n), (cutL q ys n), m, (takeM o q1), A1', c1', A2', c2', Nat.le_refl _, ⟨J.out⟩, ⟨HS9.out⟩, ⟨HW9.out⟩⟩
         ·have cp1 : ¬ 0 < p1.f0 := fun e => cp (K1.out.1 e)
          by_cases cq : 0 < q.f0
          ·have cq1 : 0 < q1.f0 := K2.out.2 cq
           have J := I1.out
           rw [if_pos cq, if_neg cp] at J
           replace J := mz J
           clear cq cp
           go_wp2_with fail
           clear y0 y1 y2 z0 z1 z2
           refine (add_m w.heap.size _ m p1 _ _ HS8.out.a.row HS8.out.a.size HI.out.t.bm HB900.out HI.out.im O1.out).mono ?_
           rintro e w9 ⟨v1', rfl, hP⟩
           obtain ⟨hb, hk, hst⟩ := HS8.out.add1 (by decide) hP
           have HS9 := mz hst
           have HW9 := mz (HW8.out.trans hb)
           have M16tua := mz (blk_add M16tu.out hk HV1.out.1 HGg16.out)
           have M17a := mz (blk_add M17.out hk HV2.out.1 HGg17.out)
           clear hb hk hst hP
           obtain ⟨y0, y1, y2⟩ := cells3 M16tua.out
           obtain ⟨z0, z1, z2⟩ := cells3 M17a.out
           go_wp2_with fail
           go_roundg (leftN (cutL p xs n) (cutL q ys n))
           case measure => omega
           case rel => exact ⟨(cutL p xs n), (cutL q ys n), (takeM m p1), o, A1', c1', A2', c2', Nat.le_refl _, ⟨J.out⟩, ⟨HS9.out⟩, ⟨HW9.out⟩⟩
          ·have cq1 : ¬ 0 < q1.f0 := fun e => cq (K2.out.1 e)
           have J := I1.out
           rw [if_neg cq, if_neg cp] at J
           replace J := mz J
           clear cq cp
           go_wp2_with fail
           go_roundg (leftN (cutL p xs n) (cutL q ys n))
           case measure => omega
           case rel => exact ⟨(cutL p xs n), (cutL q ys n), m, o, A1', c1', A2', c2', Nat.le_refl _, ⟨J.out⟩, ⟨HS8.out⟩, ⟨HW8.out⟩⟩
        ·have hcn : n = sizeP p := by have := hcz.out; rw [if_neg hc] at this; exact this
         have hci : ¬ (sizeP q : Int) < (sizeP p : Int) := by omega
         clear hc
         go_wp2_with fail
         rw [← hcn]
         clear hcn hci
         refine (rs_take w.heap.size g1 _ _ p xs _ HS5.out.a.r1 HS5.out.a.le.1 n N1.out HOKp.out HLX.out.1).mono ?_
         rintro e wt1 ⟨rfl, hP⟩
         dsimp only [partV]
         obtain ⟨hb, hk, A1', c1', hst⟩ := HS5.out.rd1 (by decide) (by simp) hP
         have HSt1 := mz hst
         have HWt1 := mz (HW5.out.trans hb)
         have HV1 := mz (⟨own_lt hst.a.row, own_lt hst.b.row⟩ : _ ∧ _)
         clear hb hk hst hP
         go_upto_region 20 with ((with_reducible refine gate_dst (N := 16) rfl ?_); refine bx 16 #[.int .i64 0, .string ⟨#[]⟩, .string ⟨#[]⟩] 86 ?_; intro g16 hg wx hbox hb; have HX1 := mz hg; have Bx := mz hb; have KX := mz hbox; obtain ⟨y0, y1, y2⟩ := cells3 hbox; obtain ⟨z0, z1, z2⟩ := froz3 hbox; clear hg hbox hb)
         have M16 := mz (fillP KX.out rfl (firstP p n).f0 (firstP p n).f1 (firstP p n).f2)
         have By := mz (belowP Bx.out (Nat.le_of_eq HX1.out.symm) (.int .i64 (firstP p n).f0) (.string (firstP p n).f1) (.string (firstP p n).f2))
         have HS6 := mz (HSt1.out.below By.out)
         have HW6 := mz (HWt1.out.trans (By.out.mono HWt1.out.size))
         have HGg16 : Aside0 (wt1.heap.size ≤ g16) := ⟨Nat.le_of_eq HX1.out.symm⟩
         have HLTg16 : Aside0 (g1 < wt1.heap.size ∧ g2 < wt1.heap.size) := ⟨⟨blk_lt HSt1.out.a.r1.blk, blk_lt HSt1.out.a.r2.blk⟩⟩
         clear y0 y1 y2 z0 z1 z2 Bx KX By
         generalize ((wx.setCell ⟨g16, 0, none⟩ (.int .i64 (firstP p n).f0)).setCell ⟨g16, 1, none⟩ (.string (firstP p n).f1)).setCell ⟨g16, 2, none⟩ (.string (firstP p n).f2) = w6 at M16 HS6 HW6  ⊢
         go_wp2_with fail
         refine (rs_take w.heap.size g2 _ _ q ys _ HS6.out.a.r2 HS6.out.a.le.2 n N2.out HOKq.out HLX.out.2).mono ?_
         rintro e wt2 ⟨rfl, hP⟩
         dsimp only [partV]
         obtain ⟨hb, hk, A2', c2', hst⟩ := HS6.out.rd2 (by decide) (by simp) hP
         have HSt2 := mz hst
         have HWt2 := mz (HW6.out.trans hb)
         have HV2 := mz (⟨own_lt hst.a.row, own_lt hst.b.row⟩ : _ ∧ _)
         have M16t := mz ((hk.2 g16 (blk_lt M16.out) (fun e => by have h1 := HGg16.out; have h2 := HLTg16.out; omega)).trans M16.out)
         clear hb hk hst hP
         go_upto_region 21 with ((with_reducible refine gate_dst (N := 17) rfl ?_); refine bx 17 #[.int .i64 0, .string ⟨#[]⟩, .string ⟨#[]⟩] 86 ?_; intro g17 hg wx hbox hb; have HX2 := mz hg; have Bx := mz hb; have KX := mz hbox; obtain ⟨y0, y1, y2⟩ := cells3 hbox; obtain ⟨z0, z1, z2⟩ := froz3 hbox; clear hg hbox hb)
         have M17 := mz (fillP KX.out rfl (firstP q n).f0 (firstP q n).f1 (firstP q n).f2)
         have By := mz (belowP Bx.out (Nat.le_of_eq HX2.out.symm) (.int .i64 (firstP q n).f0) (.string (firstP q n).f1) (.string (firstP q n).f2))
         have HS7 := mz (HSt2.out.below By.out)
         have HW7 := mz (HWt2.out.trans (By.out.mono HWt2.out.size))
         have M16tu := mz (blk_below M16t.out By.out)
         have HGg17 : Aside0 (wt2.heap.size ≤ g17) := ⟨Nat.le_of_eq HX2.out.symm⟩
         have HLTg17 : Aside0 (g1 < wt2.heap.size ∧ g2 < wt2.heap.size) := ⟨⟨blk_lt HSt2.out.a.r1.blk, blk_lt HSt2.out.a.r2.blk⟩⟩
         clear y0 y1 y2 z0 z1 z2 Bx KX By
         generalize ((wx.setCell ⟨g17, 0, none⟩ (.int .i64 (firstP q n).f0)).setCell ⟨g17, 1, none⟩ (.string (firstP q n).f1)).setCell ⟨g17, 2, none⟩ (.string (firstP q n).f2) = w7 at M17 HS7 HW7 M16tu ⊢
         have K1 : Aside0 (0 < (firstP p n).f0 ↔ 0 < p.f0) := ⟨first_posS N0.out HOKp.out.1.1⟩
         have K2 : Aside0 (0 < (firstP q n).f0 ↔ 0 < q.f0) := ⟨first_posS N0.out HOKq.out.1.1⟩
         generalize firstP p n = p1 at *
         generalize firstP q n = q1 at *
         obtain ⟨y0, y1, y2⟩ := cells3 M16tu.out
         obtain ⟨z0, z1, z2⟩ := cells3 M17.out
         by_cases cp : 0 < p.f0
         ·have cp1 : 0 < p1.f0 := K1.out.2 cp
          by_cases cq : 0 < q.f0
          ·have cq1 : 0 < q1.f0 := K2.out.2 cq
           have J := I1.out
           rw [if_pos cq, if_pos cp] at J
           replace J := mz J
           clear cq cp
           go_wp2_with fail
           clear y0 y1 y2 z0 z1 z2
           refine (add_m w.heap.size _ m p1 _ _ HS7.out.a.row HS7.out.a.size HI.out.t.bm HB900.out HI.out.im O1.out).mono ?_
           rintro e w8 ⟨v1', rfl, hP⟩
           obtain ⟨hb, hk, hst⟩ := HS7.out.add1 (by decide) hP
           have HS8 := mz hst
           have HW8 := mz (HW7.out.trans hb)
           have M16tua := mz (blk_add M16tu.out hk HV1.out.1 HGg16.out)
           have M17a := mz (blk_add M17.out hk HV2.out.1 HGg17.out)
           clear hb hk hst hP
           obtain ⟨y0, y1, y2⟩ := cells3 M16tua.out
           obtain ⟨z0, z1, z2⟩ := cells3 M17a.out
           go_wp2_with fail
           clear y0 y1 y2 z0 z1 z2
           refine (add_m w.heap.size _ o q1 _ _ HS8.out.b.row HS8.out.a.size HI.out.t.bo HB900.out HI.out.io O2.out).mono ?_
           rintro e w9 ⟨v2', rfl, hP⟩
           obtain ⟨hb, hk, hst⟩ := HS8.out.add2 (by decide) hP
           have HS9 := mz hst
           have HW9 := mz (HW8.out.trans hb)
           have M16tuaa := mz (blk_add M16tua.out hk HV1.out.2 HGg16.out)
           have M17aa := mz (blk_add M17a.out hk HV2.out.2 HGg17.out)
           clear hb hk hst hP
           go_wp2_with fail
           go_roundg (leftN (cutL p xs n) (cutL q ys n))
           case measure => omega
           case rel => exact ⟨(cutL p xs n), (cutL q ys n), (takeM m p1), (takeM o q1), A1', c1', A2', c2', Nat.le_refl _, ⟨J.out⟩, ⟨HS9.out⟩, ⟨HW9.out⟩⟩
          ·have cq1 : ¬ 0 < q1.f0 := fun e => cq (K2.out.1 e)
           have J := I1.out
           rw [if_neg cq, if_pos cp] at J
           replace J := mz J
           clear cq cp
           go_wp2_with fail
           clear y0 y1 y2 z0 z1 z2
           refine (add_m w.heap.size _ o q1 _ _ HS7.out.b.row HS7.out.a.size HI.out.t.bo HB900.out HI.out.io O2.out).mono ?_
           rintro e w8 ⟨v2', rfl, hP⟩
           obtain ⟨hb, hk, hst⟩ := HS7.out.add2 (by decide) hP
           have HS8 := mz hst
           have HW8 := mz (HW7.out.trans hb)
           have M16tua := mz (blk_add M16tu.out hk HV1.out.2 HGg16.out)
           have M17a := mz (blk_add M17.out hk HV2.out.2 HGg17.out)
           clear hb hk hst hP
           go_wp2_with fail
           go_roundg (leftN (cutL p xs n) (cutL q ys n))
           case measure => omega
           case rel => exact ⟨(cutL p xs n), (cutL q ys n), m, (takeM o q1), A1', c1', A2', c2', Nat.le_refl _, ⟨J.out⟩, ⟨HS8.out⟩, ⟨HW8.out⟩⟩
         ·have cp1 : ¬ 0 < p1.f0 := fun e => cp (K1.out.1 e)
          by_cases cq : 0 < q.f0
          ·have cq1 : 0 < q1.f0 := K2.out.2 cq
           have J := I1.out
           rw [if_pos cq, if_neg cp] at J
           replace J := mz J
           clear cq cp
           go_wp2_with fail
           clear y0 y1 y2 z0 z1 z2
           refine (add_m w.heap.size _ m p1 _ _ HS7.out.a.row HS7.out.a.size HI.out.t.bm HB900.out HI.out.im O1.out).mono ?_
           rintro e w8 ⟨v1', rfl, hP⟩
           obtain ⟨hb, hk, hst⟩ := HS7.out.add1 (by decide) hP
           have HS8 := mz hst
           have HW8 := mz (HW7.out.trans hb)
           have M16tua := mz (blk_add M16tu.out hk HV1.out.1 HGg16.out)
           have M17a := mz (blk_add M17.out hk HV2.out.1 HGg17.out)
           clear hb hk hst hP
           obtain ⟨y0, y1, y2⟩ := cells3 M16tua.out
           obtain ⟨z0, z1, z2⟩ := cells3 M17a.out
           go_wp2_with fail
           go_roundg (leftN (cutL p xs n) (cutL q ys n))
           case measure => omega
           case rel => exact ⟨(cutL p xs n), (cutL q ys n), (takeM m p1), o, A1', c1', A2', c2', Nat.le_refl _, ⟨J.out⟩, ⟨HS8.out⟩, ⟨HW8.out⟩⟩
          ·have cq1 : ¬ 0 < q1.f0 := fun e => cq (K2.out.1 e)
           have J := I1.out
           rw [if_neg cq, if_neg cp] at J
           replace J := mz J
           clear cq cp
           go_wp2_with fail
           go_roundg (leftN (cutL p xs n) (cutL q ys n))
           case measure => omega
           case rel => exact ⟨(cutL p xs n), (cutL q ys n), m, o, A1', c1', A2', c2', Nat.le_refl _, ⟨J.out⟩, ⟨HS7.out⟩, ⟨HW7.out⟩⟩
       ·have l_qf1 : ¬ (q.f1.toList = []) := fun e => hq ((toList_nil _).1 e)
        have e_qf1 : q.f1.toList.isEmpty = false := by cases hh : q.f1.toList with | nil => exact absurd hh l_qf1 | cons _ _ => rfl
        obtain ⟨hI1, hlt⟩ := HI.out.putR hq (fun p' l e => by injection e with e1 e2; subst e1; exact hd)
        have HI1 := mz hI1
        have HNZ := mz hq
        have HOKq := mz (HI.out.t.fy q List.mem_cons_self)
        have HLX : Aside0 (xs.length ≤ 100000 ∧ ys.length ≤ 100000) := ⟨by have h1 := len_le_units _ HI.out.t.fx; have h2 := len_le_units _ HI.out.t.fy; have h3 := HI.out.t.tot; unfold leftN at h3; simp only [List.length_cons, List.length_nil] at h1 h2 ⊢; omega⟩
        obtain ⟨ad2, rfl, _⟩ := rd_first HS0.out.a.r2.row
        obtain ⟨ad1, rfl, _⟩ := rd_first HS0.out.a.r1.row
        clear hI1 hq
        have l_pf1 : p.f1.toList = [] := (toList_nil _).2 hd
        have e_pf1 : p.f1.toList.isEmpty = true := by rw [l_pf1]; rfl
        clear hd
        go_wp2_with fail
        refine (rs_done_cons g1 _ _ _ _ _ HS0.out.a.r1).mono ?_
        rintro e w1 ⟨rfl, hb⟩
        have HS1 := mz (HS0.out.below hb)
        have HW1 := mz (HW0.out.trans (hb.mono HW0.out.size))
        clear hb
        go_wp2_with fail
        refine (rs_done_cons g1 _ _ _ _ _ HS1.out.a.r1).mono ?_
        rintro e w2 ⟨rfl, hb⟩
        have HS2 := mz (HS1.out.below hb)
        have HW2 := mz (HW1.out.trans (hb.mono HW1.out.size))
        clear hb
        have ac := rd_cell HS2.out.a.r1
        simp only [List.length_cons] at ac
        obtain ⟨_, e_, a0, a1, a2⟩ := rd_first HS2.out.a.r1.row
        cases e_
        go_wp2_with fail
        clear ac a0 a1 a2
        refine (rs_done_cons g2 _ _ _ _ _ HS2.out.a.r2).mono ?_
        rintro e w3 ⟨rfl, hb⟩
        have HS3 := mz (HS2.out.below hb)
        have HW3 := mz (HW2.out.trans (hb.mono HW2.out.size))
        clear hb
        have bc := rd_cell HS3.out.a.r2
        simp only [List.length_cons] at bc
        obtain ⟨_, e_, b0, b1, b2⟩ := rd_first HS3.out.a.r2.row
        cases e_
        go_wp2_with fail
        clear bc b0 b1 b2
        refine (rs_size g2 _ _ _ _ _ HS3.out.a.r2 (HOKq.out.2.mono (by omega))).mono ?_
        rintro e w4 ⟨rfl, hb⟩
        have HS4 := mz (HS3.out.below hb)
        have HW4 := mz (HW3.out.trans (hb.mono HW3.out.size))
        clear hb
        go_wp2_with fail
        refine (rs_take w.heap.size g2 _ _ q ys _ HS4.out.a.r2 HS4.out.a.le.2 (sizeP q) (Nat.le_refl _) HOKq.out HLX.out.2).mono ?_
        rintro e wt2 ⟨rfl, hP⟩
        rw [(first_full HOKq.out.1).1]
        rw [(first_full HOKq.out.1).2] at hP
        dsimp only [partV]
        obtain ⟨hb, hk, A2', c2', hst⟩ := HS4.out.rd2 (by decide) (by simp) hP
        have HSt2 := mz hst
        have HWt2 := mz (HW4.out.trans hb)
        have HV2 := mz (⟨own_lt hst.a.row, own_lt hst.b.row⟩ : _ ∧ _)
        clear hb hk hst hP
        go_upto_region 14 with ((with_reducible refine gate_dst (N := 14) rfl ?_); refine bx 14 #[.int .i64 0, .string ⟨#[]⟩, .string ⟨#[]⟩] 86 ?_; intro g14 hg wx hbox hb; have HX2 := mz hg; have Bx := mz hb; have KX := mz hbox; obtain ⟨y0, y1, y2⟩ := cells3 hbox; obtain ⟨z0, z1, z2⟩ := froz3 hbox; clear hg hbox hb)
        have M14 := mz (fillP KX.out rfl q.f0 q.f1 q.f2)
        have By := mz (belowP Bx.out (Nat.le_of_eq HX2.out.symm) (.int .i64 q.f0) (.string q.f1) (.string q.f2))
        have HS5 := mz (HSt2.out.below By.out)
        have HW5 := mz (HWt2.out.trans (By.out.mono HWt2.out.size))
        have HGg14 : Aside0 (wt2.heap.size ≤ g14) := ⟨Nat.le_of_eq HX2.out.symm⟩
        have HLTg14 : Aside0 (g1 < wt2.heap.size ∧ g2 < wt2.heap.size) := ⟨⟨blk_lt HSt2.out.a.r1.blk, blk_lt HSt2.out.a.r2.blk⟩⟩
        clear y0 y1 y2 z0 z1 z2 Bx KX By
        generalize ((wx.setCell ⟨g14, 0, none⟩ (.int .i64 q.f0)).setCell ⟨g14, 1, none⟩ (.string q.f1)).setCell ⟨g14, 2, none⟩ (.string q.f2) = w5 at M14 HS5 HW5  ⊢
        obtain ⟨y0, y1, y2⟩ := cells3 M14.out
        go_wp2_with fail
        clear y0 y1 y2
        refine (add_m w.heap.size _ o q _ _ HS5.out.b.row HS5.out.a.size HI.out.t.bo HB900.out HI.out.io HOKq.out).mono ?_
        rintro e w6 ⟨v2', rfl, hP⟩
        obtain ⟨hb, hk, hst⟩ := HS5.out.add2 (by decide) hP
        have HS6 := mz hst
        have HW6 := mz (HW5.out.trans hb)
        have M14a := mz (blk_add M14.out hk HV2.out.2 HGg14.out)
        clear hb hk hst hP
        obtain ⟨y0, y1, y2⟩ := cells3 M14a.out
        go_wp2_with fail
        clear y0 y1 y2
        refine (add_n w.heap.size _ m q.f1.size _ _ HS6.out.a.row HS6.out.a.size HI.out.t.bm HB900.out HI.out.im HNZ.out (put_le HOKq.out)).mono ?_
        rintro e w7 ⟨v1', rfl, hP⟩
        obtain ⟨hb, hk, hst⟩ := HS6.out.add1 (by decide) hP
        have HS7 := mz hst
        have HW7 := mz (HW6.out.trans hb)
        have M14aa := mz (blk_add M14a.out hk HV2.out.1 HGg14.out)
        clear hb hk hst hP
        go_wp2_with fail
        go_roundg (leftN (p :: xs) ys)
        case measure => omega
        case rel => exact ⟨(p :: xs), ys, (keepM q.f1.size m), (takeM o q), (some ad1), cx, A2', c2', Nat.le_refl _, ⟨HI1.out⟩, ⟨HS7.out⟩, ⟨HW7.out⟩⟩
     ·have l_pf1 : ¬ (p.f1.toList = []) := fun e => hd ((toList_nil _).1 e)
      have e_pf1 : p.f1.toList.isEmpty = false := by cases hh : p.f1.toList with | nil => exact absurd hh l_pf1 | cons _ _ => rfl
      obtain ⟨hI1, hlt⟩ := HI.out.putL hd
      have HI1 := mz hI1
      have HNZ := mz hd
      have HOKp := mz (HI.out.t.fx p List.mem_cons_self)
      have HLX : Aside0 (xs.length ≤ 100000 ∧ ys.length ≤ 100000) := ⟨by have h1 := len_le_units _ HI.out.t.fx; have h2 := len_le_units _ HI.out.t.fy; have h3 := HI.out.t.tot; unfold leftN at h3; simp only [List.length_cons, List.length_nil] at h1 h2 ⊢; omega⟩
      obtain ⟨ad, rfl, _⟩ := rd_first HS0.out.a.r1.row
      clear hI1 hd
      go_wp2_with fail
      refine (rs_done_cons g1 _ _ _ _ _ HS0.out.a.r1).mono ?_
      rintro e w1 ⟨rfl, hb⟩
      have HS1 := mz (HS0.out.below hb)
      have HW1 := mz (HW0.out.trans (hb.mono HW0.out.size))
      clear hb
      go_wp2_with fail
      refine (rs_done_cons g1 _ _ _ _ _ HS1.out.a.r1).mono ?_
      rintro e w2 ⟨rfl, hb⟩
      have HS2 := mz (HS1.out.below hb)
      have HW2 := mz (HW1.out.trans (hb.mono HW1.out.size))
      clear hb
      have ac := rd_cell HS2.out.a.r1
      simp only [List.length_cons] at ac
      obtain ⟨_, e_, a0, a1, a2⟩ := rd_first HS2.out.a.r1.row
      cases e_
      go_wp2_with fail
      clear ac a0 a1 a2
      refine (rs_size g1 _ _ _ _ _ HS2.out.a.r1 (HOKp.out.2.mono (by omega))).mono ?_
      rintro e w3 ⟨rfl, hb⟩
      have HS3 := mz (HS2.out.below hb)
      have HW3 := mz (HW2.out.trans (hb.mono HW2.out.size))
      clear hb
      go_wp2_with fail
      refine (rs_take w.heap.size g1 _ _ p xs _ HS3.out.a.r1 HS3.out.a.le.1 (sizeP p) (Nat.le_refl _) HOKp.out HLX.out.1).mono ?_
      rintro e wt1 ⟨rfl, hP⟩
      rw [(first_full HOKp.out.1).1]
      rw [(first_full HOKp.out.1).2] at hP
      dsimp only [partV]
      obtain ⟨hb, hk, A1', c1', hst⟩ := HS3.out.rd1 (by decide) (by simp) hP
      have HSt1 := mz hst
      have HWt1 := mz (HW3.out.trans hb)
      have HV1 := mz (⟨own_lt hst.a.row, own_lt hst.b.row⟩ : _ ∧ _)
      clear hb hk hst hP
      go_upto_region 10 with ((with_reducible refine gate_dst (N := 13) rfl ?_); refine bx 13 #[.int .i64 0, .string ⟨#[]⟩, .string ⟨#[]⟩] 86 ?_; intro g13 hg wx hbox hb; have HX1 := mz hg; have Bx := mz hb; have KX := mz hbox; obtain ⟨y0, y1, y2⟩ := cells3 hbox; obtain ⟨z0, z1, z2⟩ := froz3 hbox; clear hg hbox hb)
      have M13 := mz (fillP KX.out rfl p.f0 p.f1 p.f2)
      have By := mz (belowP Bx.out (Nat.le_of_eq HX1.out.symm) (.int .i64 p.f0) (.string p.f1) (.string p.f2))
      have HS4 := mz (HSt1.out.below By.out)
      have HW4 := mz (HWt1.out.trans (By.out.mono HWt1.out.size))
      have HGg13 : Aside0 (wt1.heap.size ≤ g13) := ⟨Nat.le_of_eq HX1.out.symm⟩
      have HLTg13 : Aside0 (g1 < wt1.heap.size ∧ g2 < wt1.heap.size) := ⟨⟨blk_lt HSt1.out.a.r1.blk, blk_lt HSt1.out.a.r2.blk⟩⟩
      clear y0 y1 y2 z0 z1 z2 Bx KX By
      generalize ((wx.setCell ⟨g13, 0, none⟩ (.int .i64 p.f0)).setCell ⟨g13, 1, none⟩ (.string p.f1)).setCell ⟨g13, 2, none⟩ (.string p.f2) = w4 at M13 HS4 HW4  ⊢
      obtain ⟨y0, y1, y2⟩ := cells3 M13.out
      go_wp2_with fail
      clear y0 y1 y2
      refine (add_m w.heap.size _ m p _ _ HS4.out.a.row HS4.out.a.size HI.out.t.bm HB900.out HI.out.im HOKp.out).mono ?_
      rintro e w5 ⟨v1', rfl, hP⟩
      obtain ⟨hb, hk, hst⟩ := HS4.out.add1 (by decide) hP
      have HS5 := mz hst
      have HW5 := mz (HW4.out.trans hb)
      have M13a := mz (blk_add M13.out hk HV1.out.1 HGg13.out)
      clear hb hk hst hP
      obtain ⟨y0, y1, y2⟩ := cells3 M13a.out
      go_wp2_with fail
      clear y0 y1 y2
      refine (add_n w.heap.size _ o p.f1.size _ _ HS5.out.b.row HS5.out.a.size HI.out.t.bo HB900.out HI.out.io HNZ.out (put_le HOKp.out)).mono ?_
      rintro e w6 ⟨v2', rfl, hP⟩
      obtain ⟨hb, hk, hst⟩ := HS5.out.add2 (by decide) hP
      have HS6 := mz hst
      have HW6 := mz (HW5.out.trans hb)
      have M13aa := mz (blk_add M13a.out hk HV1.out.2 HGg13.out)
      clear hb hk hst hP
      go_wp2_with fail
      go_roundg (leftN xs ys)
      case measure => omega
      case rel => exact ⟨xs, ys, (takeM m p), (keepM p.f1.size o), A1', c1', Ay, cy, Nat.le_refl _, ⟨HI1.out⟩, ⟨HS6.out⟩, ⟨HW6.out⟩⟩
section
attribute [local go_sem] max2_int min2_int max_two min_two max_three min_three max_four min_four
def spec_TransformOps.j0 : Nat → List (S86) → List (S86) → Bool → Option ((List (S86)) × (List (S86)) × Bool)
 | 0, _, _, _ => none
 | k + 1, x0, x1, x17 => if x17 = true then (some (([] : List (S86)), ([] : List (S86)), false)) else ((spec_l4Transform.f x0 x1).bind fun bt103 => (if bt103.2.2 = true then ((spec_GoodOp.f k bt103.1).bind fun t110 => (if t110 = true then ((spec_GoodOp.f k bt103.2.1).bind fun t111 => (if t111 = true then (some (bt103.1, bt103.2.1, true)) else (some (([] : List (S86)), ([] : List (S86)), false)))) else (some (([] : List (S86)), ([] : List (S86)), false)))) else (some (([] : List (S86)), ([] : List (S86)), false))))
def spec_TransformOps.f (k : Nat) (l0 : List (S86)) (l1 : List (S86)) : Option ((List (S86)) × (List (S86)) × Bool) := (spec_GoodOp.f k l0).bind fun t101 => (if t101 = true then ((spec_GoodOp.f k l1).bind fun t102 => (spec_TransformOps.j0 k l0 l1 (!t102))) else (spec_TransformOps.j0 k l0 l1 true))
set_option maxHeartbeats 8000000 in
set_option maxRecDepth 100000 in
theorem spec_TransformOps.calls (k : Nat) (A0 : Option Addr) (c0 : Nat) (l0 : List (S86)) (A1 : Option Addr) (c1 : Nat) (l1 : List (S86)) (r1 : List (S86)) (r2 : List (S86)) (r3 : Bool) (w : World) (hr0 : Kd.C k86 w A0 l0.length l0) (hc0 : l0.length ≤ c0) (hr1 : Kd.C k86 w A1 l1.length l1) (hc1 : l1.length ≤ c1) (h : spec_TransformOps.f k l0 l1 = some (r1, r2, r3)) :
  Calls Try.prog 73 #[.slice A0 l0.length c0, .slice A1 l1.length c1] w fun e w' => ∃ v0_ v1_ : Value, e = .returned (.tuple #[v0_, v1_, .bool r3]) ∧ Kd.R k86 86 w' w.heap.size (fun k_ => some k_ ≠ (v1_ : Value).ownBlock) v0_ r1 ∧ Kd.R k86 86 w' w.heap.size (fun k_ => some k_ ≠ (v0_ : Value).ownBlock) v1_ r2 ∧ Below w.heap.size w w' := by
 have HR0 := mz hr0
 have HC0 := mz hc0
 clear hr0 hc0
 have HR1 := mz hr1
 have HC1 := mz hc1
 clear hr1 hc1
 have HB := mz (Below.refl w.heap.size w)
 have H : ((spec_GoodOp.f k l0).bind fun t101 => (if t101 = true then ((spec_GoodOp.f k l1).bind fun t102 => (spec_TransformOps.j0 k l0 l1 (!t102))) else (spec_TransformOps.j0 k l0 l1 true))) = some (r1, r2, r3) := h
 clear h
 have HC3 := mz H
 clear H
 go_enter Try.func73, Try.ntmps73
 go_upto_region 1 with (fail)
 go_cut [17] (fun v17 wc => ∃ (kq : Nat) (x17_2 : Bool), v17 = .bool x17_2 ∧ Aside0 (spec_TransformOps.j0 kq l0 l1 x17_2 = some (r1, r2, r3)) ∧ Aside0 (kq ≤ k) ∧ Aside0 (Below w.heap.size w wc))
 case first =>
  have H := HC3.out
  clear HC3
  replace H := be0_ H
  obtain ⟨t101, A40, H⟩ := H
  replace H : (if t101 = true then ((spec_GoodOp.f k l1).bind fun t102 => (spec_TransformOps.j0 k l0 l1 (!t102))) else (spec_TransformOps.j0 k l0 l1 true)) = some (r1, r2, r3) := H
  have A4 := mz A40
  clear A40
  by_cases c5 : t101 = true
  ·subst c5
   have H1 : ((spec_GoodOp.f k l1).bind fun t102 => (spec_TransformOps.j0 k l0 l1 (!t102))) = some (r1, r2, r3) := by rw [if_pos rfl] at H; exact H
   clear H
   have H := H1
   clear H1
   replace H := be0_ H
   obtain ⟨t102, A60, H⟩ := H
   replace H : (spec_TransformOps.j0 k l0 l1 (!t102)) = some (r1, r2, r3) := H
   have A6 := mz A60
   clear A60
   have H' := mz H
   clear H
   go_wp2_with (first | ((with_reducible refine gate_callee (f := 44) rfl ?_); refine goesL_ (some 11) rfl rfl Try.func44 (by kernel_rfl) rfl #[.slice A0 l0.length c0] rfl a11_ ?_; (with_reducible refine (spec_GoodOp.calls k _ _ l0 true _ ?side1 ?side2 A4.out).mono ?_); (case side1 => repeat (first | exact (Kd.C_below HR0.out HB.out) | (with_reducible refine Kd.C_alloc ?_ _) | (with_reducible refine Kd.C_drewN ?_ _) | (with_reducible refine Kd.C_drew ?_))); (case side2 => exact HC0.out); rintro e w7 ⟨rfl, hb⟩; refine ⟨_, rfl, ?_⟩; have n0_ := mz (bs0_ hb); clear HB; have HB := n0_; clear n0_; (try clear hb); (try clear hb2); (try clear hk); (try clear hi)) | (go_at_call 44; (with_reducible refine (spec_GoodOp.calls k _ _ l1 t102 _ ?side1 ?side2 A6.out).mono ?_); (case side1 => repeat (first | exact (Kd.C_below HR1.out HB.out) | (with_reducible refine Kd.C_alloc ?_ _) | (with_reducible refine Kd.C_drewN ?_ _) | (with_reducible refine Kd.C_drew ?_))); (case side2 => exact HC1.out); rintro e w8 ⟨rfl, hb⟩; have n0_ := mz (bs0_ hb); clear HB; have HB := n0_; clear n0_; (try clear hb); (try clear hb2); (try clear hk); (try clear hi)))
   go_meet
   case rel => exact ⟨_, (!t102), a30_, H', ⟨by first | omega | exact Nat.le_refl _⟩, ⟨by repeat (first | (with_reducible first | exact HB.out | apply below_alloc | apply pw_below_drewN | apply below_drew1) | exact HB.out)⟩⟩
  ·replace c5 := Bool.eq_false_iff.mpr c5
   subst c5
   have H1 : (spec_TransformOps.j0 k l0 l1 true) = some (r1, r2, r3) := by rw [if_neg (show ¬ (false = true) by decide)] at H; exact H
   clear H
   have H := H1
   clear H1
   have H' := mz H
   clear H
   go_wp2_with (first | ((with_reducible refine gate_callee (f := 44) rfl ?_); refine goesL_ (some 11) rfl rfl Try.func44 (by kernel_rfl) rfl #[.slice A0 l0.length c0] rfl a11_ ?_; (with_reducible refine (spec_GoodOp.calls k _ _ l0 false _ ?side1 ?side2 A4.out).mono ?_); (case side1 => repeat (first | exact (Kd.C_below HR0.out HB.out) | (with_reducible refine Kd.C_alloc ?_ _) | (with_reducible refine Kd.C_drewN ?_ _) | (with_reducible refine Kd.C_drew ?_))); (case side2 => exact HC0.out); rintro e w9 ⟨rfl, hb⟩; refine ⟨_, rfl, ?_⟩; have n0_ := mz (bs0_ hb); clear HB; have HB := n0_; clear n0_; (try clear hb); (try clear hb2); (try clear hk); (try clear hi)))
   go_meet
   case rel => exact ⟨_, (true), a30_, H', ⟨by first | omega | exact Nat.le_refl _⟩, ⟨by repeat (first | (with_reducible first | exact HB.out | apply below_alloc | apply pw_below_drewN | apply below_drew1) | exact HB.out)⟩⟩
 case rest =>
  clear HC3
  try clear c1
  try clear p2
  try clear c4
  try clear c5
  try clear c7
  obtain ⟨kq, x17_2, rfl, HA, HJ2, HB⟩ := hcut
  cases kq with
  | zero => exact absurd HA.out (by simp [spec_TransformOps.j0])
  | succ kj2 =>
   have H := HA.out
   clear HA
   simp only [spec_TransformOps.j0] at H
   by_cases c10 : x17_2 = true
   ·subst c10
    have H1 : (some (([] : List (S86)), ([] : List (S86)), false)) = some (r1, r2, r3) := by rw [if_pos rfl] at H; exact H
    clear H
    have H := H1
    clear H1
    simp only [Option.some.injEq, Prod.mk.injEq] at H
    obtain ⟨rfl, rfl, rfl⟩ := H
    go_wp2
    go_ret3
    exact ⟨_, _, a27_, a10_, a10_, a12_⟩
   ·replace c10 := Bool.eq_false_iff.mpr c10
    subst c10
    have H1 : ((spec_l4Transform.f l0 l1).bind fun bt103 => (if bt103.2.2 = true then ((spec_GoodOp.f kj2 bt103.1).bind fun t110 => (if t110 = true then ((spec_GoodOp.f kj2 bt103.2.1).bind fun t111 => (if t111 = true then (some (bt103.1, bt103.2.1, true)) else (some (([] : List (S86)), ([] : List (S86)), false)))) else (some (([] : List (S86)), ([] : List (S86)), false)))) else (some (([] : List (S86)), ([] : List (S86)), false)))) = some (r1, r2, r3) := by rw [if_neg (show ¬ (false = true) by decide)] at H; exact H
    clear H
    have H := H1
    clear H1
    replace H := be0_ H
    obtain ⟨⟨t103, t104, t105⟩, A110, H⟩ := H
    replace H : (if t105 = true then ((spec_GoodOp.f kj2 t103).bind fun t110 => (if t110 = true then ((spec_GoodOp.f kj2 t104).bind fun t111 => (if t111 = true then (some (t103, t104, true)) else (some (([] : List (S86)), ([] : List (S86)), false)))) else (some (([] : List (S86)), ([] : List (S86)), false)))) else (some (([] : List (S86)), ([] : List (S86)), false))) = some (r1, r2, r3) := H
    have A11 := mz A110
    clear A110
    by_cases c12 : t105 = true
    ·subst c12
     have H1 : ((spec_GoodOp.f kj2 t103).bind fun t110 => (if t110 = true then ((spec_GoodOp.f kj2 t104).bind fun t111 => (if t111 = true then (some (t103, t104, true)) else (some (([] : List (S86)), ([] : List (S86)), false)))) else (some (([] : List (S86)), ([] : List (S86)), false)))) = some (r1, r2, r3) := by rw [if_pos rfl] at H; exact H
     clear H
     have H := H1
     clear H1
     replace H := be0_ H
     obtain ⟨t110, A130, H⟩ := H
     replace H : (if t110 = true then ((spec_GoodOp.f kj2 t104).bind fun t111 => (if t111 = true then (some (t103, t104, true)) else (some (([] : List (S86)), ([] : List (S86)), false)))) else (some (([] : List (S86)), ([] : List (S86)), false))) = some (r1, r2, r3) := H
     have A13 := mz A130
     clear A130
     by_cases c14 : t110 = true
     ·subst c14
      have H1 : ((spec_GoodOp.f kj2 t104).bind fun t111 => (if t111 = true then (some (t103, t104, true)) else (some (([] : List (S86)), ([] : List (S86)), false)))) = some (r1, r2, r3) := by rw [if_pos rfl] at H; exact H
      clear H
      have H := H1
      clear H1
      replace H := be0_ H
      obtain ⟨t111, A150, H⟩ := H
      replace H : (if t111 = true then (some (t103, t104, true)) else (some (([] : List (S86)), ([] : List (S86)), false))) = some (r1, r2, r3) := H
      have A15 := mz A150
      clear A150
      by_cases c16 : t111 = true
      ·subst c16
       have H1 : (some (t103, t104, true)) = some (r1, r2, r3) := by rw [if_pos rfl] at H; exact H
       clear H
       have H := H1
       clear H1
       simp only [Option.some.injEq, Prod.mk.injEq] at H
       obtain ⟨rfl, rfl, rfl⟩ := H
       go_wp2_with (first | ((with_reducible refine gate_callee (f := 115) rfl ?_); refine goesL_ (some 21) rfl rfl Try.func115 (by kernel_rfl) rfl #[.slice A0 l0.length c0, .slice A1 l1.length c1] rfl a11_ ?_; (with_reducible refine (spec_l4Transform.calls _ _ l0 _ _ l1 t103 t104 true _ ?side1 ?side2 ?side3 ?side4 A11.out).mono ?_); (case side1 => repeat (first | exact (Kd.C_below HR0.out HB.out) | (with_reducible refine Kd.C_alloc ?_ _) | (with_reducible refine Kd.C_drewN ?_ _) | (with_reducible refine Kd.C_drew ?_))); (case side2 => exact HC0.out); (case side3 => repeat (first | exact (Kd.C_below HR1.out HB.out) | (with_reducible refine Kd.C_alloc ?_ _) | (with_reducible refine Kd.C_drewN ?_ _) | (with_reducible refine Kd.C_drew ?_))); (case side4 => exact HC1.out); rintro e w17 ⟨v106, v108, rfl, ho0, ho1, hb⟩; refine ⟨_, rfl, ?_⟩; have n0_ := mz (Kd.R_lower ho0 bz1_); have n1_ := mz (Kd.R_lower ho1 bz1_); have n2_ := mz (bs0_ hb); clear HB; have HO107 := n0_; have HO109 := n1_; have HB := n2_; clear n0_ n1_ n2_; (try clear hb); (try clear hb2); (try clear hk); (try clear hi); (try clear ho0); (try clear ho1); obtain ⟨Ao18, co18, eo18⟩ := Kd.R_slice HO107.out; subst eo18) | (go_at_call 44; (with_reducible refine (spec_GoodOp.calls kj2 _ _ t103 true _ ?side1 ?side2 A13.out).mono ?_); (case side1 => repeat (first | exact (Kd.R_reads' HO107.out).2.2 | (with_reducible refine Kd.C_alloc ?_ _) | (with_reducible refine Kd.C_drewN ?_ _) | (with_reducible refine Kd.C_drew ?_))); (case side2 => exact (Kd.R_reads' HO107.out).2.1); rintro e w19 ⟨rfl, hb⟩; have n0_ := mz (Kd.R_below a21_ hb); have n1_ := mz (Kd.R_below a22_ hb); have n2_ := mz (bs0_ hb); clear HO107; clear HO109; clear HB; have HO107 := n0_; have HO109 := n1_; have HB := n2_; clear n0_ n1_ n2_; (try clear hb); (try clear hb2); (try clear hk); (try clear hi); obtain ⟨Ao20, co20, eo20⟩ := Kd.R_slice HO109.out; subst eo20) | (go_at_call 44; (with_reducible refine (spec_GoodOp.calls kj2 _ _ t104 true _ ?side1 ?side2 A15.out).mono ?_); (case side1 => repeat (first | exact (Kd.R_reads' HO109.out).2.2 | (with_reducible refine Kd.C_alloc ?_ _) | (with_reducible refine Kd.C_drewN ?_ _) | (with_reducible refine Kd.C_drew ?_))); (case side2 => exact (Kd.R_reads' HO109.out).2.1); rintro e w21 ⟨rfl, hb⟩; have n0_ := mz (Kd.R_below a21_ hb); have n1_ := mz (Kd.R_below a22_ hb); have n2_ := mz (bs0_ hb); clear HO107; clear HO109; clear HB; have HO107 := n0_; have HO109 := n1_; have HB := n2_; clear n0_ n1_ n2_; (try clear hb); (try clear hb2); (try clear hk); (try clear hi)))
       go_ret3
       exact ⟨_, _, a27_, a21_, a22_, a12_⟩
      ·replace c16 := Bool.eq_false_iff.mpr c16
       subst c16
       have H1 : (some (([] : List (S86)), ([] : List (S86)), false)) = some (r1, r2, r3) := by rw [if_neg (show ¬ (false = true) by decide)] at H; exact H
       clear H
       have H := H1
       clear H1
       simp only [Option.some.injEq, Prod.mk.injEq] at H
       obtain ⟨rfl, rfl, rfl⟩ := H
       go_wp2_with (first | ((with_reducible refine gate_callee (f := 115) rfl ?_); refine goesL_ (some 21) rfl rfl Try.func115 (by kernel_rfl) rfl #[.slice A0 l0.length c0, .slice A1 l1.length c1] rfl a11_ ?_; (with_reducible refine (spec_l4Transform.calls _ _ l0 _ _ l1 t103 t104 true _ ?side1 ?side2 ?side3 ?side4 A11.out).mono ?_); (case side1 => repeat (first | exact (Kd.C_below HR0.out HB.out) | (with_reducible refine Kd.C_alloc ?_ _) | (with_reducible refine Kd.C_drewN ?_ _) | (with_reducible refine Kd.C_drew ?_))); (case side2 => exact HC0.out); (case side3 => repeat (first | exact (Kd.C_below HR1.out HB.out) | (with_reducible refine Kd.C_alloc ?_ _) | (with_reducible refine Kd.C_drewN ?_ _) | (with_reducible refine Kd.C_drew ?_))); (case side4 => exact HC1.out); rintro e w22 ⟨v106, v108, rfl, ho0, ho1, hb⟩; refine ⟨_, rfl, ?_⟩; have n0_ := mz (Kd.R_lower ho0 bz1_); have n1_ := mz (Kd.R_lower ho1 bz1_); have n2_ := mz (bs0_ hb); clear HB; have HO107 := n0_; have HO109 := n1_; have HB := n2_; clear n0_ n1_ n2_; (try clear hb); (try clear hb2); (try clear hk); (try clear hi); (try clear ho0); (try clear ho1); obtain ⟨Ao23, co23, eo23⟩ := Kd.R_slice HO107.out; subst eo23) | (go_at_call 44; (with_reducible refine (spec_GoodOp.calls kj2 _ _ t103 true _ ?side1 ?side2 A13.out).mono ?_); (case side1 => repeat (first | exact (Kd.R_reads' HO107.out).2.2 | (with_reducible refine Kd.C_alloc ?_ _) | (with_reducible refine Kd.C_drewN ?_ _) | (with_reducible refine Kd.C_drew ?_))); (case side2 => exact (Kd.R_reads' HO107.out).2.1); rintro e w24 ⟨rfl, hb⟩; have n0_ := mz (Kd.R_below a21_ hb); have n1_ := mz (Kd.R_below a22_ hb); have n2_ := mz (bs0_ hb); clear HO107; clear HO109; clear HB; have HO107 := n0_; have HO109 := n1_; have HB := n2_; clear n0_ n1_ n2_; (try clear hb); (try clear hb2); (try clear hk); (try clear hi); obtain ⟨Ao25, co25, eo25⟩ := Kd.R_slice HO109.out; subst eo25) | (go_at_call 44; (with_reducible refine (spec_GoodOp.calls kj2 _ _ t104 false _ ?side1 ?side2 A15.out).mono ?_); (case side1 => repeat (first | exact (Kd.R_reads' HO109.out).2.2 | (with_reducible refine Kd.C_alloc ?_ _) | (with_reducible refine Kd.C_drewN ?_ _) | (with_reducible refine Kd.C_drew ?_))); (case side2 => exact (Kd.R_reads' HO109.out).2.1); rintro e w26 ⟨rfl, hb⟩; have n0_ := mz (Kd.R_below a21_ hb); have n1_ := mz (Kd.R_below a22_ hb); have n2_ := mz (bs0_ hb); clear HO107; clear HO109; clear HB; have HO107 := n0_; have HO109 := n1_; have HB := n2_; clear n0_ n1_ n2_; (try clear hb); (try clear hb2); (try clear hk); (try clear hi)))
       go_ret3
       exact ⟨_, _, a27_, a10_, a10_, a12_⟩
     ·replace c14 := Bool.eq_false_iff.mpr c14
      subst c14
      have H1 : (some (([] : List (S86)), ([] : List (S86)), false)) = some (r1, r2, r3) := by rw [if_neg (show ¬ (false = true) by decide)] at H; exact H
      clear H
      have H := H1
      clear H1
      simp only [Option.some.injEq, Prod.mk.injEq] at H
      obtain ⟨rfl, rfl, rfl⟩ := H
      go_wp2_with (first | ((with_reducible refine gate_callee (f := 115) rfl ?_); refine goesL_ (some 21) rfl rfl Try.func115 (by kernel_rfl) rfl #[.slice A0 l0.length c0, .slice A1 l1.length c1] rfl a11_ ?_; (with_reducible refine (spec_l4Transform.calls _ _ l0 _ _ l1 t103 t104 true _ ?side1 ?side2 ?side3 ?side4 A11.out).mono ?_); (case side1 => repeat (first | exact (Kd.C_below HR0.out HB.out) | (with_reducible refine Kd.C_alloc ?_ _) | (with_reducible refine Kd.C_drewN ?_ _) | (with_reducible refine Kd.C_drew ?_))); (case side2 => exact HC0.out); (case side3 => repeat (first | exact (Kd.C_below HR1.out HB.out) | (with_reducible refine Kd.C_alloc ?_ _) | (with_reducible refine Kd.C_drewN ?_ _) | (with_reducible refine Kd.C_drew ?_))); (case side4 => exact HC1.out); rintro e w27 ⟨v106, v108, rfl, ho0, ho1, hb⟩; refine ⟨_, rfl, ?_⟩; have n0_ := mz (Kd.R_lower ho0 bz1_); have n1_ := mz (Kd.R_lower ho1 bz1_); have n2_ := mz (bs0_ hb); clear HB; have HO107 := n0_; have HO109 := n1_; have HB := n2_; clear n0_ n1_ n2_; (try clear hb); (try clear hb2); (try clear hk); (try clear hi); (try clear ho0); (try clear ho1); obtain ⟨Ao28, co28, eo28⟩ := Kd.R_slice HO107.out; subst eo28) | (go_at_call 44; (with_reducible refine (spec_GoodOp.calls kj2 _ _ t103 false _ ?side1 ?side2 A13.out).mono ?_); (case side1 => repeat (first | exact (Kd.R_reads' HO107.out).2.2 | (with_reducible refine Kd.C_alloc ?_ _) | (with_reducible refine Kd.C_drewN ?_ _) | (with_reducible refine Kd.C_drew ?_))); (case side2 => exact (Kd.R_reads' HO107.out).2.1); rintro e w29 ⟨rfl, hb⟩; have n0_ := mz (Kd.R_below a21_ hb); have n1_ := mz (Kd.R_below a22_ hb); have n2_ := mz (bs0_ hb); clear HO107; clear HO109; clear HB; have HO107 := n0_; have HO109 := n1_; have HB := n2_; clear n0_ n1_ n2_; (try clear hb); (try clear hb2); (try clear hk); (try clear hi)))
      go_ret3
      exact ⟨_, _, a27_, a10_, a10_, a12_⟩
    ·replace c12 := Bool.eq_false_iff.mpr c12
     subst c12
     have H1 : (some (([] : List (S86)), ([] : List (S86)), false)) = some (r1, r2, r3) := by rw [if_neg (show ¬ (false = true) by decide)] at H; exact H
     clear H
     have H := H1
     clear H1
     simp only [Option.some.injEq, Prod.mk.injEq] at H
     obtain ⟨rfl, rfl, rfl⟩ := H
     go_wp2_with (first | ((with_reducible refine gate_callee (f := 115) rfl ?_); refine goesL_ (some 21) rfl rfl Try.func115 (by kernel_rfl) rfl #[.slice A0 l0.length c0, .slice A1 l1.length c1] rfl a11_ ?_; (with_reducible refine (spec_l4Transform.calls _ _ l0 _ _ l1 t103 t104 false _ ?side1 ?side2 ?side3 ?side4 A11.out).mono ?_); (case side1 => repeat (first | exact (Kd.C_below HR0.out HB.out) | (with_reducible refine Kd.C_alloc ?_ _) | (with_reducible refine Kd.C_drewN ?_ _) | (with_reducible refine Kd.C_drew ?_))); (case side2 => exact HC0.out); (case side3 => repeat (first | exact (Kd.C_below HR1.out HB.out) | (with_reducible refine Kd.C_alloc ?_ _) | (with_reducible refine Kd.C_drewN ?_ _) | (with_reducible refine Kd.C_drew ?_))); (case side4 => exact HC1.out); rintro e w30 ⟨v106, v108, rfl, ho0, ho1, hb⟩; refine ⟨_, rfl, ?_⟩; have n0_ := mz (Kd.R_lower ho0 bz1_); have n1_ := mz (Kd.R_lower ho1 bz1_); have n2_ := mz (bs0_ hb); clear HB; have HO107 := n0_; have HO109 := n1_; have HB := n2_; clear n0_ n1_ n2_; (try clear hb); (try clear hb2); (try clear hk); (try clear hi); (try clear ho0); (try clear ho1)))
     go_ret3
     exact ⟨_, _, a27_, a10_, a10_, a12_⟩
end
theorem two_step {a b c d m1 o1 x y : Nat} (h : a ≤ m1 + x ∧ b ≤ o1 + x) (h1 : m1 ≤ c + 1) (h2 : o1 ≤ d + 1) (hx : x + 1 ≤ y) : a ≤ c + y ∧ b ≤ d + y := by omega
theorem step_le (m : Mk) (u : U) (hI : InvM m) : (unitsM (stepU m u)).length ≤ (unitsM m).length + 1 := Nat.le_of_eq (step_len m u hI)
theorem trU_len (xs ys : List U) (m o : Mk) : InvM m → InvM o → (unitsM (trU xs ys m o).1).length ≤ (unitsM m).length + (xs.length + ys.length) ∧ (unitsM (trU xs ys m o).2).length ≤ (unitsM o).length + (xs.length + ys.length) := by
 induction xs, ys, m, o using trU.induct
 all_goals intro hm ho
 all_goals rw [trU]
 all_goals first
  | exact ⟨Nat.le_add_right _ _, Nat.le_add_right _ _⟩
  | (rename_i ih; refine two_step (ih (hm.step _) (ho.step _)) (step_le _ _ hm) (step_le _ _ ho) ?_; simp only [List.length_cons]; omega)
  | (rename_i ih; refine two_step (ih hm (ho.step _)) (Nat.le_succ _) (step_le _ _ ho) ?_; simp only [List.length_cons]; omega)
  | (rename_i ih; refine two_step (ih (hm.step _) ho) (step_le _ _ hm) (Nat.le_succ _) ?_; simp only [List.length_cons]; omega)
  | (rename_i ih; refine two_step (ih hm ho) (Nat.le_succ _) (Nat.le_succ _) ?_; simp only [List.length_cons]; omega)
  | skip
 all_goals assumption
theorem made_small {m : Mk} {n : Nat} (h : (unitsM m).length ≤ n) (hn : n ≤ 100000) : sizedP (madeL m) = true := by
 refine sizedP_mk (fun q hq => ?_)
 have := size_mem hq
 rw [units_made] at this
 unfold sizeP at this
 unfold maxLen
 omega
theorem tr_sized {a b : List Part} (ha : opB a = true) (hb : opB b = true) : sizedP (madeL (trU (unitsL (normL a)) (unitsL (normL b)) mk0 mk0).1) = true ∧ sizedP (madeL (trU (unitsL (normL a)) (unitsL (normL b)) mk0 mk0).2) = true := by
 have h1 := (norm_ok ha).2.1
 have h2 := (norm_ok hb).2.1
 have hl := trU_len (unitsL (normL a)) (unitsL (normL b)) mk0 mk0 InvM.zero InvM.zero
 rw [show unitsM mk0 = [] from rfl, List.length_nil] at hl
 exact ⟨made_small hl.1 (by omega), made_small hl.2 (by omega)⟩
theorem specTransform_ev (a b : List Part) (hsa : sizedP a = true) (hsb : sizedP b = true) : Ev (fun k => spec_TransformOps.f k a b) (trV a b) := by
 unfold spec_TransformOps.f
 refine Ev.bind (specGoodOp_ev a hsa) ?_
 cases ha : opB a with
 | false =>
  simp only [Bool.false_eq_true, if_false]
  refine Ev.succ ?_
  simp only [spec_TransformOps.j0, if_true]
  exact ev_eq (Ev.now _) (by unfold trV sameW; rw [ha]; simp)
 | true =>
  simp only [if_true]
  refine Ev.bind (specGoodOp_ev b hsb) ?_
  refine Ev.succ ?_
  cases hb : opB b with
  | false =>
   simp only [spec_TransformOps.j0, Bool.not_false, if_true]
   exact ev_eq (Ev.now _) (by unfold trV sameW; rw [hb]; simp)
  | true =>
   simp only [spec_TransformOps.j0, Bool.not_true, Bool.false_eq_true, if_false]
   have hf : spec_l4Transform.f a b = some (trS a b) := by unfold spec_l4Transform.f; rw [if_pos ⟨ha, hb⟩]
   have hw : sameW a b = sameV a b := by unfold sameW; rw [if_pos ⟨ha, hb⟩]
   simp only [hf, Option.bind_some]
   by_cases hc : sameV a b = (true, true)
   ·have e1 : trS a b = trP (trU (unitsL (normL a)) (unitsL (normL b)) mk0 mk0) := by unfold trS; rw [if_pos hc]
    have e2 : trV a b = trQ (trU (unitsL (normL a)) (unitsL (normL b)) mk0 mk0) := by unfold trV; rw [if_pos (hw.trans hc)]; rfl
    obtain ⟨s1, s2⟩ := tr_sized ha hb
    rw [e2]
    simp only [e1]
    generalize trU (unitsL (normL a)) (unitsL (normL b)) mk0 mk0 = p at s1 s2
    simp only [trP, if_true, trQ]
    refine Ev.bind (specGoodOp_ev (madeL p.1) s1) ?_
    cases q1 : opB (madeL p.1) with
    | false => simp only [Bool.false_eq_true, if_false, false_and]; exact Ev.now _
    | true =>
     simp only [if_true, true_and]
     refine Ev.bind (specGoodOp_ev (madeL p.2) s2) ?_
     cases q2 : opB (madeL p.2) with
     | false => simp only [Bool.false_eq_true, if_false]; exact Ev.now _
     | true => simp only [if_true]; exact Ev.now _
   ·have e1 : trS a b = ([], [], false) := by unfold trS; rw [if_neg hc]
    have e2 : trV a b = ([], [], false) := by unfold trV; rw [if_neg (fun h => hc (hw.symm.trans h))]
    rw [e2]
    simp only [e1, Bool.false_eq_true, if_false]
    exact Ev.now _
theorem trV_good {a b : List Part} (h : (trV a b).2.2 = true) : opB (trV a b).1 = true ∧ opB (trV a b).2.1 = true := by
 unfold trV at h ⊢
 by_cases c : sameW a b = (true, true)
 ·rw [if_pos c] at h ⊢
  unfold trR trQ at h ⊢
  by_cases q : opB (madeL (trU (unitsL (normL a)) (unitsL (normL b)) mk0 mk0).1) = true ∧ opB (madeL (trU (unitsL (normL a)) (unitsL (normL b)) mk0 mk0).2) = true
  ·rw [if_pos q]; exact q
  ·rw [if_neg q] at h; simp at h
 ·rw [if_neg c] at h; simp at h
theorem implTransform_val (a b : List Part) (hsa : sizedP a = true) (hsb : sizedP b = true) : impl_TransformOps.f a b = some (trV a b) := by
 unfold impl_TransformOps.f; rw [if_pos ⟨hsa, hsb⟩]
def hearT (c : Client) (s5 s6 op : List Part) : C9 := if (applyV op c.f1).2 = true then goodC ⟨c.f0, (applyV op c.f1).1, c.f2 + 1, c.f3, c.f4, s5, s6, c.f7⟩ else zeroC
def hearD (c : Client) (s5 op : List Part) : C9 :=
 if c.f7 = true then (if (trV c.f6 op).2.2 = true then hearT c s5 (trV c.f6 op).1 (trV c.f6 op).2.1 else zeroC) else hearT c s5 c.f6 op
def hearO (c : Client) (op : List Part) : C9 :=
 if c.f4 = true then (if (trV c.f5 op).2.2 = true then hearD c (trV c.f5 op).1 (trV c.f5 op).2.1 else zeroC) else hearD c c.f5 op
def ownB' (c : Client) (e0 e1 : Int) : Bool := c.f4 && (e0 == c.f0) && (e1 == c.f3)
def hearV (c : Client) (e0 e1 : Int) (op : List Part) : C9 :=
 if clientB c = true ∧ entryB ⟨e0, e1, op⟩ = true then
  if ownB' c e0 e1 = true then goodC ⟨c.f0, c.f1, c.f2 + 1, if c.f7 = true then c.f3 + 1 else c.f3, c.f7, c.f6, [], false⟩
  else hearO c op
 else zeroC
theorem tail_dirty {i : Int} {t : ByteArray} {v q : Int} {s5 s6 : List Part} {d : Bool} (h : clientB ⟨i, t, v, q, false, s5, s6, d⟩ = true) : d = false := by
 cases d with
 | false => rfl
 | true => simp [clientB, tailC] at h
theorem trV_sized {a b : List Part} : sizedP (trV a b).1 = true ∧ sizedP (trV a b).2.1 = true := by
 cases h : (trV a b).2.2 with
 | true => exact ⟨opB_sized (trV_good h).1, opB_sized (trV_good h).2⟩
 | false =>
  unfold trV trR trQ at h ⊢
  by_cases c : sameW a b = (true, true)
  ·rw [if_pos c] at h ⊢
   by_cases q : opB (madeL (trU (unitsL (normL a)) (unitsL (normL b)) mk0 mk0).1) = true ∧ opB (madeL (trU (unitsL (normL a)) (unitsL (normL b)) mk0 mk0).2) = true
   ·rw [if_pos q] at h; simp at h
   ·rw [if_neg q]; exact ⟨rfl, rfl⟩
  ·rw [if_neg c]; exact ⟨rfl, rfl⟩
theorem nilR (W : World) (base lo : Nat) : Kd.R k86 86 W base (fun k => lo ≤ k ∧ k < lo) (.slice none 0 0) [] := Kd.R_nil _ _ _ _ _
end Go.Proofs.Ytgccoekganghhaa.X
