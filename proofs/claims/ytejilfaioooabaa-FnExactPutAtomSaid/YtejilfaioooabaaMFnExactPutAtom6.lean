/- The law FnExactPutAtom of the program: its proof, part 6. -/
import Derived.Test.YtejilfaioooabaaMFnExactPutAtom2
import Derived.Test.YtejilfaioooabaaMFnExactPutAtom4
import Derived.Test.YtejilfaioooabaaMFnExactPutAtom5
import Derived.Deep.RegionHeld3
import Derived.Deep.DrawnRows
import Derived.Deep.RegionWith
import Derived.Deep.DeepCutAuto
set_option linter.unusedVariables false
set_option linter.unusedSimpArgs false
namespace Go.Proofs.Ytejilfaioooabaa.X
open Go.RowKit Go.Proofs.YtejilfaioooabaaW.PrintWords Go.Proofs.YtejilfaioooabaaW.PrintLast Go.Proofs.YtejilfaioooabaaW.PrintMore
section
attribute [local go_sem] max2_int min2_int max_two min_two max_three min_three max_four min_four
mutual
def spec_l17Order.l0 : Nat → List (S41) → Int → Int → List Int → Int → Option (List Int)
  | 0, _, _, _, _, _ => none
  | k + 1, x0, x1, x2, x3, x9 => if x9 ≥ 0 then (if 0 ≤ x9 then (if x9 < (x0.length : Int) then (if ((rd_T41 x0 x9).f2) = x1 then (if ((rd_T41 x0 x9).f3) = x2 then (if x3.length < 17592186044416 then ((spec_l17Order.f k x0 ((rd_T41 x0 x9).f0) ((rd_T41 x0 x9).f1) (x3 ++ [x9])).bind fun t108 => (spec_l17Order.l0 k x0 x1 x2 t108 (wrap64 (x9 - 1)))) else (none)) else (spec_l17Order.l0 k x0 x1 x2 x3 (wrap64 (x9 - 1)))) else (spec_l17Order.l0 k x0 x1 x2 x3 (wrap64 (x9 - 1)))) else (none)) else (none)) else (some x3)
def spec_l17Order.f : Nat → List (S41) → Int → Int → List Int → Option (List Int)
  | 0, _, _, _, _ => none
  | k + 1, l0, a1, a2, l3 => spec_l17Order.l0 k l0 a1 a2 l3 (wrap64 ((l0.length : Int) - 1))
end
def spec_l17Order.T6 : Bool × List (List Nat × List Nat) := (true, [([], []), ([], []), ([], []), ([1, 2], [1, 2]), ([3], [3]), ([4], [4]), ([], []), ([], []), ([6, 7], [6, 7]), ([8], [8]), ([9], [9]), ([], []), ([0, 5, 10, 11], [0, 5, 10, 11]), ([12, 12, 0, 1, 2, 3, 4, 5, 6, 7, 8, 9, 10, 11, 12], [11, 12])])
def spec_l17Order.B6 : List Nat := [0, 0, 0, 6, 14, 30, 0, 0, 192, 448, 960, 0, 4095, 8191]
theorem spec_l17Order.tab6 : rtab .any (opsOf Try.f28 6) = spec_l17Order.T6 := by kernel_rfl
theorem spec_l17Order.bits6 : waitsOk spec_l17Order.T6.2 spec_l17Order.B6 = true := by kernel_rfl
set_option maxHeartbeats 8000000 in
set_option maxRecDepth 100000 in
theorem spec_l17Order.calls (k : Nat) : ∀ (A0 : Option Addr) (c0 : Nat) (l0 : List (S41)) (a1 : Int) (a2 : Int) (P3_ : Nat → Prop) (u9000_ : Value) (l3 : List Int) (r : List Int) (w0 w : World) (hB : Below w0.heap.size w0 w) (hr0 : ∀ W_, Kept w W_ (fun k_ => P3_ k_) → Kd.C k41 W_ A0 l0.length l0) (hc0 : l0.length ≤ c0) (ho3 : Kd.R (Kd.int .i64) 3 w w0.heap.size P3_ u9000_ l3) (h : spec_l17Order.f k l0 a1 a2 l3 = some r),
    Calls Try.prog 28 #[.slice A0 l0.length c0, .int .i64 a1, .int .i64 a2, u9000_] w fun e w' => ∃ v0_ : Value, e = .returned (v0_) ∧ Kd.R (Kd.int .i64) 3 w' w0.heap.size (fun k_ => (P3_ k_ ∨ w.heap.size ≤ k_)) v0_ r ∧ Below w0.heap.size w0 w' ∧ Kept w w' (fun k_ => P3_ k_) := by
  induction k using Nat.strongRecOn with
  | _ k ih =>
  intro A0 c0 l0 a1 a2 P3_ u9000_ l3 r w0 w hB hr0 hc0 ho3 h
  cases k with
  | zero => exact absurd h (by simp [spec_l17Order.f])
  | succ k =>
  simp only [spec_l17Order.f] at h
  have HR0 := mz hr0
  have HC0 := mz hc0
  clear hr0 hc0
  have HO3 := mz (show Kd.R (Kd.int .i64) 3 w w0.heap.size (fun k_ => (P3_ k_ ∨ w.heap.size ≤ k_)) u9000_ l3 from Kd.R_mono ho3 (fun k_ hk => (.inl hk)))
  have HK := mz (Kept.refl w (fun k_ => P3_ k_))
  have HW0 := mz hB.size
  have HB := mz hB
  clear hB
  have H : (spec_l17Order.l0 k l0 a1 a2 l3 (wrap64 ((l0.length : Int) - 1))) = some r := h
  clear h
  have H' := mz H
  clear H
  go_enter Try.func28, Try.ntmps28
  go_wp2
  go_loopg [3, 9] k (fun kq v3 v9 w' => ∃ (x3_1 : List Int) (x9_1 : Int), v9 = .int .i64 x9_1 ∧ Aside0 (spec_l17Order.l0 kq l0 a1 a2 x3_1 x9_1 = some r) ∧ Aside0 (kq ≤ k) ∧ Aside0 (Kd.R (Kd.int .i64) 3 w' w0.heap.size (fun k_ => (P3_ k_ ∨ w.heap.size ≤ k_)) v3 x3_1) ∧ Aside0 (Kept w w' (fun k_ => P3_ k_)) ∧ Aside0 (Below w0.heap.size w0 w'))
  case atStart => exact ⟨(l3), (wrap64 ((l0.length : Int) - 1)), (by first | rfl | (simp; done) | (simp [*]; done)), H', ⟨Nat.le_refl _⟩, ⟨by (with_reducible repeat (first | apply Kd.R_alloc | apply Kd.R_drewN | apply Kd.R_drew)); exact HO3.out⟩, ⟨by repeat (first | (with_reducible first | exact HK.out | apply Kept.alloc | apply Kept.drewN | apply Kept.drew) | exact HK.out)⟩, ⟨by repeat (first | (with_reducible first | exact HB.out | apply below_alloc | apply pw_below_drewN | apply below_drew1) | exact HB.out)⟩⟩
  case round =>
    clear H'
    try clear c2
    try clear p2
    obtain ⟨x3_1, x9_1, rfl, HA, HK1, HO_3, HK, HB⟩ := hrel
    cases gk with
    | zero => exact absurd HA.out (by simp [spec_l17Order.l0])
    | succ k1 =>
      have H := HA.out
      clear HA
      simp only [spec_l17Order.l0] at H
      by_cases c5 : x9_1 ≥ 0
      · rw [if_pos c5] at H
        have c5b0 : decide (0 ≤ x9_1) = true := decide_eq_true c5
        clear c5
        by_cases c6 : 0 ≤ x9_1
        · rw [if_pos c6] at H
          have c6b0 : decide (0 ≤ x9_1) = true := decide_eq_true c6
          clear c6
          by_cases c7 : x9_1 < (l0.length : Int)
          · rw [if_pos c7] at H
            have c7b0 : decide (x9_1 < (l0.length : Int)) = true := decide_eq_true c7
            clear c7
            by_cases c8 : ((rd_T41 l0 x9_1).f2) = a1
            · rw [if_pos c8] at H
              have c8b0 : (((rd_T41 l0 x9_1).f2) == a1) = true := beq_iff_eq.mpr c8
              have c8b1 : (((rd_T41 l0 x9_1).f2) != a1) = false := bne_eq_false_iff_eq.mpr c8
              clear c8
              by_cases c9 : ((rd_T41 l0 x9_1).f3) = a2
              · rw [if_pos c9] at H
                have c9b0 : (((rd_T41 l0 x9_1).f3) == a2) = true := beq_iff_eq.mpr c9
                have c9b1 : (((rd_T41 l0 x9_1).f3) != a2) = false := bne_eq_false_iff_eq.mpr c9
                clear c9
                by_cases c10 : x3_1.length < 17592186044416
                · rw [if_pos c10] at H
                  have LMc10 := mz c10
                  clear c10
                  obtain ⟨y103, hy103⟩ : ∃ y_ : List Int, y_ = (x3_1 ++ [x9_1]) := ⟨_, rfl⟩
                  replace H : ((spec_l17Order.f k1 l0 ((rd_T41 l0 x9_1).f0) ((rd_T41 l0 x9_1).f1) y103).bind fun t108 => (spec_l17Order.l0 k1 l0 a1 a2 t108 (wrap64 (x9_1 - 1)))) = some r := by first | (rw [hy103]; with_reducible exact H) | (have H2_ := (Option.bind_some _ _).symm.trans H; rw [hy103]; with_reducible exact H2_) | (have H2_ := (Option.bind_some _ _).symm.trans H; with_reducible exact H2_) | with_reducible exact H | (rw [hy103]; exact H) | exact H
                  have Ny103 := mz hy103
                  clear hy103
                  replace H := be0_ H
                  obtain ⟨t108, A110, H⟩ := H
                  replace H : (spec_l17Order.l0 k1 l0 a1 a2 t108 (wrap64 (x9_1 - 1))) = some r := H
                  have A11 := mz A110
                  clear A110
                  have H' := mz H
                  clear H
                  have p101 : 0 ≤ (x9_1 : Int) := of_decide_eq_true (by first | (with_reducible assumption) | assumption)
                  have q101 : x9_1 < (l0.length : Int) := of_decide_eq_true (by first | (with_reducible assumption) | assumption)
                  obtain ⟨ad101, e101, hx101_0, hx101_1, hx101_2, hx101_3, hx101_4, hx101_5⟩ := at_T41 (Kd.C_kept_now HR0.out HK.out) x9_1 p101 q101
                  cases e101
                  replace p101 := eq_true p101
                  replace q101 := eq_true q101
                  have p102 : 0 ≤ (x9_1 : Int) := of_decide_eq_true (by first | (with_reducible assumption) | assumption)
                  have q102 : x9_1 < (l0.length : Int) := of_decide_eq_true (by first | (with_reducible assumption) | assumption)
                  obtain ⟨ad102, e102, hx102_0, hx102_1, hx102_2, hx102_3, hx102_4, hx102_5⟩ := at_T41 (Kd.C_kept_now HR0.out HK.out) x9_1 p102 q102
                  obtain rfl : ad101 = ad102 := (by injection e102)
                  replace p102 := eq_true p102
                  replace q102 := eq_true q102
                  try go_wp2_with (first | ((with_reducible refine gate_builtin (b := .append) (xs := #[.tmp 33, .tmp 35]) rfl ?_); at_builtin; refine Kd.R_append (Kd.int .i64) (w0 := w0) w0.heap.size rfl (.tmp 33) (.tmp 35) 38 3 (.int .i64 0) 8 rfl Try.underlying38 info3 rfl (by decide) (by omega) u3 x3_1 x9_1 [.int .i64 x9_1] (fun k_ => (P3_ k_ ∨ w.heap.size ≤ k_)) (fun _ => False) rfl rfl ?aP (fun _ hk => hk.elim) ?aF ?aO ?aB ?aS ?aL ?_; (case aP => exact rfl); (case aB => exact (by repeat (first | (with_reducible first | exact HB.out | apply below_alloc | apply pw_below_drewN | apply below_drew1) | exact HB.out))); (case aF => exact (fun k_ hk => (.inr (Nat.le_trans (by first | exact HK.out.1 | exact (show Kept w _ (fun k_ => P3_ k_) from by repeat (first | (with_reducible first | exact HK.out | apply Kept.alloc | apply Kept.drewN | apply Kept.drew) | exact HK.out)).1) hk)))); (case aO => exact (by (with_reducible repeat (first | apply Kd.R_alloc | apply Kd.R_drewN | apply Kd.R_drew)); exact HO_3.out)); (case aS => exact (below_size (by repeat (first | (with_reducible first | exact HB.out | apply below_alloc | apply pw_below_drewN | apply below_drew1) | exact HB.out)))); (case aL => have := LMc10.out; omega); intro v104 w12 ho hb hg hat; rw [← Ny103.out] at ho; have n0_ := mz (hb); have n1_ := mz (Kept.of_grown (S := (fun k_ => P3_ k_)) hg (by repeat (first | (with_reducible first | exact HK.out | apply Kept.alloc | apply Kept.drewN | apply Kept.drew) | exact HK.out)) (fun k_ e_ => (HO_3.out.1 k_ e_))); have n2_ := mz (ho); clear HB; clear HK; clear HO_3; have HB := n0_; have HK := n1_; have HO105 := n2_; clear n0_ n1_ n2_; clear ho hb hg hat))
                  have n0_ := mz (Kd.R_drew HO105.out)
                  have n1_ := mz (Kept.drew HK.out)
                  have n2_ := mz (below_drew1 HB.out)
                  clear HO105
                  clear HK
                  clear HB
                  have HO105 := n0_
                  have HK := n1_
                  have HB := n2_
                  clear n0_ n1_ n2_
                  have p106 : 0 ≤ (x9_1 : Int) := of_decide_eq_true (by first | (with_reducible assumption) | assumption)
                  have q106 : x9_1 < (l0.length : Int) := of_decide_eq_true (by first | (with_reducible assumption) | assumption)
                  obtain ⟨ad106, e106, hx106_0, hx106_1, hx106_2, hx106_3, hx106_4, hx106_5⟩ := at_T41 (Kd.C_kept_now HR0.out HK.out) x9_1 p106 q106
                  have hw106_5 := hx106_5
                  have hw106_4 := hx106_4
                  have hw106_3 := hx106_3
                  have hw106_2 := hx106_2
                  have hw106_1 := hx106_1
                  have hw106_0 := hx106_0
                  obtain rfl : ad101 = ad106 := (by injection e106)
                  replace p106 := eq_true p106
                  replace q106 := eq_true q106
                  have p107 : 0 ≤ (x9_1 : Int) := of_decide_eq_true (by first | (with_reducible assumption) | assumption)
                  have q107 : x9_1 < (l0.length : Int) := of_decide_eq_true (by first | (with_reducible assumption) | assumption)
                  obtain ⟨ad107, e107, hx107_0, hx107_1, hx107_2, hx107_3, hx107_4, hx107_5⟩ := at_T41 (Kd.C_kept_now HR0.out HK.out) x9_1 p107 q107
                  have hw107_5 := hx107_5
                  have hw107_4 := hx107_4
                  have hw107_3 := hx107_3
                  have hw107_2 := hx107_2
                  have hw107_1 := hx107_1
                  have hw107_0 := hx107_0
                  obtain rfl : ad101 = ad107 := (by injection e107)
                  replace p107 := eq_true p107
                  replace q107 := eq_true q107
                  obtain ⟨Ao14, co14, eo14⟩ := Kd.R_slice HO105.out
                  (first | subst eo14 | (injection eo14 with f1_ f2_ f3_; have f4_ := f1_.symm; have f5_ := f3_.symm; clear f1_ f2_ f3_; subst f4_; subst f5_))
                  refine start_ (n := 14) (S := fun w' => w'.cell? (ad101.add ((x9_1).toNat * 6)) = some (.int .i64 ((rd_T41 l0 x9_1).f0)) ∧ w'.cell? ⟨(ad101.add ((x9_1).toNat * 6)).block, (ad101.add ((x9_1).toNat * 6)).off + 1, none⟩ = some (.int .i64 ((rd_T41 l0 x9_1).f1)) ∧ w'.cell? ⟨(ad101.add ((x9_1).toNat * 6)).block, (ad101.add ((x9_1).toNat * 6)).off + 2, none⟩ = some (.int .i64 ((rd_T41 l0 x9_1).f2)) ∧ w'.cell? ⟨(ad101.add ((x9_1).toNat * 6)).block, (ad101.add ((x9_1).toNat * 6)).off + 3, none⟩ = some (.int .i64 ((rd_T41 l0 x9_1).f3)) ∧ w'.cell? ⟨(ad101.add ((x9_1).toNat * 6)).block, (ad101.add ((x9_1).toNat * 6)).off + 4, none⟩ = some (.string ((rd_T41 l0 x9_1).f4)) ∧ w'.cell? ⟨(ad101.add ((x9_1).toNat * 6)).block, (ad101.add ((x9_1).toNat * 6)).off + 5, none⟩ = some (.bool ((rd_T41 l0 x9_1).f5)) ∧ w'.cell? (ad101.add ((x9_1).toNat * 6)) = some (.int .i64 ((rd_T41 l0 x9_1).f0)) ∧ w'.cell? ⟨(ad101.add ((x9_1).toNat * 6)).block, (ad101.add ((x9_1).toNat * 6)).off + 1, none⟩ = some (.int .i64 ((rd_T41 l0 x9_1).f1)) ∧ w'.cell? ⟨(ad101.add ((x9_1).toNat * 6)).block, (ad101.add ((x9_1).toNat * 6)).off + 2, none⟩ = some (.int .i64 ((rd_T41 l0 x9_1).f2)) ∧ w'.cell? ⟨(ad101.add ((x9_1).toNat * 6)).block, (ad101.add ((x9_1).toNat * 6)).off + 3, none⟩ = some (.int .i64 ((rd_T41 l0 x9_1).f3)) ∧ w'.cell? ⟨(ad101.add ((x9_1).toNat * 6)).block, (ad101.add ((x9_1).toNat * 6)).off + 4, none⟩ = some (.string ((rd_T41 l0 x9_1).f4)) ∧ w'.cell? ⟨(ad101.add ((x9_1).toNat * 6)).block, (ad101.add ((x9_1).toNat * 6)).off + 5, none⟩ = some (.bool ((rd_T41 l0 x9_1).f5))) (ds := [12]) #[false, false, false, false, false, false, false, false, false, false, false, false, false, false] (by kernel_rfl) rfl rfl ⟨hx106_0, hx106_1, hx106_2, hx106_3, hx106_4, hx106_5, hx107_0, hx107_1, hx107_2, hx107_3, hx107_4, hx107_5⟩ (fun hHeld => ?_); refine with_tabW spec_l17Order.tab6 spec_l17Order.bits6 (fun HT_ HW_ => ?_)
                  generalize w12.drew = w13 at HO105 HK HB hx106_0 hx106_1 hx106_2 hx106_3 hx106_4 hx106_5 hx107_0 hx107_1 hx107_2 hx107_3 hx107_4 hx107_5 hHeld ⊢
                  refine pure_ (i := 0) (N := some 37) (v := ?_) (a' := ?_) #[true, false, false, false, false, false, false, false, false, false, false, false, false, false] rfl rfl (any_of HT_.out (by kernel_rfl)) (fun _ _ _ h => h) (Or.inl ⟨by rfl, ?_⟩) ?_ ?_
                  rotate_left
                  · intro w'
                    go_simp
                    with_reducible rfl
                  rotate_left
                  · simp only [Act.put, List.setIfInBounds_toArray, List.set_cons_zero, List.set_cons_succ, i64_w, i32_w]
                    rfl
                  refine pure_ (i := 1) (N := some 38) (v := ?_) (a' := ?_) #[true, true, false, false, false, false, false, false, false, false, false, false, false, false] rfl rfl (any_of HT_.out (by kernel_rfl)) (fun _ _ _ h => h) (Or.inl ⟨by rfl, ?_⟩) ?_ ?_
                  rotate_left
                  · intro w'
                    go_simp
                    with_reducible rfl
                  rotate_left
                  · simp only [Act.put, List.setIfInBounds_toArray, List.set_cons_zero, List.set_cons_succ, i64_w, i32_w]
                    rfl
                  refine pure_ (i := 2) (N := some 39) (v := ?_) (a' := ?_) #[true, true, true, false, false, false, false, false, false, false, false, false, false, false] rfl rfl (any_of HT_.out (by kernel_rfl)) (fun _ _ _ h => h) (Or.inl ⟨by rfl, ?_⟩) ?_ ?_
                  rotate_left
                  · intro w'
                    go_simp
                    with_reducible rfl
                  rotate_left
                  · simp only [Act.put, List.setIfInBounds_toArray, List.set_cons_zero, List.set_cons_succ, i64_w, i32_w]
                    rfl
                  refine pure_ (i := 3) (N := some 40) (v := ?_) (a' := ?_) #[true, true, true, true, false, false, false, false, false, false, false, false, false, false] rfl rfl (any_of HT_.out (by kernel_rfl)) (fun _ _ _ h => h) (Or.inl ⟨by rfl, ?_⟩) ?_ ?_
                  rotate_left
                  · intro w'
                    go_simp
                    with_reducible rfl
                  rotate_left
                  · simp only [Act.put, List.setIfInBounds_toArray, List.set_cons_zero, List.set_cons_succ, i64_w, i32_w]
                    rfl
                  refine pure_ (i := 4) (N := some 41) (v := ?_) (a' := ?_) #[true, true, true, true, true, false, false, false, false, false, false, false, false, false] rfl rfl (any_of HT_.out (by kernel_rfl)) (fun _ _ _ h => h) (Or.inl ⟨by rfl, ?_⟩) ?_ ?_
                  rotate_left
                  · intro w'
                    go_simp
                    with_reducible rfl
                  rotate_left
                  · simp only [Act.put, List.setIfInBounds_toArray, List.set_cons_zero, List.set_cons_succ, i64_w, i32_w]
                    rfl
                  refine pure_ (i := 6) (N := some 43) (v := ?_) (a' := ?_) #[true, true, true, true, true, false, true, false, false, false, false, false, false, false] rfl rfl (any_of HT_.out (by kernel_rfl)) (fun _ _ _ h => h) (Or.inl ⟨by rfl, ?_⟩) ?_ ?_
                  rotate_left
                  · intro w'
                    go_simp
                    with_reducible rfl
                  rotate_left
                  · simp only [Act.put, List.setIfInBounds_toArray, List.set_cons_zero, List.set_cons_succ, i64_w, i32_w]
                    rfl
                  refine pure_ (i := 7) (N := some 44) (v := ?_) (a' := ?_) #[true, true, true, true, true, false, true, true, false, false, false, false, false, false] rfl rfl (any_of HT_.out (by kernel_rfl)) (fun _ _ _ h => h) (Or.inl ⟨by rfl, ?_⟩) ?_ ?_
                  rotate_left
                  · intro w'
                    go_simp
                    with_reducible rfl
                  rotate_left
                  · simp only [Act.put, List.setIfInBounds_toArray, List.set_cons_zero, List.set_cons_succ, i64_w, i32_w]
                    rfl
                  refine pure_ (i := 8) (N := some 45) (v := ?_) (a' := ?_) #[true, true, true, true, true, false, true, true, true, false, false, false, false, false] rfl rfl (any_of HT_.out (by kernel_rfl)) (fun _ _ _ h => h) (Or.inl ⟨by rfl, ?_⟩) ?_ ?_
                  rotate_left
                  · intro w'
                    go_simp
                    with_reducible rfl
                  rotate_left
                  · simp only [Act.put, List.setIfInBounds_toArray, List.set_cons_zero, List.set_cons_succ, i64_w, i32_w]
                    rfl
                  refine pure_ (i := 9) (N := some 46) (v := ?_) (a' := ?_) #[true, true, true, true, true, false, true, true, true, true, false, false, false, false] rfl rfl (any_of HT_.out (by kernel_rfl)) (fun _ _ _ h => h) (Or.inl ⟨by rfl, ?_⟩) ?_ ?_
                  rotate_left
                  · intro w'
                    go_simp
                    with_reducible rfl
                  rotate_left
                  · simp only [Act.put, List.setIfInBounds_toArray, List.set_cons_zero, List.set_cons_succ, i64_w, i32_w]
                    rfl
                  refine pure_ (i := 11) (N := some 48) (v := ?_) (a' := ?_) #[true, true, true, true, true, false, true, true, true, true, false, true, false, false] rfl rfl (any_of HT_.out (by kernel_rfl)) (fun _ _ _ h => h) (Or.inl ⟨by rfl, ?_⟩) ?_ ?_
                  rotate_left
                  · intro w'
                    go_simp
                    with_reducible rfl
                  rotate_left
                  · simp only [Act.put, List.setIfInBounds_toArray, List.set_cons_zero, List.set_cons_succ, i64_w, i32_w]
                    rfl
                  refine take_ (i := 5) (N := some 42) (v := ?_) (a' := ?_) #[true, true, true, true, true, true, true, true, true, true, false, true, false, false] rfl rfl (take_ofW HT_.out HW_.out (by kernel_rfl)) (fun _ _ _ h => h) (Or.inl ⟨by rfl, ?_⟩) hHeld ?_ ?_
                  rotate_left
                  · rintro w' ⟨s0, s1, s2, s3, s4, s5, s6, s7, s8, s9, s10, s11⟩
                    go_simp
                    with_reducible rfl
                  rotate_left
                  · simp only [Act.put, List.setIfInBounds_toArray, List.set_cons_zero, List.set_cons_succ, i64_w, i32_w]
                    rfl
                  refine take_ (i := 10) (N := some 47) (v := ?_) (a' := ?_) #[true, true, true, true, true, true, true, true, true, true, true, true, false, false] rfl rfl (take_ofW HT_.out HW_.out (by kernel_rfl)) (fun _ _ _ h => h) (Or.inl ⟨by rfl, ?_⟩) hHeld ?_ ?_
                  rotate_left
                  · rintro w' ⟨s0, s1, s2, s3, s4, s5, s6, s7, s8, s9, s10, s11⟩
                    go_simp
                    with_reducible rfl
                  rotate_left
                  · simp only [Act.put, List.setIfInBounds_toArray, List.set_cons_zero, List.set_cons_succ, i64_w, i32_w]
                    rfl
                  refine last_ (i := 12) (N := some 49) #[true, true, true, true, true, true, true, true, true, true, true, true, true, false] rfl rfl (one_of HT_.out (by kernel_rfl)) (by decide) (fun K hK => ?_)
                  refine goes_ Try.func28 (by kernel_rfl) rfl #[.slice (some ad101) l0.length c0, .int .i64 ((rd_T41 l0 x9_1).f0), .int .i64 ((rd_T41 l0 x9_1).f1), .slice Ao14 y103.length co14] (by rfl) rfl rfl (by (try simp only [List.map_toArray, List.map_cons, List.map_nil]); first | done | rfl | (simp only [List.length_drop, List.length_take]; rfl)) ?_
                  with_reducible refine (ih k1 (by have := HK1.out; omega) _ _ l0 ((rd_T41 l0 x9_1).f0) ((rd_T41 l0 x9_1).f1) (fun k_ => some k_ = (.slice Ao14 y103.length co14 : Value).ownBlock) (.slice Ao14 y103.length co14) y103 t108 w0 _ ?side1 ?side2 ?side3 ?side4 A11.out).mono ?_
                  (case side1 => repeat (first | (with_reducible first | exact HB.out | apply below_alloc | apply pw_below_drewN | apply below_drew1) | exact HB.out))
                  (case side2 => exact Kd.C_kept_call HR0.out (by repeat (first | (with_reducible first | exact HK.out | apply Kept.alloc | apply Kept.drewN | apply Kept.drew) | exact HK.out)) (fun k_ hs_ => (fun e_ => (HO105.out.1 k_ e_.symm)) hs_))
                  (case side3 => exact HC0.out)
                  (case side4 => exact Kd.R_tight rfl HO105.out)
                  rintro e w15 ⟨v109, rfl, ho0, hb, hkp⟩
                  refine ⟨_, rfl, ?_⟩
                  have n0_ := mz (Kd.R_mono (ok' := fun k_ => (P3_ k_ ∨ w.heap.size ≤ k_)) ho0 (fun k_ hk_ => Or.elim hk_ (fun hs_ => (HO105.out.1 k_ (hs_).symm)) (fun hn_ => (.inr (Nat.le_trans (by first | exact HK.out.1 | exact (show Kept w _ (fun k_ => P3_ k_) from by repeat (first | (with_reducible first | exact HK.out | apply Kept.alloc | apply Kept.drewN | apply Kept.drew) | exact HK.out)).1) hn_)))))
                  have n1_ := mz (Kept.then_ (S := (fun k_ => P3_ k_)) (by repeat (first | (with_reducible first | exact HK.out | apply Kept.alloc | apply Kept.drewN | apply Kept.drew) | exact HK.out)) hkp (fun k_ hs_ => (fun e_ => (HO105.out.1 k_ e_.symm)) hs_))
                  have n2_ := mz (hb)
                  clear HK
                  clear HB
                  clear HO105
                  have HO110 := n0_
                  have HK := n1_
                  have HB := n2_
                  clear n0_ n1_ n2_
                  (try clear hb)
                  (try clear hkp)
                  (try clear ho0)
                  refine hK.out _ _ ?_
                  clear hK K
                  refine norm_ (a' := ?_) ?_ ?_
                  rotate_left
                  · show Act.put _ (some 49) _ = _
                    simp only [Act.put, List.setIfInBounds_toArray, List.set_cons_zero, List.set_cons_succ, i64_w, i32_w]
                    rfl
                  refine pure_ (i := 13) (N := some 3) (v := ?_) (a' := ?_) #[true, true, true, true, true, true, true, true, true, true, true, true, true, true] rfl rfl (any_of HT_.out (by kernel_rfl)) (fun _ _ _ h => h) (Or.inl ⟨by rfl, ?_⟩) ?_ ?_
                  rotate_left
                  · intro w'
                    go_simp
                    with_reducible rfl
                  rotate_left
                  · simp only [Act.put, List.setIfInBounds_toArray, List.set_cons_zero, List.set_cons_succ, i64_w, i32_w]
                    rfl
                  refine done_ (done_of HT_.out (by kernel_rfl)) ?_
                  try go_wp2
                  go_roundg k1
                  case measure => have := HK1.out; omega
                  case rel => exact ⟨(t108), (wrap64 (x9_1 - 1)), (by first | rfl | (simp; done) | (simp [*]; done)), H', ⟨by have := HK1.out; omega⟩, ⟨by (with_reducible repeat (first | apply Kd.R_alloc | apply Kd.R_drewN | apply Kd.R_drew)); exact HO110.out⟩, ⟨by repeat (first | (with_reducible first | exact HK.out | apply Kept.alloc | apply Kept.drewN | apply Kept.drew) | exact HK.out)⟩, ⟨by repeat (first | (with_reducible first | exact HB.out | apply below_alloc | apply pw_below_drewN | apply below_drew1) | exact HB.out)⟩⟩
                · rw [if_neg c10] at H
                  exact absurd H (by simp)
              · rw [if_neg c9] at H
                have c9b0 : (((rd_T41 l0 x9_1).f3) == a2) = false := beq_eq_false_iff_ne.mpr c9
                have c9b1 : (((rd_T41 l0 x9_1).f3) != a2) = true := bne_iff_ne.mpr c9
                have H' := mz H
                clear H
                have p101 : 0 ≤ (x9_1 : Int) := of_decide_eq_true (by first | (with_reducible assumption) | assumption)
                have q101 : x9_1 < (l0.length : Int) := of_decide_eq_true (by first | (with_reducible assumption) | assumption)
                obtain ⟨ad101, e101, hx101_0, hx101_1, hx101_2, hx101_3, hx101_4, hx101_5⟩ := at_T41 (Kd.C_kept_now HR0.out HK.out) x9_1 p101 q101
                cases e101
                replace p101 := eq_true p101
                replace q101 := eq_true q101
                have p102 : 0 ≤ (x9_1 : Int) := of_decide_eq_true (by first | (with_reducible assumption) | assumption)
                have q102 : x9_1 < (l0.length : Int) := of_decide_eq_true (by first | (with_reducible assumption) | assumption)
                obtain ⟨ad102, e102, hx102_0, hx102_1, hx102_2, hx102_3, hx102_4, hx102_5⟩ := at_T41 (Kd.C_kept_now HR0.out HK.out) x9_1 p102 q102
                obtain rfl : ad101 = ad102 := (by injection e102)
                replace p102 := eq_true p102
                replace q102 := eq_true q102
                go_wp2
                go_roundg k1
                case measure => have := HK1.out; omega
                case rel => exact ⟨(x3_1), (wrap64 (x9_1 - 1)), (by first | rfl | (simp; done) | (simp [*]; done)), H', ⟨by have := HK1.out; omega⟩, ⟨by (with_reducible repeat (first | apply Kd.R_alloc | apply Kd.R_drewN | apply Kd.R_drew)); exact HO_3.out⟩, ⟨by repeat (first | (with_reducible first | exact HK.out | apply Kept.alloc | apply Kept.drewN | apply Kept.drew) | exact HK.out)⟩, ⟨by repeat (first | (with_reducible first | exact HB.out | apply below_alloc | apply pw_below_drewN | apply below_drew1) | exact HB.out)⟩⟩
            · rw [if_neg c8] at H
              have c8b0 : (((rd_T41 l0 x9_1).f2) == a1) = false := beq_eq_false_iff_ne.mpr c8
              have c8b1 : (((rd_T41 l0 x9_1).f2) != a1) = true := bne_iff_ne.mpr c8
              have H' := mz H
              clear H
              have p101 : 0 ≤ (x9_1 : Int) := of_decide_eq_true (by first | (with_reducible assumption) | assumption)
              have q101 : x9_1 < (l0.length : Int) := of_decide_eq_true (by first | (with_reducible assumption) | assumption)
              obtain ⟨ad101, e101, hx101_0, hx101_1, hx101_2, hx101_3, hx101_4, hx101_5⟩ := at_T41 (Kd.C_kept_now HR0.out HK.out) x9_1 p101 q101
              cases e101
              replace p101 := eq_true p101
              replace q101 := eq_true q101
              go_wp2
              go_roundg k1
              case measure => have := HK1.out; omega
              case rel => exact ⟨(x3_1), (wrap64 (x9_1 - 1)), (by first | rfl | (simp; done) | (simp [*]; done)), H', ⟨by have := HK1.out; omega⟩, ⟨by (with_reducible repeat (first | apply Kd.R_alloc | apply Kd.R_drewN | apply Kd.R_drew)); exact HO_3.out⟩, ⟨by repeat (first | (with_reducible first | exact HK.out | apply Kept.alloc | apply Kept.drewN | apply Kept.drew) | exact HK.out)⟩, ⟨by repeat (first | (with_reducible first | exact HB.out | apply below_alloc | apply pw_below_drewN | apply below_drew1) | exact HB.out)⟩⟩
          · rw [if_neg c7] at H
            exact absurd H (by simp)
        · rw [if_neg c6] at H
          exact absurd H (by simp)
      · rw [if_neg c5] at H
        have c5b0 : decide (0 ≤ x9_1) = false := decide_eq_false c5
        clear c5
        obtain rfl := Option.some.inj H
        go_wp2
        go_ret
        exact ⟨_, by first | rfl | (simp [errW_none, errW_some] <;> rfl) | (simp [*, errW_none, errW_some] <;> rfl), by (with_reducible repeat (first | apply Kd.R_alloc | apply Kd.R_drewN | apply Kd.R_drew)); exact HO_3.out, by repeat (first | (with_reducible first | exact HB.out | apply below_alloc | apply pw_below_drewN | apply below_drew1) | exact HB.out), by repeat (first | (with_reducible first | exact HK.out | apply Kept.alloc | apply Kept.drewN | apply Kept.drew) | exact HK.out)⟩
end
theorem specOrder_ev (l : List Atom) (hT : Tree l) : ∀ (d : Nat), d ≤ 80 → ∀ (t a : Int) (_ : ∀ j : Fin l.length, l[j].f2 = t → l[j].f3 = a → l.length ≤ j.1 + d) (out : List Int) (_ : out.length + 1000000 * (d + 1) ≤ 1000000000),
    Ev (fun k => spec_l17Order.f k l t a out) (out ++ ordL l (d + 1) t a) := by
  have hl80 := hT.len
  intro d
  induction d using Nat.strongRecOn with
  | ind d ih =>
    intro hd t a hch out ho
    have hloop : ∀ e j : Nat, j + e = l.length → Ev (fun k => spec_l17Order.l0 k l t a (out ++ ordP l d t a (backs l.length j)) ((l.length : Int) - 1 - (j : Int))) (out ++ ordL l (d + 1) t a) := by
      intro e
      induction e with
      | zero =>
        intro j h
        obtain rfl : j = l.length := by omega
        refine Ev.succ ?_
        simp only [spec_l17Order.l0, if_neg (show ¬ ((l.length : Int) - 1 - (l.length : Int) ≥ 0) by omega)]
        exact Ev.now _
      | succ e ihe =>
        intro j h
        have hi : l.length - 1 - j < l.length := by omega
        have e1 : (l.length : Int) - 1 - (j : Int) = ((l.length - 1 - j : Nat) : Int) := by omega
        have hb := backs_succ l.length j (by omega)
        have hp := ordP_snoc l d t a (backs l.length j) ⟨l.length - 1 - j, hi⟩
        rw [← hb] at hp
        have hnext := ihe (j + 1) (by omega)
        have hpl := ordP_len hT d (by omega) t a (backs l.length j)
        rw [backs_length _ _ (by omega)] at hpl
        have hc1 : l.length ≤ 80 := hl80
        have hx := hch ⟨l.length - 1 - j, hi⟩
        have hlt := hT.lt ⟨l.length - 1 - j, hi⟩
        have hpl2 : j * 6481 ≤ 80 * 6481 := Nat.mul_le_mul_right _ (by omega)
        rw [e1]
        refine Ev.succ ?_
        simp only [spec_l17Order.l0, if_pos (show (((l.length - 1 - j : Nat) : Int) ≥ 0) by omega), if_pos (show (0 : Int) ≤ ((l.length - 1 - j : Nat) : Int) by omega), if_pos (show (((l.length - 1 - j : Nat) : Int) < (l.length : Int)) by omega), rd_atom l (l.length - 1 - j) hi, w64 (n := ((l.length - 1 - j : Nat) : Int) - 1) (by omega) (by omega)]
        rw [show (((l.length - 1 - j : Nat) : Int) - 1) = (l.length : Int) - 1 - ((j + 1 : Nat) : Int) by omega]
        rw [hp] at hnext
        simp only [Fin.getElem_fin] at hnext hx hlt hp
        by_cases c1 : (l[l.length - 1 - j]).f2 = t
        · by_cases c2 : (l[l.length - 1 - j]).f3 = a
          · have hcm : ((l[l.length - 1 - j]).f2 == t && ((l[l.length - 1 - j]).f3 == a)) = true := by simp [c1, c2]
            have h0 := hx c1 c2
            obtain ⟨m, rfl⟩ : ∃ m, d = m + 1 := ⟨d - 1, by omega⟩
            rw [hcm, if_pos rfl] at hnext
            simp only [if_pos c1, if_pos c2]
            have hlen : (out ++ ordP l (m + 1) t a (backs l.length j)).length ≤ out.length + 518480 := by rw [List.length_append]; omega
            have hb2 := ord_bound (m := m) ho hlen
            simp only [if_pos (show (out ++ ordP l (m + 1) t a (backs l.length j)).length < 17592186044416 by omega)]
            refine Ev.bind (ih m (by omega) (by omega) (l[l.length - 1 - j]).f0 (l[l.length - 1 - j]).f1 (fun q h1 h2 => ?_) (out ++ ordP l (m + 1) t a (backs l.length j) ++ [((l.length - 1 - j : Nat) : Int)]) (by rw [List.length_append (bs := [_])]; simpa using hb2)) ?_
            · have := hlt q h1 h2
              omega
            · refine ev_eq ?_ rfl
              have e9 : out ++ ordP l (m + 1) t a (backs l.length j) ++ [((l.length - 1 - j : Nat) : Int)] ++ ordL l (m + 1) (l[l.length - 1 - j]).f0 (l[l.length - 1 - j]).f1 = out ++ (ordP l (m + 1) t a (backs l.length j) ++ ((l.length - 1 - j : Nat) : Int) :: ordL l (m + 1) (l[l.length - 1 - j]).f0 (l[l.length - 1 - j]).f1) := by simp
              rw [e9]
              exact hnext
          · have hcm : ((l[l.length - 1 - j]).f2 == t && ((l[l.length - 1 - j]).f3 == a)) = false := by simp [c2]
            rw [hcm, if_neg (by simp), List.append_nil] at hnext
            simp only [if_pos c1, if_neg c2]
            exact hnext
        · have hcm : ((l[l.length - 1 - j]).f2 == t && ((l[l.length - 1 - j]).f3 == a)) = false := by simp [c1]
          rw [hcm, if_neg (by simp), List.append_nil] at hnext
          simp only [if_neg c1]
          exact hnext
    have h0 := hloop l.length 0 (by omega)
    refine Ev.succ ?_
    simp only [spec_l17Order.f, w64 (n := (l.length : Int) - 1) (by omega) (by omega)]
    simpa [backs_nil, ordP] using h0
theorem specOrder_top (l : List Atom) (hT : Tree l) : Ev (fun k => spec_l17Order.f k l 0 0 []) (ordT l) := by
  have := specOrder_ev l hT 80 (Nat.le_refl _) 0 0 (fun j _ _ => by have := hT.len; omega) [] (by simp)
  simpa [ordT] using this
theorem ordT_short (l : List Atom) (hT : Tree l) : (ordT l).length ≤ 6480 := hT.short 81 0 0 (Nat.le_refl _)
section
attribute [local go_sem] max2_int min2_int max_two min_two max_three min_three max_four min_four
def spec_l17Shown.l0 : Nat → List Int → List Int → Int → Int → List (S41) → Option (List Int)
  | 0, _, _, _, _, _ => none
  | k + 1, x3, x8, x9, x10, x102000 => if x10 < x9 then (if 0 ≤ x10 then (if x10 < (x8.length : Int) then (if 0 ≤ (rd x8 x10) then (if (rd x8 x10) < (x102000.length : Int) then (if ((rd_T41 x102000 (rd x8 x10)).f5 = true) then (spec_l17Shown.l0 k x3 x8 x9 (wrap64 (x10 + 1)) x102000) else (if x3.length < 17592186044416 then (spec_l17Shown.l0 k (x3 ++ [rd x8 x10]) x8 x9 (wrap64 (x10 + 1)) x102000) else (none))) else (none)) else (none)) else (none)) else (none)) else (some x3)
def spec_l17Shown.f (k : Nat) (l0_0 : List (S41)) : Option (List Int) := (spec_l17Order.f k l0_0 0 0 ([] : List Int)).bind fun t102 => (spec_l17Shown.l0 k ([] : List Int) t102 (t102.length : Int) 0 l0_0)
set_option maxHeartbeats 8000000 in
set_option maxRecDepth 100000 in
theorem spec_l17Shown.calls (k : Nat) (A0_0 : Option Addr) (c0_0 : Nat) (l0_0 : List (S41)) (r : List Int) (w : World) (hr0_0 : Kd.C k41 w A0_0 l0_0.length l0_0) (hc0_0 : l0_0.length ≤ c0_0) (h : spec_l17Shown.f k l0_0 = some r) :
    Calls Try.prog 14 #[.agg #[.slice A0_0 l0_0.length c0_0]] w fun e w' => ∃ v0_ : Value, e = .returned (v0_) ∧ Kd.R (Kd.int .i64) 3 w' w.heap.size (fun _ => True) v0_ r ∧ Below w.heap.size w w' := by
  have hu28 := Try.underlying28
  have HR0_0 := mz hr0_0
  have HC0_0 := mz hc0_0
  clear hr0_0 hc0_0
  have HB := mz (Below.refl w.heap.size w)
  have H : ((spec_l17Order.f k l0_0 0 0 ([] : List Int)).bind fun t102 => (spec_l17Shown.l0 k ([] : List Int) t102 (t102.length : Int) 0 l0_0)) = some r := h
  clear h
  replace H := be0_ H
  obtain ⟨t102, A20, H⟩ := H
  replace H : (spec_l17Shown.l0 k ([] : List Int) t102 (t102.length : Int) 0 l0_0) = some r := H
  have A2 := mz A20
  clear A20
  have H' := mz H
  clear H
  go_enter Try.func14, Try.ntmps14
  go_wp2_with (first | ((with_reducible refine gate_dst (N := 1) rfl ?_); refine box_event ?hg (N := 1) ?hd (cs := #[.slice A0_0 l0_0.length c0_0]) (t := 28) ?hr ?_; (case hd => rfl); (case hg => rfl); (case hr => first | (go_simp; done) | (go_simp; rfl)); intro gb101 hg w3 hbox hb; have n0_ := mz (below_step (by repeat (first | (with_reducible first | exact HB.out | apply below_alloc | apply pw_below_drewN | apply below_drew1) | exact HB.out)) hb); have n1_ := mz (hbox); have n2_ := mz ((by rw [hg]; exact (below_size (by repeat (first | (with_reducible first | exact HB.out | apply below_alloc | apply pw_below_drewN | apply below_drew1) | exact HB.out))) : w.heap.size ≤ gb101)); have n3_ := mz ((by rw [hg]; exact (below_size (by repeat (first | (with_reducible first | exact HB.out | apply below_alloc | apply pw_below_drewN | apply below_drew1) | exact HB.out))) : w.heap.size ≤ gb101)); clear HB; have HB := n0_; have BK101 := n1_; have GW101 := n2_; have GE101 := n3_; clear n0_ n1_ n2_ n3_; clear hb hbox hg; have hcz4_0 : w3.cell? ⟨gb101, 0, none⟩ = some (.slice A0_0 l0_0.length c0_0) := (blk_cell BK101.out 0).trans rfl; have hfz4_0 := blk_frozen BK101.out 0) | ((with_reducible refine gate_callee (f := 28) rfl ?_); refine goesL_ (some 8) rfl rfl Try.func28 (by kernel_rfl) rfl #[.slice A0_0 l0_0.length c0_0, .int .i64 0, .int .i64 0, .slice none 0 0] rfl (by (try simp only [List.map_toArray, List.map_cons, List.map_nil]); first | done | rfl | (simp only [List.length_drop, List.length_take]; rfl)) ?_; (refine (spec_l17Order.calls k _ _ l0_0 0 0 (fun k_ => some k_ = (.slice none 0 0 : Value).ownBlock) (.slice none 0 0) ([] : List Int) t102 w _ ?side1 ?side2 ?side3 ?side4 A2.out).mono ?_); (case side1 => repeat (first | (with_reducible first | exact HB.out | apply below_alloc | apply pw_below_drewN | apply below_drew1 | refine below_set ?_ GE101.out) | exact HB.out)); (case side2 => exact Kd.C_kept_came k41_heap HR0_0.out (by repeat (first | (with_reducible first | exact HB.out | apply below_alloc | apply pw_below_drewN | apply below_drew1 | refine below_set ?_ GE101.out) | exact HB.out)) (fun k_ hs_ => (fun e_ => by simp [Value.ownBlock] at e_) hs_)); (case side3 => exact HC0_0.out); (case side4 => exact Kd.R_nil _ _ _ _ _); rintro e w5 ⟨v103, rfl, ho0, hb, hkp⟩; refine ⟨_, rfl, ?_⟩; have n0_ := mz (blk_kept (by (with_reducible repeat (first | refine blk_drewN ?_ _ | refine blk_drew ?_ | refine blk_alloc ?_ _)); exact BK101.out) hkp (fun hs_ => (fun e_ => by simp [Value.ownBlock] at e_) hs_)); have n1_ := mz (Kd.R_mono (ok' := fun k_ => True) ho0 (fun k_ hk_ => trivial)); have n2_ := mz (hb); clear BK101; clear HB; have BK101 := n0_; have HO104 := n1_; have HB := n2_; clear n0_ n1_ n2_; (try clear hb); (try clear hkp); (try clear ho0); obtain ⟨Ao6, co6, eo6⟩ := Kd.R_slice HO104.out; subst eo6))
  go_loopg [3, 10] k (fun kq v3 v10 w' => ∃ (x3_1 : List Int) (x10_1 : Int), v10 = .int .i64 x10_1 ∧ Aside0 (spec_l17Shown.l0 kq x3_1 t102 (t102.length : Int) x10_1 l0_0 = some r) ∧ Aside0 (kq ≤ k) ∧ Aside0 (Kd.R (Kd.int .i64) 3 w' w.heap.size (fun k_ => some k_ ≠ ((.slice Ao6 t102.length co6) : Value).ownBlock) v3 x3_1) ∧ Aside0 (Kd.R (Kd.int .i64) 3 w' w.heap.size (fun k_ => some k_ ≠ (v3 : Value).ownBlock) (.slice Ao6 t102.length co6) t102) ∧ Aside0 (w'.heap[gb101]? = some (.cells #[(.slice A0_0 l0_0.length c0_0)] 28 (0, 0))) ∧ Aside0 (Below w.heap.size w w'))
  case atStart => exact ⟨(([] : List Int)), (0), (by first | rfl | (simp; done) | (simp [*]; done)), H', ⟨Nat.le_refl _⟩, ⟨by first | exact Kd.R_nil _ _ _ _ _ | exact Kd.N_nil _ _ _ _ _ | exact Kd.V_nil _ _ _ _ _ | exact Kd.Q_nil _ _ _ _ _ | exact Kd.S_nil _ _ _ _ _⟩, ⟨by (with_reducible repeat (first | apply Kd.R_alloc | apply Kd.R_drewN | apply Kd.R_drew)); exact Kd.R_mono HO104.out (fun _ hk => (by simp [Value.ownBlock]))⟩, ⟨by (with_reducible repeat (first | refine blk_drewN ?_ _ | refine blk_drew ?_ | refine blk_alloc ?_ _)); exact BK101.out⟩, ⟨by repeat (first | (with_reducible first | exact HB.out | apply below_alloc | apply pw_below_drewN | apply below_drew1 | refine below_set ?_ GE101.out) | exact HB.out)⟩⟩
  case round =>
    clear H'
    try clear c1
    try clear c2
    try clear p2
    try clear hcz4_0
    try clear hfz4_0
    obtain ⟨x3_1, x10_1, rfl, HA, HK1, HO_3, HO_8, BK101, HB⟩ := hrel
    cases gk with
    | zero => exact absurd HA.out (by simp [spec_l17Shown.l0])
    | succ k1 =>
      have H := HA.out
      clear HA
      simp only [spec_l17Shown.l0] at H
      by_cases c7 : x10_1 < (t102.length : Int)
      · rw [if_pos c7] at H
        have c7b0 : decide (x10_1 < (t102.length : Int)) = true := decide_eq_true c7
        clear c7
        by_cases c8 : 0 ≤ x10_1
        · rw [if_pos c8] at H
          have c8b0 : decide (0 ≤ x10_1) = true := decide_eq_true c8
          clear c8
          by_cases c9 : x10_1 < (t102.length : Int)
          · rw [if_pos c9] at H
            have c9b0 : decide (x10_1 < (t102.length : Int)) = true := decide_eq_true c9
            clear c9
            by_cases c10 : 0 ≤ (rd t102 x10_1)
            · rw [if_pos c10] at H
              have c10b0 : decide (0 ≤ (rd t102 x10_1)) = true := decide_eq_true c10
              clear c10
              by_cases c11 : (rd t102 x10_1) < (l0_0.length : Int)
              · rw [if_pos c11] at H
                have c11b0 : decide ((rd t102 x10_1) < (l0_0.length : Int)) = true := decide_eq_true c11
                clear c11
                obtain ⟨bq12, hbq12⟩ : ∃ b_ : Bool, b_ = ((rd_T41 l0_0 (rd t102 x10_1)).f5) := ⟨_, rfl⟩
                replace H : (if (bq12 = true) then (spec_l17Shown.l0 k1 x3_1 t102 (t102.length : Int) (wrap64 (x10_1 + 1)) l0_0) else (if x3_1.length < 17592186044416 then (spec_l17Shown.l0 k1 (x3_1 ++ [rd t102 x10_1]) t102 (t102.length : Int) (wrap64 (x10_1 + 1)) l0_0) else (none))) = some r := by rw [← hbq12] at H; exact H
                have Nbq12 := mz hbq12
                clear hbq12
                by_cases c13 : (bq12 = true)
                · subst c13
                  have H1 : (spec_l17Shown.l0 k1 x3_1 t102 (t102.length : Int) (wrap64 (x10_1 + 1)) l0_0) = some r := by rw [if_pos rfl] at H; exact H
                  clear H
                  have H := H1
                  clear H1
                  have H' := mz H
                  clear H
                  have p105 : 0 ≤ (x10_1 : Int) := of_decide_eq_true (by first | (with_reducible assumption) | assumption)
                  have q105 : x10_1 < (t102.length : Int) := of_decide_eq_true (by first | (with_reducible assumption) | assumption)
                  obtain ⟨ad105, e105, hx105_0⟩ := Kd.at_int (Kd.R_reads' HO_8.out).2.2 x10_1 p105 q105
                  cases e105
                  replace p105 := eq_true p105
                  replace q105 := eq_true q105
                  have hcz14_0 : wr.cell? ⟨gb101, 0, none⟩ = some (.slice A0_0 l0_0.length c0_0) := (blk_cell BK101.out 0).trans rfl
                  have hfz14_0 := blk_frozen BK101.out 0
                  have p106 : 0 ≤ ((rd t102 x10_1) : Int) := of_decide_eq_true (by first | (with_reducible assumption) | assumption)
                  have q106 : (rd t102 x10_1) < (l0_0.length : Int) := of_decide_eq_true (by first | (with_reducible assumption) | assumption)
                  obtain ⟨ad106, e106, hx106_0, hx106_1, hx106_2, hx106_3, hx106_4, hx106_5⟩ := at_T41 HR0_0.out (rd t102 x10_1) p106 q106
                  (try rw [← Nbq12.out] at hx106_5)
                  cases e106
                  replace hx106_0 := bc_ HB.out hx106_0
                  replace hx106_1 := bc_ HB.out hx106_1
                  replace hx106_2 := bc_ HB.out hx106_2
                  replace hx106_3 := bc_ HB.out hx106_3
                  replace hx106_4 := bc_ HB.out hx106_4
                  replace hx106_5 := bc_ HB.out hx106_5
                  replace p106 := eq_true p106
                  replace q106 := eq_true q106
                  go_wp2
                  go_roundg k1
                  case measure => have := HK1.out; omega
                  case rel => exact ⟨(x3_1), (wrap64 (x10_1 + 1)), (by first | rfl | (simp; done) | (simp [*]; done)), H', ⟨by have := HK1.out; omega⟩, ⟨by (with_reducible repeat (first | apply Kd.R_alloc | apply Kd.R_drewN | apply Kd.R_drew)); exact HO_3.out⟩, ⟨by (with_reducible repeat (first | apply Kd.R_alloc | apply Kd.R_drewN | apply Kd.R_drew)); exact HO_8.out⟩, ⟨by (with_reducible repeat (first | refine blk_drewN ?_ _ | refine blk_drew ?_ | refine blk_alloc ?_ _)); exact BK101.out⟩, ⟨by repeat (first | (with_reducible first | exact HB.out | apply below_alloc | apply pw_below_drewN | apply below_drew1 | refine below_set ?_ GE101.out) | exact HB.out)⟩⟩
                · replace c13 := Bool.eq_false_iff.mpr c13
                  subst c13
                  have H1 : (if x3_1.length < 17592186044416 then (spec_l17Shown.l0 k1 (x3_1 ++ [rd t102 x10_1]) t102 (t102.length : Int) (wrap64 (x10_1 + 1)) l0_0) else (none)) = some r := by rw [if_neg (show ¬ (false = true) by decide)] at H; exact H
                  clear H
                  have H := H1
                  clear H1
                  by_cases c15 : x3_1.length < 17592186044416
                  · rw [if_pos c15] at H
                    have LMc15 := mz c15
                    clear c15
                    obtain ⟨y107, hy107⟩ : ∃ y_ : List Int, y_ = (x3_1 ++ [rd t102 x10_1]) := ⟨_, rfl⟩
                    replace H : (spec_l17Shown.l0 k1 y107 t102 (t102.length : Int) (wrap64 (x10_1 + 1)) l0_0) = some r := by first | (rw [hy107]; with_reducible exact H) | (have H2_ := (Option.bind_some _ _).symm.trans H; rw [hy107]; with_reducible exact H2_) | (have H2_ := (Option.bind_some _ _).symm.trans H; with_reducible exact H2_) | with_reducible exact H | (rw [hy107]; exact H) | exact H
                    have Ny107 := mz hy107
                    clear hy107
                    have H' := mz H
                    clear H
                    have p105 : 0 ≤ (x10_1 : Int) := of_decide_eq_true (by first | (with_reducible assumption) | assumption)
                    have q105 : x10_1 < (t102.length : Int) := of_decide_eq_true (by first | (with_reducible assumption) | assumption)
                    obtain ⟨ad105, e105, hx105_0⟩ := Kd.at_int (Kd.R_reads' HO_8.out).2.2 x10_1 p105 q105
                    cases e105
                    replace p105 := eq_true p105
                    replace q105 := eq_true q105
                    have hcz16_0 : wr.cell? ⟨gb101, 0, none⟩ = some (.slice A0_0 l0_0.length c0_0) := (blk_cell BK101.out 0).trans rfl
                    have hfz16_0 := blk_frozen BK101.out 0
                    have p106 : 0 ≤ ((rd t102 x10_1) : Int) := of_decide_eq_true (by first | (with_reducible assumption) | assumption)
                    have q106 : (rd t102 x10_1) < (l0_0.length : Int) := of_decide_eq_true (by first | (with_reducible assumption) | assumption)
                    obtain ⟨ad106, e106, hx106_0, hx106_1, hx106_2, hx106_3, hx106_4, hx106_5⟩ := at_T41 HR0_0.out (rd t102 x10_1) p106 q106
                    (try rw [← Nbq12.out] at hx106_5)
                    cases e106
                    replace hx106_0 := bc_ HB.out hx106_0
                    replace hx106_1 := bc_ HB.out hx106_1
                    replace hx106_2 := bc_ HB.out hx106_2
                    replace hx106_3 := bc_ HB.out hx106_3
                    replace hx106_4 := bc_ HB.out hx106_4
                    replace hx106_5 := bc_ HB.out hx106_5
                    replace p106 := eq_true p106
                    replace q106 := eq_true q106
                    go_wp2_with (first | ((with_reducible refine gate_builtin (b := .append) (xs := #[.tmp 21, .tmp 23]) rfl ?_); at_builtin; refine Kd.R_append (Kd.int .i64) (w0 := w) w.heap.size rfl (.tmp 21) (.tmp 23) 38 3 (.int .i64 0) 8 rfl Try.underlying38 info3 rfl (by decide) (by omega) u3 x3_1 (rd t102 x10_1) [.int .i64 (rd t102 x10_1)] (fun k_ => some k_ ≠ (.slice (some ad105) t102.length co6 : Value).ownBlock) (fun _ => False) rfl rfl ?aP (fun _ hk => hk.elim) ?aF ?aO ?aB ?aS ?aL ?_; (case aP => exact rfl); (case aB => exact (by repeat (first | (with_reducible first | exact HB.out | apply below_alloc | apply pw_below_drewN | apply below_drew1 | refine below_set ?_ GE101.out) | exact HB.out))); (case aF => exact (fun k_ hk => Kd.fresh' (Kd.R_lt (by (with_reducible repeat (first | apply Kd.R_alloc | apply Kd.R_drewN | apply Kd.R_drew)); exact HO_8.out)) k_ hk)); (case aO => exact (by (with_reducible repeat (first | apply Kd.R_alloc | apply Kd.R_drewN | apply Kd.R_drew)); exact HO_3.out)); (case aS => exact (below_size (by repeat (first | (with_reducible first | exact HB.out | apply below_alloc | apply pw_below_drewN | apply below_drew1 | refine below_set ?_ GE101.out) | exact HB.out)))); (case aL => have := LMc15.out; omega); intro v108 w17 ho hb hg hat; rw [← Ny107.out] at ho; have n0_ := mz (Kd.R_after (ok := (fun _ => True)) (by (with_reducible repeat (first | apply Kd.R_alloc | apply Kd.R_drewN | apply Kd.R_drew)); exact Kd.R_mono HO_8.out (fun _ hk => ⟨trivial, hk⟩)) hg hat); have n1_ := mz (blk_grown (g := gb101) (o := .cells #[.slice (some ad106) l0_0.length c0_0] 28 (0, 0)) (by (with_reducible repeat (first | refine blk_drewN ?_ _ | refine blk_drew ?_ | refine blk_alloc ?_ _)); exact BK101.out) hg (Kd.R_ne HO_3.out BK101.out (by decide))); have n2_ := mz (hb); have n3_ := mz (ho); clear HO_8; clear BK101; clear HB; clear HO_3; have HO_8 := n0_; have BK101 := n1_; have HB := n2_; have HO109 := n3_; clear n0_ n1_ n2_ n3_; clear ho hb hg hat))
                    go_roundg k1
                    case measure => have := HK1.out; omega
                    case rel => exact ⟨(y107), (wrap64 (x10_1 + 1)), (by first | rfl | (simp; done) | (simp [*]; done)), H', ⟨by have := HK1.out; omega⟩, ⟨by (with_reducible repeat (first | apply Kd.R_alloc | apply Kd.R_drewN | apply Kd.R_drew)); exact HO109.out⟩, ⟨by (with_reducible repeat (first | apply Kd.R_alloc | apply Kd.R_drewN | apply Kd.R_drew)); exact Kd.R_mono HO_8.out (fun _ hk => hk.2)⟩, ⟨by (with_reducible repeat (first | refine blk_drewN ?_ _ | refine blk_drew ?_ | refine blk_alloc ?_ _)); exact BK101.out⟩, ⟨by repeat (first | (with_reducible first | exact HB.out | apply below_alloc | apply pw_below_drewN | apply below_drew1 | refine below_set ?_ GE101.out) | exact HB.out)⟩⟩
                  · rw [if_neg c15] at H
                    exact absurd H (by simp)
              · rw [if_neg c11] at H
                exact absurd H (by simp)
            · rw [if_neg c10] at H
              exact absurd H (by simp)
          · rw [if_neg c9] at H
            exact absurd H (by simp)
        · rw [if_neg c8] at H
          exact absurd H (by simp)
      · rw [if_neg c7] at H
        have c7b0 : decide (x10_1 < (t102.length : Int)) = false := decide_eq_false c7
        clear c7
        obtain rfl := Option.some.inj H
        go_wp2
        go_ret
        exact ⟨_, by first | rfl | (simp [errW_none, errW_some] <;> rfl) | (simp [*, errW_none, errW_some] <;> rfl), by (with_reducible repeat (first | apply Kd.R_alloc | apply Kd.R_drewN | apply Kd.R_drew)); exact Kd.R_mono HO_3.out (fun _ hk => trivial), by repeat (first | (with_reducible first | exact HB.out | apply below_alloc | apply pw_below_drewN | apply below_drew1 | refine below_set ?_ GE101.out) | exact HB.out)⟩
end
theorem rd_ints (l : List Int) (i : Nat) (h : i < l.length) : rd l (i : Int) = l[i] := by
  simp [rd, List.getD_eq_getElem?_getD, h]
theorem ordT_in (l : List Atom) : ∀ i ∈ ordT l, ∃ j : Nat, j < l.length ∧ i = (j : Int) := by
  intro i hi
  obtain ⟨zs, hz⟩ := ordL_fin l 81 0 0
  have h1 : i ∈ ordL l 81 0 0 := hi
  rw [hz] at h1
  obtain ⟨z, _, rfl⟩ := List.mem_map.1 h1
  exact ⟨z.1, z.2, rfl⟩
theorem specShown_loop (l : List Atom) (hT : Tree l) (d : Nat) : ∀ (i : Nat) (out : List Int), i + d = (ordT l).length → out.length ≤ i →
    Ev (fun k => spec_l17Shown.l0 k out (ordT l) ((ordT l).length : Int) (i : Int) l) (out ++ ((ordT l).drop i).filter (shownB l)) := by
  have hl := ordT_short l hT
  induction d with
  | zero =>
    intro i out h ho
    refine Ev.succ ?_
    simp only [spec_l17Shown.l0, if_neg (show ¬ ((i : Int) < ((ordT l).length : Int)) by omega)]
    refine ev_eq (Ev.now _) ?_
    rw [List.drop_eq_nil_of_le (by omega)]; simp
  | succ d ih =>
    intro i out h ho
    have hi : i < (ordT l).length := by omega
    obtain ⟨j, hj, ej⟩ := ordT_in l _ (List.getElem_mem hi)
    have e : (ordT l).drop i = (j : Int) :: (ordT l).drop (i + 1) := by rw [List.drop_eq_getElem_cons hi, ej]
    refine Ev.succ ?_
    simp only [spec_l17Shown.l0, if_pos (show ((i : Int) < ((ordT l).length : Int)) by omega), if_pos (show (0 : Int) ≤ i by omega), rd_ints (ordT l) i hi, ej, if_pos (show (0 : Int) ≤ (j : Int) by omega), if_pos (show (j : Int) < (l.length : Int) by omega), w64 (show -9223372036854775808 ≤ (i : Int) + 1 by omega) (by omega)]
    rw [e, List.filter_cons]
    have hs : shownB l (j : Int) = !(rd_T41 l (j : Int)).f5 := rfl
    rw [hs]
    cases (rd_T41 l (j : Int)).f5 with
    | true =>
      simp only [if_true, Bool.not_true, Bool.false_eq_true, if_false]
      exact ih (i + 1) out (by omega) (by omega)
    | false =>
      simp only [Bool.false_eq_true, if_false, Bool.not_false, if_true, if_pos (show out.length < 17592186044416 by omega)]
      have := ih (i + 1) (out ++ [(j : Int)]) (by omega) (by simp; omega)
      simpa using this
theorem specShown_ev (l : List Atom) (hT : Tree l) : Ev (fun k => spec_l17Shown.f k l) (shownL l) := by
  unfold spec_l17Shown.f
  refine Ev.bind (specOrder_top l hT) ?_
  have := specShown_loop l hT (ordT l).length 0 [] (by omega) (by simp)
  simpa [shownL] using this
section
variable {P : Program} {ops : Array Oper} {Q : Exit → Act → World → Prop} {md : Region.Mode} {S : World → Prop} {fuel : Nat} {listed : Array Bool} {a a' : Act} {w : World} {oi : Oper}
theorem tF_ (i : Nat) {G : World → Prop} {v : Value} (F : ∀ w, S w → G w)
    (h : wpAnyH P md ops Q S fuel (listed.setIfInBounds i true) a' w) (hi : ops[i]? = some oi := by rfl) (hs : Region.noSelect ops = true := by kernel_rfl) (hf : Region.free md ops listed i = true := by kernel_rfl) (hr : (Region.ready md ops listed).contains i = true := by kernel_rfl)
    (hw : Region.wanted oi (yielded ops a.tmps) = true := by rfl) (hS : S w := by assumption)
    (hy : ∀ w, G w → (execOp a.eval oi).run P w = .ok (.value v) w := by (intro w hSw; (try dsimp only at hSw); go_simp; (try with_reducible rfl)))
    (hQ : ∀ c a w, Q (.panic c) (a.put oi.dst v) w → Q (.panic c) a w := by exact fun _ _ _ h => h)
    (ha : a.put oi.dst v = a' := by (simp only [Act.put, List.getElem_toArray, List.getElem_cons_succ, List.getElem_cons_zero, List.setIfInBounds_toArray, List.set_cons_zero, List.set_cons_succ]; rfl)) : wpAnyH P md ops Q S (fuel + 1) listed a w :=
  wpAnyH_take hi hs hf hr hQ (Or.inl ⟨hw, fun w hw => hy w (F w hw)⟩) hS (ha ▸ h)
theorem tB_ (i : Nat) (cs : Array Value) (t : TypeId)
    (h : ∀ g, g = w.heap.size → ∀ w1, w1.heap[g]? = some (.cells cs t (0, 0)) → Below w.heap.size w w1 → S w1 ∧ ∀ a', a.put oi.dst (.pointer (some ⟨g, 0, none⟩)) = a' → (S w1 → wpAnyH P md ops Q S fuel (listed.setIfInBounds i true) a' w1))
    (hi : ops[i]? = some oi := by rfl) (hr : Region.ready md ops listed = [i] := by kernel_rfl)
    (hw : Region.wanted oi (yielded ops a.tmps) = true := by rfl)
    (hrun : (execOp a.eval oi).run P w = .ok (.value (.pointer (some ⟨w.heap.size, 0, none⟩))) (w.alloc (.cells cs t (0, 0))) := by (first | (go_simp; done) | (go_simp; rfl))) : wpAnyH P md ops Q S (fuel + 1) listed a w := by
  refine wpAnyH_ready hr (by simp) (AllReadyH.cons hi (fun K hK => ?_) AllReadyH.nil)
  rw [if_pos hw]
  unfold Oper.wp
  rw [hrun, Oper.upon_value]
  obtain ⟨hS, hn⟩ := h _ rfl _ (blk_new w _) (below_alloc (Below.refl _ _) _)
  exact hK.out _ _ hS (hn _ rfl)
theorem tS_ (i : Nat) {w1 : World}
    (hS : S w1)
    (h : S w1 → wpAnyH P md ops Q S fuel (listed.setIfInBounds i true) a w1)
    (hi : ops[i]? = some oi := by rfl) (hr : Region.ready md ops listed = [i] := by kernel_rfl)
    (hw : Region.wanted oi (yielded ops a.tmps) = true := by rfl) (hd : oi.dst = none := by rfl)
    (hrun : (execOp a.eval oi).run P w = .ok .skip w1 := by (first | (go_simp; done) | (go_simp; rfl))) : wpAnyH P md ops Q S (fuel + 1) listed a w := by
  refine wpAnyH_ready hr (by simp) (AllReadyH.cons hi (fun K hK => ?_) AllReadyH.nil)
  rw [if_pos hw]
  unfold Oper.wp
  rw [hrun, Oper.upon_skip, hd]
  exact hK.out _ _ hS h
end
theorem goodC (A : Option Addr) (c : Nat) (l : List Atom) (w : World) (hr : Kd.C k41 w A l.length l) (hc : l.length ≤ c) (hl : l.length ≤ 9223372036854775806) (hs : sizedA l = true) :
    Calls Try.prog 12 #[.agg #[.slice A l.length c]] w fun e w' => e = .returned (.bool (goodS l)) ∧ Below w.heap.size w w' := by
  obtain ⟨k, hk⟩ := (specSeq_ev l hl hs).rounds
  exact spec_GoodSeq.calls k A c l _ w hr hc hk
theorem shownC (A : Option Addr) (c : Nat) (l : List Atom) (w : World) (hr : Kd.C k41 w A l.length l) (hc : l.length ≤ c) (hT : Tree l) :
    Calls Try.prog 14 #[.agg #[.slice A l.length c]] w fun e w' => ∃ v0_ : Value, e = .returned v0_ ∧ Kd.R (Kd.int .i64) 3 w' w.heap.size (fun _ => True) v0_ (shownL l) ∧ Below w.heap.size w w' := by
  obtain ⟨k, hk⟩ := (specShown_ev l hT).rounds
  exact spec_l17Shown.calls k A c l _ w hr hc hk
theorem l1InC (a lo hi : Int) (w : World) : Calls Try.prog 13 #[.int .i64 a, .int .i64 lo, .int .i64 hi] w fun e w' => e = .returned (.bool (decide (lo ≤ a) && decide (a ≤ hi))) ∧ Below w.heap.size w w' :=
  (spec_l1In.calls a lo hi _ w (l1In_val a lo hi)).mono fun e w' h => ⟨h.1, h.2.below⟩
theorem fill6 {w w3 : World} {g : Nat} {t : TypeId} {z0 z1 z2 z3 z4 z5 v0 v1 v2 v3 v4 v5 : Value} (hb : Below w.heap.size w w3) (hg : w.heap.size ≤ g) (h : w3.heap[g]? = some (.cells #[z0, z1, z2, z3, z4, z5] t (0, 0))) :
    ((((((w3.setCell ⟨g, 0, none⟩ v0).setCell ⟨g, 1, none⟩ v1).setCell ⟨g, 2, none⟩ v2).setCell ⟨g, 3, none⟩ v3).setCell ⟨g, 4, none⟩ v4).setCell ⟨g, 5, none⟩ v5).heap[g]? = some (.cells #[v0, v1, v2, v3, v4, v5] t (0, 0)) ∧
    Below w.heap.size w ((((((w3.setCell ⟨g, 0, none⟩ v0).setCell ⟨g, 1, none⟩ v1).setCell ⟨g, 2, none⟩ v2).setCell ⟨g, 3, none⟩ v3).setCell ⟨g, 4, none⟩ v4).setCell ⟨g, 5, none⟩ v5) :=
  ⟨blk_put (cs' := #[v0, v1, v2, v3, v4, v5]) (blk_put (cs' := #[v0, v1, v2, v3, v4, z5]) (blk_put (cs' := #[v0, v1, v2, v3, z4, z5]) (blk_put (cs' := #[v0, v1, v2, z3, z4, z5]) (blk_put (cs' := #[v0, v1, z2, z3, z4, z5]) (blk_put (cs' := #[v0, z1, z2, z3, z4, z5]) h 0 v0 rfl) 1 v1 rfl) 2 v2 rfl) 3 v3 rfl) 4 v4 rfl) 5 v5 rfl,
   below_set (below_set (below_set (below_set (below_set (below_set hb hg) hg) hg) hg) hg) hg⟩
theorem cells6 {w : World} {g : Nat} {t : TypeId} {a b c d e f : Value} (h : w.heap[g]? = some (.cells #[a, b, c, d, e, f] t (0, 0))) :
    w.cell? ⟨g, 0, none⟩ = some a ∧ w.cell? ⟨g, 1, none⟩ = some b ∧ w.cell? ⟨g, 2, none⟩ = some c ∧ w.cell? ⟨g, 3, none⟩ = some d ∧ w.cell? ⟨g, 4, none⟩ = some e ∧ w.cell? ⟨g, 5, none⟩ = some f :=
  ⟨(blk_cell h 0).trans rfl, (blk_cell h 1).trans rfl, (blk_cell h 2).trans rfl, (blk_cell h 3).trans rfl, (blk_cell h 4).trans rfl, (blk_cell h 5).trans rfl⟩
theorem froz6 {w : World} {g : Nat} {t : TypeId} {cs : Array Value} (h : w.heap[g]? = some (.cells cs t (0, 0))) : w.frozen? ⟨g, 0, none⟩ = false ∧ w.frozen? ⟨g, 1, none⟩ = false ∧ w.frozen? ⟨g, 2, none⟩ = false ∧ w.frozen? ⟨g, 3, none⟩ = false ∧ w.frozen? ⟨g, 4, none⟩ = false ∧ w.frozen? ⟨g, 5, none⟩ = false := ⟨blk_frozen h 0, blk_frozen h 1, blk_frozen h 2, blk_frozen h 3, blk_frozen h 4, blk_frozen h 5⟩
theorem shown_in (l : List Atom) (a : Int) (h0 : 0 ≤ a) (h1 : a < ((shownL l).length : Int)) : ∃ j : Nat, j < l.length ∧ rd (shownL l) a = (j : Int) := by
  have hk : a.toNat < (shownL l).length := by omega
  obtain ⟨j, hj, ej⟩ := shownL_in l _ (List.getElem_mem hk)
  refine ⟨j, hj, ?_⟩
  have e1 : a = ((a.toNat : Nat) : Int) := by omega
  rw [e1, rd_ints (shownL l) a.toNat hk, ej]
theorem newA_sized (l : List Atom) (a1 a2 : Int) (b : ByteArray) (hg : goodS l = true) (h1 : 0 ≤ a1) (h2 : a1 ≤ 9) (h3 : 0 ≤ a2) (h4 : a2 ≤ ((shownL l).length : Int)) (hb : b.size ≤ maxLen) (hs : sizedA l = true) : sizedA (l ++ [newA l a1 a2 b]) = true := by
  have hat : ∀ j : Nat, j < l.length → 1 ≤ (rd_T41 l (j : Int)).f0 ∧ (rd_T41 l (j : Int)).f0 ≤ 10000 ∧ 0 ≤ (rd_T41 l (j : Int)).f1 ∧ (rd_T41 l (j : Int)).f1 ≤ 9 := by
    intro j hj
    rw [rd_atom l j hj]
    have := plainA_of ((goodS_of hg).2.1 _ (List.getElem_mem hj))
    exact ⟨this.1, this.2.1, this.2.2.1, this.2.2.2.1⟩
  have q0 : (Lit.int .i64 (newA l a1 a2 b).f0).wf = true := by
    show (Lit.int .i64 (if 0 < l.length then _ else 1)).wf = true
    by_cases hn : 0 < l.length
    · rw [if_pos hn]
      have := hat (l.length - 1) (by omega)
      rw [show ((l.length - 1 : Nat) : Int) = (l.length : Int) - 1 by omega] at this
      exact wf_small (by omega) (by omega)
    · rw [if_neg hn]; exact wf_small (by omega) (by omega)
  have q2 : (Lit.int .i64 (newA l a1 a2 b).f2).wf = true ∧ (Lit.int .i64 (newA l a1 a2 b).f3).wf = true := by
    show (Lit.int .i64 (if 0 < a2 then _ else 0)).wf = true ∧ (Lit.int .i64 (if 0 < a2 then _ else 0)).wf = true
    by_cases ha : 0 < a2
    · rw [if_pos ha, if_pos ha]
      obtain ⟨j, hj, e⟩ := shown_in l (a2 - 1) (by omega) (by omega)
      rw [e]
      have := hat j hj
      exact ⟨wf_small (by omega) (by omega), wf_small (by omega) (by omega)⟩
    · rw [if_neg ha, if_neg ha]; exact ⟨wf_small (by omega) (by omega), wf_small (by omega) (by omega)⟩
  unfold sizedA at hs ⊢
  rw [List.all_append, hs]
  have q1 : (Lit.int .i64 (newA l a1 a2 b).f1).wf = true := wf_small h1 (show a1 ≤ 100000 by omega)
  have q4 : (newA l a1 a2 b).f4.size ≤ maxLen := hb
  simp [q0, q1, q2.1, q2.2, q4]
theorem ne_typed {w : World} {base g : Nat} {ok : Nat → Prop} {v : Value} {xs : List Atom} {cs : Array Value} {t : Nat} (h : Kd.R k41 41 w base ok v xs) (hk : w.heap[g]? = some (.cells cs t (0, 0))) (ht : t ≠ 41) : some g ≠ v.ownBlock := by
  intro e
  obtain ⟨cells, hc⟩ := Kd.R_typed h g e.symm
  rw [hk] at hc
  injection hc with hc
  injection hc with _ h2
  exact ht h2
theorem R_past {w : World} {base g : Nat} {v u : Value} {xs : List Atom} {cs : Array Value} {t : Nat} (h : Kd.R k41 41 w base (fun _ => True) v xs) (hk : w.heap[g]? = some (.cells cs t (0, 0))) (ht : ∀ q, q ∈ 41 :: k41.E → q ≠ t) : Kd.R k41 41 (w.setCell ⟨g, 0, none⟩ u) base (fun _ => True) v xs := by
  have h1 : Kd.R k41 41 w base (fun k => k ≠ g) v xs := Kd.R_mono (Kd.R_bound h) (fun k hk2 he => by
    obtain ⟨_, _, _, q, hq, cells, hc⟩ := hk2
    subst he
    rw [hk] at hc
    injection hc with hc
    injection hc with _ h2
    exact ht q hq h2.symm)
  exact Kd.R_mono (Kd.R_far (p := ⟨g, 0, none⟩) h1 (fun k hk2 => hk2) u) (fun _ _ => trivial)
theorem ap_step {P : Program} {ops : Array Oper} {Q : Exit → Act → World → Prop} {Kc : Act → World → Prop} {o : Oper} {a : Act} {w0 W : World} (hP : P = Try.prog) (s x : Operand) (v : Value) (xs ys : List Atom) (A : Option Addr) (m c : Nat)
    (HO : Kd.R k41 41 W w0.heap.size (fun _ => True) v xs) (HR : ReadsRow (k41.K W) 6 W A m ys) (HB : Below w0.heap.size w0 W) (hl : xs.length + m ≤ 1000)
    (h : ∀ v1 w1, Kd.R k41 41 w1 w0.heap.size (fun _ => True) v1 (xs ++ ys) → Below w0.heap.size w0 w1 → W.grownBy w1 v.ownBlock → (v1.ownBlock = v.ownBlock ∨ ∃ b, v1.ownBlock = some b ∧ W.heap.size ≤ b) → Kc (a.put o.dst v1) w1)
    (hw : Region.wanted o (yielded ops a.tmps) = true := by rfl) (ho : o.op = .call { callee := .builtin .append, args := #[s, x], argTypes := #[26, 26] } := by rfl) (hs : a.eval s = v := by rfl) (hx : a.eval x = .slice A m c := by rfl) :
    if Region.wanted o (yielded ops a.tmps) = true then Oper.wp P o a W Kc Q else Kc (a.put o.dst undef) W := by
  subst hP
  exact Kd.R_append_rows_step k41 (Rr := k41.K W) (w0 := w0) w0.heap.size hw s x 26 41 (.agg #[(.int .i64 0), (.int .i64 0), (.int .i64 0), (.int .i64 0), (.string ⟨#[]⟩), (.bool false)]) 56 ho Try.underlying26 info41 rfl (by decide) (by decide) v xs ys A m c (fun _ => True) (fun _ => False) hs hx HO HR (fun x cs h => by rw [k41_open h]; exact k41_mkM _ _ _ x) (fun _ hk => hk.elim) (fun _ _ => trivial) HB HB.size (by omega) h
def cA (x : Atom) : Array Value := #[.int .i64 x.f0, .int .i64 x.f1, .int .i64 x.f2, .int .i64 x.f3, .string x.f4, .bool x.f5]
theorem reads_one {W w0 : World} {g : Nat} {y : Atom} (h : W.heap[g]? = some (.cells (cA y) 41 (0, 0))) : ReadsRow (k41.K w0) 6 W (some ⟨g, 0, none⟩) 1 [y] :=
  ⟨rfl, by omega, fun _ => ⟨_, rfl, fun j p hj => by
    have hj0 : j = 0 := by
      have := (List.getElem?_eq_some_iff.1 hj).1
      simp at this
      exact this
    subst hj0
    obtain rfl : y = p := by simpa using hj
    refine ⟨[.int .i64 y.f0, .int .i64 y.f1, .int .i64 y.f2, .int .i64 y.f3, .string y.f4, .bool y.f5], rfl, Kd.K_of_M k41 (k41_mkM w0 0 (fun _ => True) y), fun i u hi => ?_⟩
    obtain ⟨c0, c1, c2, c3, c4, c5⟩ := cells6 (show W.heap[g]? = some (.cells #[.int .i64 y.f0, .int .i64 y.f1, .int .i64 y.f2, .int .i64 y.f3, .string y.f4, .bool y.f5] _ (0, 0)) from h)
    match i, hi with
    | 0, hi => obtain rfl := Option.some.inj hi; exact c0
    | 1, hi => obtain rfl := Option.some.inj hi; exact c1
    | 2, hi => obtain rfl := Option.some.inj hi; exact c2
    | 3, hi => obtain rfl := Option.some.inj hi; exact c3
    | 4, hi => obtain rfl := Option.some.inj hi; exact c4
    | 5, hi => obtain rfl := Option.some.inj hi; exact c5
    | i + 6, hi => simp at hi⟩⟩

set_option maxHeartbeats 8000000 in
set_option maxRecDepth 100000 in
theorem specPut_walk (A : Option Addr) (c : Nat) (l : List Atom) (a1 a2 : Int) (b : ByteArray) (w : World) (hr : Kd.C k41 w A l.length l) (hc : l.length ≤ c) (hl : l.length ≤ 9223372036854775806) (hs : sizedA l = true) (hb : b.size ≤ maxLen) :
    Calls Try.prog 5 #[.agg #[.slice A l.length c], .int .i64 a1, .int .i64 a2, .string b] w fun e w' => ∃ v0_ : Value, e = .returned (.tuple #[.agg #[v0_], .bool (putV l a1 a2 b).2]) ∧ Kd.R k41 41 w' w.heap.size (fun _ => True) v0_ (putV l a1 a2 b).1 ∧ Below w.heap.size w w' := by
 have HR := mz hr
 have HC := mz hc
 have HGC := mz (fun w' hr' => goodC A c l w' hr' hc hl hs)
 have HS := mz hs
 have HBS := mz hb
 clear hr hc hl hs hb
 go_enter Try.func5, Try.ntmps5
 go_wp2_with (first | ((with_reducible refine gate_dst (N := 4) rfl ?_); refine box_event ?hg (N := 4) ?hd (cs := #[.slice A l.length c]) (t := 28) ?hr ?_; (case hd => rfl); (case hg => rfl); (case hr => first | (go_simp; done) | (go_simp; rfl)); intro g4 hg w3 hbox hb; have B3 : Aside0 (Below w.heap.size w w3) := ⟨hb⟩; have K43 := mz hbox; have G4 : Aside0 (w.heap.size ≤ g4) := ⟨by rw [hg]; exact Nat.le_refl _⟩; have x4 : w3.cell? ⟨g4, 0, none⟩ = some (.slice A l.length c) := (blk_cell hbox 0).trans rfl; clear hb hbox hg) | ((with_reducible refine gate_dst (N := 8) rfl ?_); refine box_event ?hg (N := 8) ?hd (cs := #[.slice none 0 0]) (t := 28) ?hr ?_; (case hd => rfl); (case hg => rfl); (case hr => first | (go_simp; done) | (go_simp; rfl)); intro g8 hg w4 hbox hb; have B4 := mz (below_step B3.out hb); have K44 := mz (blk_below K43.out hb); have K84 := mz hbox; have N48 : Aside0 (g4 ≠ g8) := ⟨by rw [hg]; exact Nat.ne_of_lt (blk_lt K43.out)⟩; have G8 : Aside0 (w.heap.size ≤ g8) := ⟨by rw [hg]; exact B3.out.size⟩; clear x4; have x4 : w4.cell? ⟨g4, 0, none⟩ = some (.slice A l.length c) := (blk_cell K44.out 0).trans rfl; clear hb hbox hg))
 refine (HGC.out _ (Kd.C_below HR.out B4.out)).mono ?_
 rintro e w5 ⟨rfl, hb⟩
 have B5 := mz (below_step B4.out hb)
 have K45 := mz (blk_below K44.out hb)
 have K85 := mz (blk_below K84.out hb)
 clear hb x4 B4 K44 K84
 have x4 : w5.cell? ⟨g4, 0, none⟩ = some (.slice A l.length c) := (blk_cell K45.out 0).trans rfl
 cases p : goodS l with
 | false =>
  have NONE : Aside0 (putV l a1 a2 b = ([], false)) := ⟨by unfold putV; rw [if_neg (by rintro ⟨q1, q2, q3, q4, q5, q6, q7⟩; rw [p] at q1; cases q1)]⟩
  have y8 : w5.cell? ⟨g8, 0, none⟩ = some (.slice none 0 0) := (blk_cell K85.out 0).trans rfl
  have z8 := blk_frozen K85.out 0
  go_wp2_with fail
  refine bodyPost_ret (results_ct rfl _ _ g8 28 #[.slice none 0 0] (0, 0) _ rfl (blk_put (cs := #[.slice none 0 0]) K85.out 0 _ rfl) Try.underlying28 rfl (by kernel_rfl)) rfl ?_
  rw [NONE.out]
  exact ⟨.slice none 0 0, rfl, Kd.R_nil _ _ _ _ _, below_set B5.out G8.out⟩
 | true =>
  have HP := mz p
  have HT := mz (tree_of_good p).1
  clear p
  go_wp2_with fail
  refine (l1InC a1 0 9 _).mono ?_
  rintro e w6 ⟨rfl, hb⟩
  have B6 := mz (below_step B5.out hb)
  have K46 := mz (blk_below K45.out hb)
  have K86 := mz (blk_below K85.out hb)
  clear hb x4 B5 K45 K85
  have x4 : w6.cell? ⟨g4, 0, none⟩ = some (.slice A l.length c) := (blk_cell K46.out 0).trans rfl
  cases p1 : (decide (0 ≤ a1) && decide (a1 ≤ 9)) with
  | false =>
   have NONE : Aside0 (putV l a1 a2 b = ([], false)) := ⟨by unfold putV; rw [if_neg (by rintro ⟨q1, q2, q3, q4, q5, q6, q7⟩; rw [decide_eq_true q2, decide_eq_true q3] at p1; cases p1)]⟩
   clear p1
   have y8 : w6.cell? ⟨g8, 0, none⟩ = some (.slice none 0 0) := (blk_cell K86.out 0).trans rfl
   have z8 := blk_frozen K86.out 0
   go_wp2_with fail
   refine bodyPost_ret (results_ct rfl _ _ g8 28 #[.slice none 0 0] (0, 0) _ rfl (blk_put (cs := #[.slice none 0 0]) K86.out 0 _ rfl) Try.underlying28 rfl (by kernel_rfl)) rfl ?_
   rw [NONE.out]
   exact ⟨.slice none 0 0, rfl, Kd.R_nil _ _ _ _ _, below_set B6.out G8.out⟩
  | true =>
   rw [Bool.and_eq_true] at p1
   have h10 : 0 ≤ a1 := of_decide_eq_true p1.1
   have h19 : a1 ≤ 9 := of_decide_eq_true p1.2
   clear p1
   go_wp2_with fail
   refine (shownC A c l _ (Kd.C_below HR.out B6.out) HC.out HT.out).mono ?_
   rintro e w7 ⟨v10, rfl, hR, hb⟩
   obtain ⟨A10, c10, hv, hcl10, _⟩ := Kd.R_reads hR
   subst hv
   have R10 := mz (Kd.R_lower hR B6.out.size)
   clear hR
   have B7 := mz (below_step B6.out hb)
   have K47 := mz (blk_below K46.out hb)
   have K87 := mz (blk_below K86.out hb)
   clear hb x4 B6 K46 K86
   have x4 : w7.cell? ⟨g4, 0, none⟩ = some (.slice A l.length c) := (blk_cell K47.out 0).trans rfl
   go_wp2_with fail
   refine (l1InC a2 0 ((shownL l).length : Int) _).mono ?_
   rintro e w8 ⟨rfl, hb⟩
   have B8 := mz (below_step B7.out hb)
   have K48 := mz (blk_below K47.out hb)
   have K88 := mz (blk_below K87.out hb)
   have R108 := mz (Kd.R_below R10.out hb)
   clear hb x4 B7 K47 K87
   have x4 : w8.cell? ⟨g4, 0, none⟩ = some (.slice A l.length c) := (blk_cell K48.out 0).trans rfl
   clear R10
   cases p2 : (decide (0 ≤ a2) && decide (a2 ≤ ((shownL l).length : Int))) with
   | false =>
    have NONE : Aside0 (putV l a1 a2 b = ([], false)) := ⟨by unfold putV; rw [if_neg (by rintro ⟨q1, q2, q3, q4, q5, q6, q7⟩; rw [decide_eq_true q5, decide_eq_true q6] at p2; cases p2)]⟩
    clear p2
    have y8 : w8.cell? ⟨g8, 0, none⟩ = some (.slice none 0 0) := (blk_cell K88.out 0).trans rfl
    have z8 := blk_frozen K88.out 0
    go_wp2_with fail
    refine bodyPost_ret (results_ct rfl _ _ g8 28 #[.slice none 0 0] (0, 0) _ rfl (blk_put (cs := #[.slice none 0 0]) K88.out 0 _ rfl) Try.underlying28 rfl (by kernel_rfl)) rfl ?_
    rw [NONE.out]
    exact ⟨.slice none 0 0, rfl, Kd.R_nil _ _ _ _ _, below_set B8.out G8.out⟩
   | true =>
    rw [Bool.and_eq_true] at p2
    have h20 : 0 ≤ a2 := of_decide_eq_true p2.1
    have h2s : a2 ≤ ((shownL l).length : Int) := of_decide_eq_true p2.2
    clear p2
    obtain ⟨y, hy⟩ : ∃ y, y = newA l a1 a2 b := ⟨_, rfl⟩
    have HY := mz hy
    have hyf1 : y.f1 = a1 := by rw [hy]; rfl
    have hyf4 : y.f4 = b := by rw [hy]; rfl
    have hyf5 : y.f5 = false := by rw [hy]; rfl
    have hyf0 : y.f0 = if 0 < l.length then (rd_T41 l ((l.length : Int) - 1)).f0 + 1 else 1 := by rw [hy]; rfl
    have hyf2 : y.f2 = if 0 < a2 then (rd_T41 l (rd (shownL l) (a2 - 1))).f0 else 0 := by rw [hy]; rfl
    have hyf3 : y.f3 = if 0 < a2 then (rd_T41 l (rd (shownL l) (a2 - 1))).f1 else 0 := by rw [hy]; rfl
    clear hy
    have HY0 := mz hyf0
    have HY1 := mz hyf1
    have HY2 := mz hyf2
    have HY3 := mz hyf3
    have HY4 := mz hyf4
    have HY5 := mz hyf5
    clear hyf0 hyf1 hyf2 hyf3 hyf4 hyf5
    go_upto_region 7 with ((with_reducible refine gate_dst (N := 11) rfl ?_); refine box_event ?hg (N := 11) ?hd (cs := #[.int .i64 0, .int .i64 0, .int .i64 0, .int .i64 0, .string ⟨#[]⟩, .bool false]) (t := 41) ?hr ?_; (case hd => rfl); (case hg => rfl); (case hr => first | (go_simp; done) | (go_simp; rfl)); intro g11 hg w_ hbox hb; have HBZ := mz hb; have BZ := mz hbox; have G11 : Aside0 (w8.heap.size ≤ g11) := ⟨by rw [hg]; exact Nat.le_refl _⟩; obtain ⟨z0, z1, z2, z3, z4, z5⟩ := cells6 hbox; obtain ⟨f0, f1, f2, f3, f4, f5⟩ := froz6 hbox; clear x4; have x4 : w_.cell? ⟨g4, 0, none⟩ = some (.slice A l.length c) := (blk_cell (blk_below K48.out hb) 0).trans rfl; clear hb hbox hg)
    obtain ⟨hbk, hbb⟩ := fill6 (v0 := .int .i64 1) (v1 := .int .i64 a1) (v2 := .int .i64 0) (v3 := .int .i64 0) (v4 := .string b) (v5 := .bool false) HBZ.out G11.out BZ.out
    clear z0 z1 z2 z3 z4 z5 f0 f1 f2 f3 f4 f5 BZ HBZ x4
    generalize (((((w_.setCell ⟨g11, 0, none⟩ (.int .i64 1)).setCell ⟨g11, 1, none⟩ (.int .i64 a1)).setCell ⟨g11, 2, none⟩ (.int .i64 0)).setCell ⟨g11, 3, none⟩ (.int .i64 0)).setCell ⟨g11, 4, none⟩ (.string b)).setCell ⟨g11, 5, none⟩ (.bool false) = w9 at hbk hbb ⊢
    have B9 := mz hbb
    have K119 := mz hbk
    clear hbb hbk
    have x4 : w9.cell? ⟨g4, 0, none⟩ = some (.slice A l.length c) := (blk_cell (blk_below K48.out B9.out) 0).trans rfl
    obtain ⟨y0, y1, y2, y3, y4, y5⟩ := cells6 K119.out
    obtain ⟨f0, f1, f2, f3, f4, f5⟩ := froz6 K119.out
    go_upto_if 39 with (fail)
    go_cut [12] (fun z wc => z = .int .i64 (l.length : Int) ∧ Aside0 (wc.heap[g11]? = some (.cells #[.int .i64 y.f0, .int .i64 a1, .int .i64 0, .int .i64 0, .string b, .bool false] 41 (0, 0))) ∧ Aside0 (Below w8.heap.size w8 wc))
    case first =>
     by_cases hn : 0 < l.length
     · obtain ⟨m, hm⟩ : ∃ m, l.length = m + 1 := ⟨l.length - 1, by omega⟩
       have hnz : 0 < (l.length : Int) := by omega
       have hlm : (l.length : Int) - 1 = (m : Int) := by omega
       have hmz : (m : Int) < (l.length : Int) := by omega
       have hm0 : (0 : Int) ≤ (m : Int) := by omega
       have hml : m < l.length := by omega
       obtain ⟨ad, e1, hx0, _⟩ := at_T41 (Kd.C_below HR.out (below_step B8.out B9.out)) (m : Int) hm0 hmz
       subst e1
       rw [Int.toNat_natCast] at hx0
       have hbd := (plainA_of ((goodS_of HP.out).2.1 _ (List.getElem_mem hml)))
       have h0 := HY0.out
       rw [if_pos hn, hlm] at h0
       have hbd1 : (rd_T41 l (m : Int)).f0 ≤ 10000 := by rw [rd_atom l m hml]; exact hbd.2.1
       have hbd0 : 1 ≤ (rd_T41 l (m : Int)).f0 := by rw [rd_atom l m hml]; exact hbd.1
       generalize (rd_T41 l (m : Int)).f0 = t0 at hx0 h0 hbd0 hbd1
       have HT0 := mz h0
       have hl80 := (goodS_of HP.out).1
       have hwm : wrap64 (m : Int) = (m : Int) := w64 (by omega) (by omega)
       have hwt : wrap64 (t0 + 1) = t0 + 1 := w64 (by omega) (by omega)
       clear h0 hbd hm hl80
       go_wp2_with fail
       go_meet
       case rel => exact ⟨rfl, ⟨by rw [HT0.out]; exact blk_put (cs := #[.int .i64 1, .int .i64 a1, .int .i64 0, .int .i64 0, .string b, .bool false]) K119.out 0 _ rfl⟩, ⟨below_set B9.out G11.out⟩⟩
     · have hnz : ¬ 0 < (l.length : Int) := by omega
       have h0 := HY0.out
       rw [if_neg hn] at h0
       have HT0 := mz h0
       clear h0
       go_wp2_with fail
       go_meet
       case rel => exact ⟨rfl, ⟨by rw [HT0.out]; exact K119.out⟩, B9⟩
    case rest =>
     clear x4 y0 y1 y2 y3 y4 y5 f0 f1 f2 f3 f4 f5 K119 B9
     obtain ⟨rfl, K11a, Ba⟩ := hcut
     have x4 : wc.cell? ⟨g4, 0, none⟩ = some (.slice A l.length c) := (blk_cell (blk_below K48.out Ba.out) 0).trans rfl
     go_upto_if 50 with (fail)
     go_cut [12] (fun z wd => z = .int .i64 (l.length : Int) ∧ Aside0 (wd.heap[g11]? = some (.cells (cA y) 41 (0, 0))) ∧ Aside0 (Below w8.heap.size w8 wd))
     case first =>
      by_cases ha : 0 < a2
      · obtain ⟨j, hj, hrd⟩ := shown_in l (a2 - 1) (by omega) (by omega)
        obtain ⟨n2, hn2⟩ : ∃ n2 : Nat, a2 - 1 = (n2 : Int) := ⟨(a2 - 1).toNat, by omega⟩
        have h2 := HY2.out
        have h3 := HY3.out
        rw [if_pos ha, hrd] at h2 h3
        rw [hn2] at hrd
        have hn20 : (0 : Int) ≤ (n2 : Int) := by omega
        have hn2s : (n2 : Int) < ((shownL l).length : Int) := by omega
        have hj0 : (0 : Int) ≤ (j : Int) := by omega
        have hjl : (j : Int) < (l.length : Int) := by omega
        obtain ⟨ad10, e10, hx10⟩ := Kd.at_int (Kd.R_reads' R108.out).2.2 (n2 : Int) hn20 hn2s
        subst e10
        rw [hrd, Int.toNat_natCast] at hx10
        obtain ⟨ad, e1, _⟩ := at_T41 (Kd.C_below HR.out B8.out) (j : Int) hj0 hjl
        subst e1
        have hF : ∀ W' : World, Below wc.heap.size wc W' → W'.cell? ⟨g4, 0, none⟩ = some (.slice (some ad) l.length c) ∧ W'.cell? (ad10.add n2) = some (.int .i64 (j : Int)) ∧ W'.cell? (ad.add (j * 6)) = some (.int .i64 (rd_T41 l (j : Int)).f0) ∧ W'.cell? ⟨(ad.add (j * 6)).block, (ad.add (j * 6)).off + 1, none⟩ = some (.int .i64 (rd_T41 l (j : Int)).f1) ∧ W'.cell? ⟨(ad.add (j * 6)).block, (ad.add (j * 6)).off + 2, none⟩ = some (.int .i64 (rd_T41 l (j : Int)).f2) ∧ W'.cell? ⟨(ad.add (j * 6)).block, (ad.add (j * 6)).off + 3, none⟩ = some (.int .i64 (rd_T41 l (j : Int)).f3) ∧ W'.cell? ⟨(ad.add (j * 6)).block, (ad.add (j * 6)).off + 4, none⟩ = some (.string (rd_T41 l (j : Int)).f4) ∧ W'.cell? ⟨(ad.add (j * 6)).block, (ad.add (j * 6)).off + 5, none⟩ = some (.bool (rd_T41 l (j : Int)).f5) := by
          intro W' hb'
          have hb8 := below_step Ba.out hb'
          obtain ⟨ad', e', q0, q1, q2, q3, q4, q5⟩ := at_T41 (Kd.C_below HR.out (below_step B8.out hb8)) (j : Int) hj0 hjl
          cases e'
          rw [Int.toNat_natCast] at q0 q1 q2 q3 q4 q5
          exact ⟨pw_cell_below hb' x4, pw_cell_below hb8 hx10, q0, q1, q2, q3, q4, q5⟩
        generalize rd_T41 l (j : Int) = o at hF h2 h3
        have HFF := mz hF
        have HT2 := mz h2
        have HT3 := mz h3
        have hsl := shownL_len l HT.out
        have hwn : wrap64 (n2 : Int) = (n2 : Int) := w64 (by omega) (by omega)
        have hwn2 : IntKind.i64.wrap (n2 : Int) = (n2 : Int) := by rw [i64_w]; exact hwn
        clear hsl
        clear hF h2 h3 hx10 hrd
        go_wp2_with fail
        refine wp_region_held_drew (S := fun W' => Below wc.heap.size wc W') (by kernel_rfl) (below_drew1 (Below.refl _ _)) (fun Y => ?_)
        have F := HFF.out
        refine tF_ 0 F ?_
        refine tF_ 1 F ?_
        refine tF_ 2 F ?_
        refine tF_ 3 F ?_
        refine tF_ 4 F ?_
        refine tF_ 5 F ?_
        refine tF_ 6 F ?_
        refine tF_ 7 F ?_
        refine tF_ 8 F ?_
        clear F x4
        refine tB_ 9 #[.int .i64 0, .int .i64 0, .int .i64 0, .int .i64 0, .string ⟨#[]⟩, .bool false] 41 ?_
        intro g13 hg w_ hbox hb
        have G13 : Aside0 (wc.heap.size ≤ g13) := ⟨by rw [hg]; exact Y.size⟩
        have BZ := mz hbox
        have YB := below_step Y hb
        obtain ⟨z0, z1, z2, z3, z4, z5⟩ := cells6 hbox
        obtain ⟨f0, f1, f2, f3, f4, f5⟩ := froz6 hbox
        clear hb hbox hg
        refine ⟨YB, fun a' ha' Y2 => ?_⟩
        subst ha'
        obtain ⟨hbk, hbb⟩ := fill6 (v0 := .int .i64 o.f0) (v1 := .int .i64 o.f1) (v2 := .int .i64 o.f2) (v3 := .int .i64 o.f3) (v4 := .string o.f4) (v5 := .bool o.f5) YB G13.out BZ.out
        refine tS_ 10 (w1 := (((((w_.setCell ⟨g13, 0, none⟩ (.int .i64 o.f0)).setCell ⟨g13, 1, none⟩ (.int .i64 o.f1)).setCell ⟨g13, 2, none⟩ (.int .i64 o.f2)).setCell ⟨g13, 3, none⟩ (.int .i64 o.f3)).setCell ⟨g13, 4, none⟩ (.string o.f4)).setCell ⟨g13, 5, none⟩ (.bool o.f5)) hbb (fun Y3 => ?_)
        clear Y2 YB z0 z1 z2 z3 z4 z5 f0 f1 f2 f3 f4 f5 BZ Y
        generalize (((((w_.setCell ⟨g13, 0, none⟩ (.int .i64 o.f0)).setCell ⟨g13, 1, none⟩ (.int .i64 o.f1)).setCell ⟨g13, 2, none⟩ (.int .i64 o.f2)).setCell ⟨g13, 3, none⟩ (.int .i64 o.f3)).setCell ⟨g13, 4, none⟩ (.string o.f4)).setCell ⟨g13, 5, none⟩ (.bool o.f5) = wd at hbk hbb Y3 ⊢
        refine wpAnyH_done (by kernel_rfl) ?_ _
        have Bd := mz (below_step Ba.out hbb)
        have K13 := mz hbk
        have K11d := mz (blk_below K11a.out hbb)
        clear hbk hbb Y3
        obtain ⟨y0, y1, y2, y3, y4, y5⟩ := cells6 K13.out
        obtain ⟨u0, u1, u2, u3, u4, u5⟩ := cells6 K11d.out
        obtain ⟨f0, f1, f2, f3, f4, f5⟩ := froz6 K11d.out
        have N13 : g13 ≠ g11 := by have h1 := G13.out; have h2 := blk_lt K11a.out; omega
        go_wp2_with fail
        go_meet
        case rel => exact ⟨rfl, ⟨by unfold cA; rw [HT2.out, HT3.out, HY1.out, HY4.out, HY5.out]; exact blk_put (cs := #[.int .i64 y.f0, .int .i64 a1, .int .i64 o.f0, .int .i64 0, .string b, .bool false]) (blk_put (cs := #[.int .i64 y.f0, .int .i64 a1, .int .i64 0, .int .i64 0, .string b, .bool false]) K11d.out 2 _ rfl) 3 _ rfl⟩, ⟨below_set (below_set Bd.out G11.out) G11.out⟩⟩
      · have h2 := HY2.out
        have h3 := HY3.out
        rw [if_neg ha] at h2 h3
        have HT2 := mz h2
        have HT3 := mz h3
        clear h2 h3
        go_wp2_with fail
        go_meet
        case rel => exact ⟨rfl, ⟨by unfold cA; rw [HT2.out, HT3.out, HY1.out, HY4.out, HY5.out]; exact K11a.out⟩, Ba⟩
     case rest =>
      obtain ⟨wd, hwd⟩ : ∃ x : World, x = wc := ⟨_, rfl⟩
      subst hwd
      clear x4 K11a Ba
      obtain ⟨rfl, K11, Bd⟩ := hcut
      have x4 : wd.cell? ⟨g4, 0, none⟩ = some (.slice A l.length c) := (blk_cell (blk_below K48.out Bd.out) 0).trans rfl
      obtain ⟨y0, y1, y2, y3, y4, y5⟩ := cells6 (show wd.heap[g11]? = some (.cells #[.int .i64 y.f0, .int .i64 y.f1, .int .i64 y.f2, .int .i64 y.f3, .string y.f4, .bool y.f5] _ (0, 0)) from K11.out)
      go_upto_region 14 with (fail)
      go_cut [14] (fun z we => ∃ (g14 : Nat) (v72 : Value), z = .pointer (some ⟨g14, 0, none⟩) ∧ Aside0 (we.heap[g14]? = some (.cells #[v72] 28 (0, 0))) ∧ Aside0 (Kd.R k41 41 we wd.heap.size (fun _ => True) v72 (l ++ [y])) ∧ Aside0 (Below wd.heap.size wd we) ∧ Aside0 (wd.heap.size ≤ g14))
      case first =>
       have hl80 : l.length ≤ 80 := (goodS_of HP.out).1
       have HL80 := mz hl80
       clear hl80
       have hF : ∀ W' : World, Below wd.heap.size wd W' → W'.cell? ⟨g4, 0, none⟩ = some (.slice A l.length c) ∧ W'.cell? ⟨g11, 0, none⟩ = some (.int .i64 y.f0) ∧ W'.cell? ⟨g11, 1, none⟩ = some (.int .i64 y.f1) ∧ W'.cell? ⟨g11, 2, none⟩ = some (.int .i64 y.f2) ∧ W'.cell? ⟨g11, 3, none⟩ = some (.int .i64 y.f3) ∧ W'.cell? ⟨g11, 4, none⟩ = some (.string y.f4) ∧ W'.cell? ⟨g11, 5, none⟩ = some (.bool y.f5) := fun W' hb' => ⟨pw_cell_below hb' x4, pw_cell_below hb' y0, pw_cell_below hb' y1, pw_cell_below hb' y2, pw_cell_below hb' y3, pw_cell_below hb' y4, pw_cell_below hb' y5⟩
       have HFF := mz hF
       clear hF x4 y0 y1 y2 y3 y4 y5
       refine wp_region_held_drew (S := fun W' => Below wd.heap.size wd W') (by kernel_rfl) (below_drew1 (Below.refl _ _)) (fun Y => ?_)
       have F := HFF.out
       refine tF_ 1 F ?_
       refine tF_ 2 F ?_
       refine tF_ 4 F ?_
       clear F
       generalize wd.drew = w0_ at Y ⊢
       refine wpAnyH_ready (rs := [0, 5, 8]) (by kernel_rfl) (by simp) (AllReadyH.cons (by rfl) (fun K hK => ?_) (AllReadyH.cons (by rfl) (fun K hK => ?_) (AllReadyH.cons (by rfl) (fun K hK => ?_) AllReadyH.nil)))
       · refine Kd.R_lit_step k41 wd.heap.size 41 (by rfl) (N := 66) rfl (xs := []) (inner := []) (ok := fun _ => True) (okp := fun _ => False) (by first | (go_simp; done) | (go_simp; rfl)) ⟨rfl, fun j p hj => by simp at hj⟩ (fun _ hk => hk.elim) trivial Y Y.size (by decide) ?_
         intro v66 w1_ hR hB hg hat
         have RV := mz hR
         refine hK.out _ _ hB (fun Y => ?_)
         clear hK K hR hB hg hat
         refine wpAnyH_ready (rs := [3, 5, 8]) (by kernel_rfl) (by simp) (AllReadyH.cons (by rfl) (fun K hK => ?_) (AllReadyH.cons (by rfl) (fun K hK => ?_) (AllReadyH.cons (by rfl) (fun K hK => ?_) AllReadyH.nil)))
         · refine ap_step rfl (.tmp 66) (.tmp 68) v66 [] l A l.length c RV.out (Kd.C_below HR.out (below_step (below_step B8.out Bd.out) Y)) Y (by have := HL80.out; first | omega | (simp only [List.length_nil]; omega)) ?_
           intro v69 w2_ hR hB hg hat
           clear RV
           have RV := mz (show Kd.R k41 41 w2_ wd.heap.size (fun _ => True) v69 l from hR)
           refine hK.out _ _ hB (fun Y => ?_)
           clear hK K hR hB hg hat
           refine wpAnyH_ready (rs := [5, 8]) (by kernel_rfl) (by simp) (AllReadyH.cons (by rfl) (fun K hK => ?_) (AllReadyH.cons (by rfl) (fun K hK => ?_) AllReadyH.nil))
           · refine event_step (by rfl) (w1 := w2_.alloc (.cells (cA y) 41 (0, 0))) (v := .slice (some ⟨w2_.heap.size, 0, none⟩) 1 1) (by first | (go_simp; done) | (go_simp; rfl)) ?_
             have hbx := blk_new w2_ (.cells (cA y) 41 (0, 0))
             have hb := below_alloc (Below.refl w2_.heap.size w2_) (.cells (cA y) 41 (0, 0))
             obtain ⟨g71, hg71⟩ : ∃ g, g = w2_.heap.size := ⟨_, rfl⟩
             rw [← hg71] at hbx ⊢
             generalize w2_.alloc (.cells (cA y) 41 (0, 0)) = w3_ at hbx hb ⊢
             have K71 := mz hbx
             have NE : Aside0 (some g71 ≠ v69.ownBlock) := ⟨fun h => by have := Kd.R_lt RV.out g71 h.symm; omega⟩
             have RV := mz (Kd.R_below RV.out hb)
             refine hK.out _ _ (below_step Y hb) (fun Y => ?_)
             clear hK K hb hbx hg71
             refine wpAnyH_ready (rs := [6, 8]) (by kernel_rfl) (by simp) (AllReadyH.cons (by rfl) (fun K hK => ?_) (AllReadyH.cons (by rfl) (fun K hK => ?_) AllReadyH.nil))
             · refine ap_step rfl (.tmp 69) (.tmp 71) v69 l [y] (some ⟨g71, 0, none⟩) 1 1 RV.out (reads_one K71.out) Y (by have := HL80.out; first | omega | (simp only [List.length_nil]; omega)) ?_
               intro v72 w4_ hR hB hg hat
               obtain ⟨A72_, c72_, hv72, _, _⟩ := Kd.R_reads hR
               rw [show (l ++ [y]).length = l.length + 1 from by rw [List.length_append, List.length_singleton]] at hv72
               subst hv72
               clear RV
               have RV := mz hR
               refine hK.out _ _ hB (fun Y => ?_)
               clear hK K hR hB hg hat
               refine tF_ 7 (fun _ h => h) ?_
               refine wpAnyH_ready (rs := [8]) (by kernel_rfl) (by simp) (AllReadyH.cons (by rfl) (fun K hK => ?_) AllReadyH.nil)
               · refine box_step (by rfl) (N := 14) rfl (cs := #[.slice none 0 0]) (t := 28) (by first | (go_simp; done) | (go_simp; rfl)) ?_
                 intro g14 hg w5_ hbox hb
                 have K14 := mz hbox
                 have G14 : Aside0 (wd.heap.size ≤ g14) := ⟨by rw [hg]; exact Y.size⟩
                 have RV := mz (Kd.R_below RV.out hb)
                 refine hK.out _ _ (below_step Y hb) (fun Y => ?_)
                 clear hK K hb hbox hg
                 have x14 : w5_.cell? ⟨g14, 0, none⟩ = some (.slice none 0 0) := (blk_cell K14.out 0).trans rfl
                 have f14 := blk_frozen K14.out 0
                 refine tS_ 9 (w1 := w5_.setCell ⟨g14, 0, none⟩ (.slice A72_ (l.length + 1) c72_)) (below_set Y G14.out) (fun Y2 => ?_)
                 refine wpAnyH_done (by kernel_rfl) ?_ _
                 clear x14 f14
                 go_wp2_with fail
                 go_meet
                 case rel => exact ⟨g14, (.slice A72_ (l.length + 1) c72_), rfl, ⟨blk_put (cs := #[.slice none 0 0]) K14.out 0 _ rfl⟩, ⟨R_past RV.out K14.out (by decide)⟩, ⟨below_set Y G14.out⟩, G14⟩
             · refine box_step (by rfl) (N := 14) rfl (cs := #[.slice none 0 0]) (t := 28) (by first | (go_simp; done) | (go_simp; rfl)) ?_
               intro g14 hg w6_ hbox hb
               have K14 := mz hbox
               have G14 : Aside0 (wd.heap.size ≤ g14) := ⟨by rw [hg]; exact Y.size⟩
               have RV := mz (Kd.R_below RV.out hb)
               have K71 := mz (blk_below K71.out hb)
               refine hK.out _ _ (below_step Y hb) (fun Y => ?_)
               clear hK K hb hbox hg
               refine wpAnyH_ready (rs := [6]) (by kernel_rfl) (by simp) (AllReadyH.cons (by rfl) (fun K hK => ?_) AllReadyH.nil)
               · refine ap_step rfl (.tmp 69) (.tmp 71) v69 l [y] (some ⟨g71, 0, none⟩) 1 1 RV.out (reads_one K71.out) Y (by have := HL80.out; first | omega | (simp only [List.length_nil]; omega)) ?_
                 intro v72 w7_ hR hB hg hat
                 obtain ⟨A72_, c72_, hv72, _, _⟩ := Kd.R_reads hR
                 rw [show (l ++ [y]).length = l.length + 1 from by rw [List.length_append, List.length_singleton]] at hv72
                 subst hv72
                 have K14 := mz ((hg.block g14 (blk_lt K14.out) (ne_typed RV.out K14.out (by decide))).trans K14.out)
                 clear RV
                 have RV := mz hR
                 refine hK.out _ _ hB (fun Y => ?_)
                 clear hK K hR hB hg hat
                 refine tF_ 7 (fun _ h => h) ?_
                 have x14 : w7_.cell? ⟨g14, 0, none⟩ = some (.slice none 0 0) := (blk_cell K14.out 0).trans rfl
                 have f14 := blk_frozen K14.out 0
                 refine tS_ 9 (w1 := w7_.setCell ⟨g14, 0, none⟩ (.slice A72_ (l.length + 1) c72_)) (below_set Y G14.out) (fun Y2 => ?_)
                 refine wpAnyH_done (by kernel_rfl) ?_ _
                 clear x14 f14
                 go_wp2_with fail
                 go_meet
                 case rel => exact ⟨g14, (.slice A72_ (l.length + 1) c72_), rfl, ⟨blk_put (cs := #[.slice none 0 0]) K14.out 0 _ rfl⟩, ⟨R_past RV.out K14.out (by decide)⟩, ⟨below_set Y G14.out⟩, G14⟩
           · refine box_step (by rfl) (N := 14) rfl (cs := #[.slice none 0 0]) (t := 28) (by first | (go_simp; done) | (go_simp; rfl)) ?_
             intro g14 hg w8_ hbox hb
             have K14 := mz hbox
             have G14 : Aside0 (wd.heap.size ≤ g14) := ⟨by rw [hg]; exact Y.size⟩
             have RV := mz (Kd.R_below RV.out hb)
             refine hK.out _ _ (below_step Y hb) (fun Y => ?_)
             clear hK K hb hbox hg
             refine wpAnyH_ready (rs := [5]) (by kernel_rfl) (by simp) (AllReadyH.cons (by rfl) (fun K hK => ?_) AllReadyH.nil)
             · refine event_step (by rfl) (w1 := w8_.alloc (.cells (cA y) 41 (0, 0))) (v := .slice (some ⟨w8_.heap.size, 0, none⟩) 1 1) (by first | (go_simp; done) | (go_simp; rfl)) ?_
               have hbx := blk_new w8_ (.cells (cA y) 41 (0, 0))
               have hb := below_alloc (Below.refl w8_.heap.size w8_) (.cells (cA y) 41 (0, 0))
               obtain ⟨g71, hg71⟩ : ∃ g, g = w8_.heap.size := ⟨_, rfl⟩
               rw [← hg71] at hbx ⊢
               generalize w8_.alloc (.cells (cA y) 41 (0, 0)) = w9_ at hbx hb ⊢
               have K71 := mz hbx
               have NE : Aside0 (some g71 ≠ v69.ownBlock) := ⟨fun h => by have := Kd.R_lt RV.out g71 h.symm; omega⟩
               have RV := mz (Kd.R_below RV.out hb)
               have K14 := mz (blk_below K14.out hb)
               refine hK.out _ _ (below_step Y hb) (fun Y => ?_)
               clear hK K hb hbx hg71
               refine wpAnyH_ready (rs := [6]) (by kernel_rfl) (by simp) (AllReadyH.cons (by rfl) (fun K hK => ?_) AllReadyH.nil)
               · refine ap_step rfl (.tmp 69) (.tmp 71) v69 l [y] (some ⟨g71, 0, none⟩) 1 1 RV.out (reads_one K71.out) Y (by have := HL80.out; first | omega | (simp only [List.length_nil]; omega)) ?_
                 intro v72 w10_ hR hB hg hat
                 obtain ⟨A72_, c72_, hv72, _, _⟩ := Kd.R_reads hR
                 rw [show (l ++ [y]).length = l.length + 1 from by rw [List.length_append, List.length_singleton]] at hv72
                 subst hv72
                 have K14 := mz ((hg.block g14 (blk_lt K14.out) (ne_typed RV.out K14.out (by decide))).trans K14.out)
                 clear RV
                 have RV := mz hR
                 refine hK.out _ _ hB (fun Y => ?_)
                 clear hK K hR hB hg hat
                 refine tF_ 7 (fun _ h => h) ?_
                 have x14 : w10_.cell? ⟨g14, 0, none⟩ = some (.slice none 0 0) := (blk_cell K14.out 0).trans rfl
                 have f14 := blk_frozen K14.out 0
                 refine tS_ 9 (w1 := w10_.setCell ⟨g14, 0, none⟩ (.slice A72_ (l.length + 1) c72_)) (below_set Y G14.out) (fun Y2 => ?_)
                 refine wpAnyH_done (by kernel_rfl) ?_ _
                 clear x14 f14
                 go_wp2_with fail
                 go_meet
                 case rel => exact ⟨g14, (.slice A72_ (l.length + 1) c72_), rfl, ⟨blk_put (cs := #[.slice none 0 0]) K14.out 0 _ rfl⟩, ⟨R_past RV.out K14.out (by decide)⟩, ⟨below_set Y G14.out⟩, G14⟩
         · refine event_step (by rfl) (w1 := w1_.alloc (.cells (cA y) 41 (0, 0))) (v := .slice (some ⟨w1_.heap.size, 0, none⟩) 1 1) (by first | (go_simp; done) | (go_simp; rfl)) ?_
           have hbx := blk_new w1_ (.cells (cA y) 41 (0, 0))
           have hb := below_alloc (Below.refl w1_.heap.size w1_) (.cells (cA y) 41 (0, 0))
           obtain ⟨g71, hg71⟩ : ∃ g, g = w1_.heap.size := ⟨_, rfl⟩
           rw [← hg71] at hbx ⊢
           generalize w1_.alloc (.cells (cA y) 41 (0, 0)) = w11_ at hbx hb ⊢
           have K71 := mz hbx
           have NE : Aside0 (some g71 ≠ v66.ownBlock) := ⟨fun h => by have := Kd.R_lt RV.out g71 h.symm; omega⟩
           have RV := mz (Kd.R_below RV.out hb)
           refine hK.out _ _ (below_step Y hb) (fun Y => ?_)
           clear hK K hb hbx hg71
           refine wpAnyH_ready (rs := [3, 8]) (by kernel_rfl) (by simp) (AllReadyH.cons (by rfl) (fun K hK => ?_) (AllReadyH.cons (by rfl) (fun K hK => ?_) AllReadyH.nil))
           · refine ap_step rfl (.tmp 66) (.tmp 68) v66 [] l A l.length c RV.out (Kd.C_below HR.out (below_step (below_step B8.out Bd.out) Y)) Y (by have := HL80.out; first | omega | (simp only [List.length_nil]; omega)) ?_
             intro v69 w12_ hR hB hg hat
             have NE2 : Aside0 (some g71 ≠ v69.ownBlock) := ⟨by rcases hat with hat | ⟨bb, e, hle⟩; rw [hat]; exact NE.out; rw [e]; intro h; injection h with h; have := blk_lt K71.out; omega⟩
             have K71 := mz ((hg.block g71 (blk_lt K71.out) NE.out).trans K71.out)
             clear NE
             have NE := NE2
             clear NE2
             clear RV
             have RV := mz (show Kd.R k41 41 w12_ wd.heap.size (fun _ => True) v69 l from hR)
             refine hK.out _ _ hB (fun Y => ?_)
             clear hK K hR hB hg hat
             refine wpAnyH_ready (rs := [6, 8]) (by kernel_rfl) (by simp) (AllReadyH.cons (by rfl) (fun K hK => ?_) (AllReadyH.cons (by rfl) (fun K hK => ?_) AllReadyH.nil))
             · refine ap_step rfl (.tmp 69) (.tmp 71) v69 l [y] (some ⟨g71, 0, none⟩) 1 1 RV.out (reads_one K71.out) Y (by have := HL80.out; first | omega | (simp only [List.length_nil]; omega)) ?_
               intro v72 w13_ hR hB hg hat
               obtain ⟨A72_, c72_, hv72, _, _⟩ := Kd.R_reads hR
               rw [show (l ++ [y]).length = l.length + 1 from by rw [List.length_append, List.length_singleton]] at hv72
               subst hv72
               clear RV
               have RV := mz hR
               refine hK.out _ _ hB (fun Y => ?_)
               clear hK K hR hB hg hat
               refine tF_ 7 (fun _ h => h) ?_
               refine wpAnyH_ready (rs := [8]) (by kernel_rfl) (by simp) (AllReadyH.cons (by rfl) (fun K hK => ?_) AllReadyH.nil)
               · refine box_step (by rfl) (N := 14) rfl (cs := #[.slice none 0 0]) (t := 28) (by first | (go_simp; done) | (go_simp; rfl)) ?_
                 intro g14 hg w14_ hbox hb
                 have K14 := mz hbox
                 have G14 : Aside0 (wd.heap.size ≤ g14) := ⟨by rw [hg]; exact Y.size⟩
                 have RV := mz (Kd.R_below RV.out hb)
                 refine hK.out _ _ (below_step Y hb) (fun Y => ?_)
                 clear hK K hb hbox hg
                 have x14 : w14_.cell? ⟨g14, 0, none⟩ = some (.slice none 0 0) := (blk_cell K14.out 0).trans rfl
                 have f14 := blk_frozen K14.out 0
                 refine tS_ 9 (w1 := w14_.setCell ⟨g14, 0, none⟩ (.slice A72_ (l.length + 1) c72_)) (below_set Y G14.out) (fun Y2 => ?_)
                 refine wpAnyH_done (by kernel_rfl) ?_ _
                 clear x14 f14
                 go_wp2_with fail
                 go_meet
                 case rel => exact ⟨g14, (.slice A72_ (l.length + 1) c72_), rfl, ⟨blk_put (cs := #[.slice none 0 0]) K14.out 0 _ rfl⟩, ⟨R_past RV.out K14.out (by decide)⟩, ⟨below_set Y G14.out⟩, G14⟩
             · refine box_step (by rfl) (N := 14) rfl (cs := #[.slice none 0 0]) (t := 28) (by first | (go_simp; done) | (go_simp; rfl)) ?_
               intro g14 hg w15_ hbox hb
               have K14 := mz hbox
               have G14 : Aside0 (wd.heap.size ≤ g14) := ⟨by rw [hg]; exact Y.size⟩
               have RV := mz (Kd.R_below RV.out hb)
               have K71 := mz (blk_below K71.out hb)
               refine hK.out _ _ (below_step Y hb) (fun Y => ?_)
               clear hK K hb hbox hg
               refine wpAnyH_ready (rs := [6]) (by kernel_rfl) (by simp) (AllReadyH.cons (by rfl) (fun K hK => ?_) AllReadyH.nil)
               · refine ap_step rfl (.tmp 69) (.tmp 71) v69 l [y] (some ⟨g71, 0, none⟩) 1 1 RV.out (reads_one K71.out) Y (by have := HL80.out; first | omega | (simp only [List.length_nil]; omega)) ?_
                 intro v72 w16_ hR hB hg hat
                 obtain ⟨A72_, c72_, hv72, _, _⟩ := Kd.R_reads hR
                 rw [show (l ++ [y]).length = l.length + 1 from by rw [List.length_append, List.length_singleton]] at hv72
                 subst hv72
                 have K14 := mz ((hg.block g14 (blk_lt K14.out) (ne_typed RV.out K14.out (by decide))).trans K14.out)
                 clear RV
                 have RV := mz hR
                 refine hK.out _ _ hB (fun Y => ?_)
                 clear hK K hR hB hg hat
                 refine tF_ 7 (fun _ h => h) ?_
                 have x14 : w16_.cell? ⟨g14, 0, none⟩ = some (.slice none 0 0) := (blk_cell K14.out 0).trans rfl
                 have f14 := blk_frozen K14.out 0
                 refine tS_ 9 (w1 := w16_.setCell ⟨g14, 0, none⟩ (.slice A72_ (l.length + 1) c72_)) (below_set Y G14.out) (fun Y2 => ?_)
                 refine wpAnyH_done (by kernel_rfl) ?_ _
                 clear x14 f14
                 go_wp2_with fail
                 go_meet
                 case rel => exact ⟨g14, (.slice A72_ (l.length + 1) c72_), rfl, ⟨blk_put (cs := #[.slice none 0 0]) K14.out 0 _ rfl⟩, ⟨R_past RV.out K14.out (by decide)⟩, ⟨below_set Y G14.out⟩, G14⟩
           · refine box_step (by rfl) (N := 14) rfl (cs := #[.slice none 0 0]) (t := 28) (by first | (go_simp; done) | (go_simp; rfl)) ?_
             intro g14 hg w17_ hbox hb
             have K14 := mz hbox
             have G14 : Aside0 (wd.heap.size ≤ g14) := ⟨by rw [hg]; exact Y.size⟩
             have RV := mz (Kd.R_below RV.out hb)
             have K71 := mz (blk_below K71.out hb)
             refine hK.out _ _ (below_step Y hb) (fun Y => ?_)
             clear hK K hb hbox hg
             refine wpAnyH_ready (rs := [3]) (by kernel_rfl) (by simp) (AllReadyH.cons (by rfl) (fun K hK => ?_) AllReadyH.nil)
             · refine ap_step rfl (.tmp 66) (.tmp 68) v66 [] l A l.length c RV.out (Kd.C_below HR.out (below_step (below_step B8.out Bd.out) Y)) Y (by have := HL80.out; first | omega | (simp only [List.length_nil]; omega)) ?_
               intro v69 w18_ hR hB hg hat
               have K14 := mz ((hg.block g14 (blk_lt K14.out) (ne_typed RV.out K14.out (by decide))).trans K14.out)
               have NE2 : Aside0 (some g71 ≠ v69.ownBlock) := ⟨by rcases hat with hat | ⟨bb, e, hle⟩; rw [hat]; exact NE.out; rw [e]; intro h; injection h with h; have := blk_lt K71.out; omega⟩
               have K71 := mz ((hg.block g71 (blk_lt K71.out) NE.out).trans K71.out)
               clear NE
               have NE := NE2
               clear NE2
               clear RV
               have RV := mz (show Kd.R k41 41 w18_ wd.heap.size (fun _ => True) v69 l from hR)
               refine hK.out _ _ hB (fun Y => ?_)
               clear hK K hR hB hg hat
               refine wpAnyH_ready (rs := [6]) (by kernel_rfl) (by simp) (AllReadyH.cons (by rfl) (fun K hK => ?_) AllReadyH.nil)
               · refine ap_step rfl (.tmp 69) (.tmp 71) v69 l [y] (some ⟨g71, 0, none⟩) 1 1 RV.out (reads_one K71.out) Y (by have := HL80.out; first | omega | (simp only [List.length_nil]; omega)) ?_
                 intro v72 w19_ hR hB hg hat
                 obtain ⟨A72_, c72_, hv72, _, _⟩ := Kd.R_reads hR
                 rw [show (l ++ [y]).length = l.length + 1 from by rw [List.length_append, List.length_singleton]] at hv72
                 subst hv72
                 have K14 := mz ((hg.block g14 (blk_lt K14.out) (ne_typed RV.out K14.out (by decide))).trans K14.out)
                 clear RV
                 have RV := mz hR
                 refine hK.out _ _ hB (fun Y => ?_)
                 clear hK K hR hB hg hat
                 refine tF_ 7 (fun _ h => h) ?_
                 have x14 : w19_.cell? ⟨g14, 0, none⟩ = some (.slice none 0 0) := (blk_cell K14.out 0).trans rfl
                 have f14 := blk_frozen K14.out 0
                 refine tS_ 9 (w1 := w19_.setCell ⟨g14, 0, none⟩ (.slice A72_ (l.length + 1) c72_)) (below_set Y G14.out) (fun Y2 => ?_)
                 refine wpAnyH_done (by kernel_rfl) ?_ _
                 clear x14 f14
                 go_wp2_with fail
                 go_meet
                 case rel => exact ⟨g14, (.slice A72_ (l.length + 1) c72_), rfl, ⟨blk_put (cs := #[.slice none 0 0]) K14.out 0 _ rfl⟩, ⟨R_past RV.out K14.out (by decide)⟩, ⟨below_set Y G14.out⟩, G14⟩
         · refine box_step (by rfl) (N := 14) rfl (cs := #[.slice none 0 0]) (t := 28) (by first | (go_simp; done) | (go_simp; rfl)) ?_
           intro g14 hg w20_ hbox hb
           have K14 := mz hbox
           have G14 : Aside0 (wd.heap.size ≤ g14) := ⟨by rw [hg]; exact Y.size⟩
           have RV := mz (Kd.R_below RV.out hb)
           refine hK.out _ _ (below_step Y hb) (fun Y => ?_)
           clear hK K hb hbox hg
           refine wpAnyH_ready (rs := [3, 5]) (by kernel_rfl) (by simp) (AllReadyH.cons (by rfl) (fun K hK => ?_) (AllReadyH.cons (by rfl) (fun K hK => ?_) AllReadyH.nil))
           · refine ap_step rfl (.tmp 66) (.tmp 68) v66 [] l A l.length c RV.out (Kd.C_below HR.out (below_step (below_step B8.out Bd.out) Y)) Y (by have := HL80.out; first | omega | (simp only [List.length_nil]; omega)) ?_
             intro v69 w21_ hR hB hg hat
             have K14 := mz ((hg.block g14 (blk_lt K14.out) (ne_typed RV.out K14.out (by decide))).trans K14.out)
             clear RV
             have RV := mz (show Kd.R k41 41 w21_ wd.heap.size (fun _ => True) v69 l from hR)
             refine hK.out _ _ hB (fun Y => ?_)
             clear hK K hR hB hg hat
             refine wpAnyH_ready (rs := [5]) (by kernel_rfl) (by simp) (AllReadyH.cons (by rfl) (fun K hK => ?_) AllReadyH.nil)
             · refine event_step (by rfl) (w1 := w21_.alloc (.cells (cA y) 41 (0, 0))) (v := .slice (some ⟨w21_.heap.size, 0, none⟩) 1 1) (by first | (go_simp; done) | (go_simp; rfl)) ?_
               have hbx := blk_new w21_ (.cells (cA y) 41 (0, 0))
               have hb := below_alloc (Below.refl w21_.heap.size w21_) (.cells (cA y) 41 (0, 0))
               obtain ⟨g71, hg71⟩ : ∃ g, g = w21_.heap.size := ⟨_, rfl⟩
               rw [← hg71] at hbx ⊢
               generalize w21_.alloc (.cells (cA y) 41 (0, 0)) = w22_ at hbx hb ⊢
               have K71 := mz hbx
               have NE : Aside0 (some g71 ≠ v69.ownBlock) := ⟨fun h => by have := Kd.R_lt RV.out g71 h.symm; omega⟩
               have RV := mz (Kd.R_below RV.out hb)
               have K14 := mz (blk_below K14.out hb)
               refine hK.out _ _ (below_step Y hb) (fun Y => ?_)
               clear hK K hb hbx hg71
               refine wpAnyH_ready (rs := [6]) (by kernel_rfl) (by simp) (AllReadyH.cons (by rfl) (fun K hK => ?_) AllReadyH.nil)
               · refine ap_step rfl (.tmp 69) (.tmp 71) v69 l [y] (some ⟨g71, 0, none⟩) 1 1 RV.out (reads_one K71.out) Y (by have := HL80.out; first | omega | (simp only [List.length_nil]; omega)) ?_
                 intro v72 w23_ hR hB hg hat
                 obtain ⟨A72_, c72_, hv72, _, _⟩ := Kd.R_reads hR
                 rw [show (l ++ [y]).length = l.length + 1 from by rw [List.length_append, List.length_singleton]] at hv72
                 subst hv72
                 have K14 := mz ((hg.block g14 (blk_lt K14.out) (ne_typed RV.out K14.out (by decide))).trans K14.out)
                 clear RV
                 have RV := mz hR
                 refine hK.out _ _ hB (fun Y => ?_)
                 clear hK K hR hB hg hat
                 refine tF_ 7 (fun _ h => h) ?_
                 have x14 : w23_.cell? ⟨g14, 0, none⟩ = some (.slice none 0 0) := (blk_cell K14.out 0).trans rfl
                 have f14 := blk_frozen K14.out 0
                 refine tS_ 9 (w1 := w23_.setCell ⟨g14, 0, none⟩ (.slice A72_ (l.length + 1) c72_)) (below_set Y G14.out) (fun Y2 => ?_)
                 refine wpAnyH_done (by kernel_rfl) ?_ _
                 clear x14 f14
                 go_wp2_with fail
                 go_meet
                 case rel => exact ⟨g14, (.slice A72_ (l.length + 1) c72_), rfl, ⟨blk_put (cs := #[.slice none 0 0]) K14.out 0 _ rfl⟩, ⟨R_past RV.out K14.out (by decide)⟩, ⟨below_set Y G14.out⟩, G14⟩
           · refine event_step (by rfl) (w1 := w20_.alloc (.cells (cA y) 41 (0, 0))) (v := .slice (some ⟨w20_.heap.size, 0, none⟩) 1 1) (by first | (go_simp; done) | (go_simp; rfl)) ?_
             have hbx := blk_new w20_ (.cells (cA y) 41 (0, 0))
             have hb := below_alloc (Below.refl w20_.heap.size w20_) (.cells (cA y) 41 (0, 0))
             obtain ⟨g71, hg71⟩ : ∃ g, g = w20_.heap.size := ⟨_, rfl⟩
             rw [← hg71] at hbx ⊢
             generalize w20_.alloc (.cells (cA y) 41 (0, 0)) = w24_ at hbx hb ⊢
             have K71 := mz hbx
             have NE : Aside0 (some g71 ≠ v66.ownBlock) := ⟨fun h => by have := Kd.R_lt RV.out g71 h.symm; omega⟩
             have RV := mz (Kd.R_below RV.out hb)
             have K14 := mz (blk_below K14.out hb)
             refine hK.out _ _ (below_step Y hb) (fun Y => ?_)
             clear hK K hb hbx hg71
             refine wpAnyH_ready (rs := [3]) (by kernel_rfl) (by simp) (AllReadyH.cons (by rfl) (fun K hK => ?_) AllReadyH.nil)
             · refine ap_step rfl (.tmp 66) (.tmp 68) v66 [] l A l.length c RV.out (Kd.C_below HR.out (below_step (below_step B8.out Bd.out) Y)) Y (by have := HL80.out; first | omega | (simp only [List.length_nil]; omega)) ?_
               intro v69 w25_ hR hB hg hat
               have K14 := mz ((hg.block g14 (blk_lt K14.out) (ne_typed RV.out K14.out (by decide))).trans K14.out)
               have NE2 : Aside0 (some g71 ≠ v69.ownBlock) := ⟨by rcases hat with hat | ⟨bb, e, hle⟩; rw [hat]; exact NE.out; rw [e]; intro h; injection h with h; have := blk_lt K71.out; omega⟩
               have K71 := mz ((hg.block g71 (blk_lt K71.out) NE.out).trans K71.out)
               clear NE
               have NE := NE2
               clear NE2
               clear RV
               have RV := mz (show Kd.R k41 41 w25_ wd.heap.size (fun _ => True) v69 l from hR)
               refine hK.out _ _ hB (fun Y => ?_)
               clear hK K hR hB hg hat
               refine wpAnyH_ready (rs := [6]) (by kernel_rfl) (by simp) (AllReadyH.cons (by rfl) (fun K hK => ?_) AllReadyH.nil)
               · refine ap_step rfl (.tmp 69) (.tmp 71) v69 l [y] (some ⟨g71, 0, none⟩) 1 1 RV.out (reads_one K71.out) Y (by have := HL80.out; first | omega | (simp only [List.length_nil]; omega)) ?_
                 intro v72 w26_ hR hB hg hat
                 obtain ⟨A72_, c72_, hv72, _, _⟩ := Kd.R_reads hR
                 rw [show (l ++ [y]).length = l.length + 1 from by rw [List.length_append, List.length_singleton]] at hv72
                 subst hv72
                 have K14 := mz ((hg.block g14 (blk_lt K14.out) (ne_typed RV.out K14.out (by decide))).trans K14.out)
                 clear RV
                 have RV := mz hR
                 refine hK.out _ _ hB (fun Y => ?_)
                 clear hK K hR hB hg hat
                 refine tF_ 7 (fun _ h => h) ?_
                 have x14 : w26_.cell? ⟨g14, 0, none⟩ = some (.slice none 0 0) := (blk_cell K14.out 0).trans rfl
                 have f14 := blk_frozen K14.out 0
                 refine tS_ 9 (w1 := w26_.setCell ⟨g14, 0, none⟩ (.slice A72_ (l.length + 1) c72_)) (below_set Y G14.out) (fun Y2 => ?_)
                 refine wpAnyH_done (by kernel_rfl) ?_ _
                 clear x14 f14
                 go_wp2_with fail
                 go_meet
                 case rel => exact ⟨g14, (.slice A72_ (l.length + 1) c72_), rfl, ⟨blk_put (cs := #[.slice none 0 0]) K14.out 0 _ rfl⟩, ⟨R_past RV.out K14.out (by decide)⟩, ⟨below_set Y G14.out⟩, G14⟩
       · refine event_step (by rfl) (w1 := w0_.alloc (.cells (cA y) 41 (0, 0))) (v := .slice (some ⟨w0_.heap.size, 0, none⟩) 1 1) (by first | (go_simp; done) | (go_simp; rfl)) ?_
         have hbx := blk_new w0_ (.cells (cA y) 41 (0, 0))
         have hb := below_alloc (Below.refl w0_.heap.size w0_) (.cells (cA y) 41 (0, 0))
         obtain ⟨g71, hg71⟩ : ∃ g, g = w0_.heap.size := ⟨_, rfl⟩
         rw [← hg71] at hbx ⊢
         generalize w0_.alloc (.cells (cA y) 41 (0, 0)) = w27_ at hbx hb ⊢
         have K71 := mz hbx
         refine hK.out _ _ (below_step Y hb) (fun Y => ?_)
         clear hK K hb hbx hg71
         refine wpAnyH_ready (rs := [0, 8]) (by kernel_rfl) (by simp) (AllReadyH.cons (by rfl) (fun K hK => ?_) (AllReadyH.cons (by rfl) (fun K hK => ?_) AllReadyH.nil))
         · refine Kd.R_lit_step k41 wd.heap.size 41 (by rfl) (N := 66) rfl (xs := []) (inner := []) (ok := fun _ => True) (okp := fun _ => False) (by first | (go_simp; done) | (go_simp; rfl)) ⟨rfl, fun j p hj => by simp at hj⟩ (fun _ hk => hk.elim) trivial Y Y.size (by decide) ?_
           intro v66 w28_ hR hB hg hat
           have RV := mz hR
           have NE : Aside0 (some g71 ≠ v66.ownBlock) := ⟨by obtain ⟨bb, e, hle⟩ := hat; rw [e]; intro h; injection h with h; have := blk_lt K71.out; omega⟩
           have K71 := mz ((hg.block g71 (blk_lt K71.out) (by simp)).trans K71.out)
           refine hK.out _ _ hB (fun Y => ?_)
           clear hK K hR hB hg hat
           refine wpAnyH_ready (rs := [3, 8]) (by kernel_rfl) (by simp) (AllReadyH.cons (by rfl) (fun K hK => ?_) (AllReadyH.cons (by rfl) (fun K hK => ?_) AllReadyH.nil))
           · refine ap_step rfl (.tmp 66) (.tmp 68) v66 [] l A l.length c RV.out (Kd.C_below HR.out (below_step (below_step B8.out Bd.out) Y)) Y (by have := HL80.out; first | omega | (simp only [List.length_nil]; omega)) ?_
             intro v69 w29_ hR hB hg hat
             have NE2 : Aside0 (some g71 ≠ v69.ownBlock) := ⟨by rcases hat with hat | ⟨bb, e, hle⟩; rw [hat]; exact NE.out; rw [e]; intro h; injection h with h; have := blk_lt K71.out; omega⟩
             have K71 := mz ((hg.block g71 (blk_lt K71.out) NE.out).trans K71.out)
             clear NE
             have NE := NE2
             clear NE2
             clear RV
             have RV := mz (show Kd.R k41 41 w29_ wd.heap.size (fun _ => True) v69 l from hR)
             refine hK.out _ _ hB (fun Y => ?_)
             clear hK K hR hB hg hat
             refine wpAnyH_ready (rs := [6, 8]) (by kernel_rfl) (by simp) (AllReadyH.cons (by rfl) (fun K hK => ?_) (AllReadyH.cons (by rfl) (fun K hK => ?_) AllReadyH.nil))
             · refine ap_step rfl (.tmp 69) (.tmp 71) v69 l [y] (some ⟨g71, 0, none⟩) 1 1 RV.out (reads_one K71.out) Y (by have := HL80.out; first | omega | (simp only [List.length_nil]; omega)) ?_
               intro v72 w30_ hR hB hg hat
               obtain ⟨A72_, c72_, hv72, _, _⟩ := Kd.R_reads hR
               rw [show (l ++ [y]).length = l.length + 1 from by rw [List.length_append, List.length_singleton]] at hv72
               subst hv72
               clear RV
               have RV := mz hR
               refine hK.out _ _ hB (fun Y => ?_)
               clear hK K hR hB hg hat
               refine tF_ 7 (fun _ h => h) ?_
               refine wpAnyH_ready (rs := [8]) (by kernel_rfl) (by simp) (AllReadyH.cons (by rfl) (fun K hK => ?_) AllReadyH.nil)
               · refine box_step (by rfl) (N := 14) rfl (cs := #[.slice none 0 0]) (t := 28) (by first | (go_simp; done) | (go_simp; rfl)) ?_
                 intro g14 hg w31_ hbox hb
                 have K14 := mz hbox
                 have G14 : Aside0 (wd.heap.size ≤ g14) := ⟨by rw [hg]; exact Y.size⟩
                 have RV := mz (Kd.R_below RV.out hb)
                 refine hK.out _ _ (below_step Y hb) (fun Y => ?_)
                 clear hK K hb hbox hg
                 have x14 : w31_.cell? ⟨g14, 0, none⟩ = some (.slice none 0 0) := (blk_cell K14.out 0).trans rfl
                 have f14 := blk_frozen K14.out 0
                 refine tS_ 9 (w1 := w31_.setCell ⟨g14, 0, none⟩ (.slice A72_ (l.length + 1) c72_)) (below_set Y G14.out) (fun Y2 => ?_)
                 refine wpAnyH_done (by kernel_rfl) ?_ _
                 clear x14 f14
                 go_wp2_with fail
                 go_meet
                 case rel => exact ⟨g14, (.slice A72_ (l.length + 1) c72_), rfl, ⟨blk_put (cs := #[.slice none 0 0]) K14.out 0 _ rfl⟩, ⟨R_past RV.out K14.out (by decide)⟩, ⟨below_set Y G14.out⟩, G14⟩
             · refine box_step (by rfl) (N := 14) rfl (cs := #[.slice none 0 0]) (t := 28) (by first | (go_simp; done) | (go_simp; rfl)) ?_
               intro g14 hg w32_ hbox hb
               have K14 := mz hbox
               have G14 : Aside0 (wd.heap.size ≤ g14) := ⟨by rw [hg]; exact Y.size⟩
               have RV := mz (Kd.R_below RV.out hb)
               have K71 := mz (blk_below K71.out hb)
               refine hK.out _ _ (below_step Y hb) (fun Y => ?_)
               clear hK K hb hbox hg
               refine wpAnyH_ready (rs := [6]) (by kernel_rfl) (by simp) (AllReadyH.cons (by rfl) (fun K hK => ?_) AllReadyH.nil)
               · refine ap_step rfl (.tmp 69) (.tmp 71) v69 l [y] (some ⟨g71, 0, none⟩) 1 1 RV.out (reads_one K71.out) Y (by have := HL80.out; first | omega | (simp only [List.length_nil]; omega)) ?_
                 intro v72 w33_ hR hB hg hat
                 obtain ⟨A72_, c72_, hv72, _, _⟩ := Kd.R_reads hR
                 rw [show (l ++ [y]).length = l.length + 1 from by rw [List.length_append, List.length_singleton]] at hv72
                 subst hv72
                 have K14 := mz ((hg.block g14 (blk_lt K14.out) (ne_typed RV.out K14.out (by decide))).trans K14.out)
                 clear RV
                 have RV := mz hR
                 refine hK.out _ _ hB (fun Y => ?_)
                 clear hK K hR hB hg hat
                 refine tF_ 7 (fun _ h => h) ?_
                 have x14 : w33_.cell? ⟨g14, 0, none⟩ = some (.slice none 0 0) := (blk_cell K14.out 0).trans rfl
                 have f14 := blk_frozen K14.out 0
                 refine tS_ 9 (w1 := w33_.setCell ⟨g14, 0, none⟩ (.slice A72_ (l.length + 1) c72_)) (below_set Y G14.out) (fun Y2 => ?_)
                 refine wpAnyH_done (by kernel_rfl) ?_ _
                 clear x14 f14
                 go_wp2_with fail
                 go_meet
                 case rel => exact ⟨g14, (.slice A72_ (l.length + 1) c72_), rfl, ⟨blk_put (cs := #[.slice none 0 0]) K14.out 0 _ rfl⟩, ⟨R_past RV.out K14.out (by decide)⟩, ⟨below_set Y G14.out⟩, G14⟩
           · refine box_step (by rfl) (N := 14) rfl (cs := #[.slice none 0 0]) (t := 28) (by first | (go_simp; done) | (go_simp; rfl)) ?_
             intro g14 hg w34_ hbox hb
             have K14 := mz hbox
             have G14 : Aside0 (wd.heap.size ≤ g14) := ⟨by rw [hg]; exact Y.size⟩
             have RV := mz (Kd.R_below RV.out hb)
             have K71 := mz (blk_below K71.out hb)
             refine hK.out _ _ (below_step Y hb) (fun Y => ?_)
             clear hK K hb hbox hg
             refine wpAnyH_ready (rs := [3]) (by kernel_rfl) (by simp) (AllReadyH.cons (by rfl) (fun K hK => ?_) AllReadyH.nil)
             · refine ap_step rfl (.tmp 66) (.tmp 68) v66 [] l A l.length c RV.out (Kd.C_below HR.out (below_step (below_step B8.out Bd.out) Y)) Y (by have := HL80.out; first | omega | (simp only [List.length_nil]; omega)) ?_
               intro v69 w35_ hR hB hg hat
               have K14 := mz ((hg.block g14 (blk_lt K14.out) (ne_typed RV.out K14.out (by decide))).trans K14.out)
               have NE2 : Aside0 (some g71 ≠ v69.ownBlock) := ⟨by rcases hat with hat | ⟨bb, e, hle⟩; rw [hat]; exact NE.out; rw [e]; intro h; injection h with h; have := blk_lt K71.out; omega⟩
               have K71 := mz ((hg.block g71 (blk_lt K71.out) NE.out).trans K71.out)
               clear NE
               have NE := NE2
               clear NE2
               clear RV
               have RV := mz (show Kd.R k41 41 w35_ wd.heap.size (fun _ => True) v69 l from hR)
               refine hK.out _ _ hB (fun Y => ?_)
               clear hK K hR hB hg hat
               refine wpAnyH_ready (rs := [6]) (by kernel_rfl) (by simp) (AllReadyH.cons (by rfl) (fun K hK => ?_) AllReadyH.nil)
               · refine ap_step rfl (.tmp 69) (.tmp 71) v69 l [y] (some ⟨g71, 0, none⟩) 1 1 RV.out (reads_one K71.out) Y (by have := HL80.out; first | omega | (simp only [List.length_nil]; omega)) ?_
                 intro v72 w36_ hR hB hg hat
                 obtain ⟨A72_, c72_, hv72, _, _⟩ := Kd.R_reads hR
                 rw [show (l ++ [y]).length = l.length + 1 from by rw [List.length_append, List.length_singleton]] at hv72
                 subst hv72
                 have K14 := mz ((hg.block g14 (blk_lt K14.out) (ne_typed RV.out K14.out (by decide))).trans K14.out)
                 clear RV
                 have RV := mz hR
                 refine hK.out _ _ hB (fun Y => ?_)
                 clear hK K hR hB hg hat
                 refine tF_ 7 (fun _ h => h) ?_
                 have x14 : w36_.cell? ⟨g14, 0, none⟩ = some (.slice none 0 0) := (blk_cell K14.out 0).trans rfl
                 have f14 := blk_frozen K14.out 0
                 refine tS_ 9 (w1 := w36_.setCell ⟨g14, 0, none⟩ (.slice A72_ (l.length + 1) c72_)) (below_set Y G14.out) (fun Y2 => ?_)
                 refine wpAnyH_done (by kernel_rfl) ?_ _
                 clear x14 f14
                 go_wp2_with fail
                 go_meet
                 case rel => exact ⟨g14, (.slice A72_ (l.length + 1) c72_), rfl, ⟨blk_put (cs := #[.slice none 0 0]) K14.out 0 _ rfl⟩, ⟨R_past RV.out K14.out (by decide)⟩, ⟨below_set Y G14.out⟩, G14⟩
         · refine box_step (by rfl) (N := 14) rfl (cs := #[.slice none 0 0]) (t := 28) (by first | (go_simp; done) | (go_simp; rfl)) ?_
           intro g14 hg w37_ hbox hb
           have K14 := mz hbox
           have G14 : Aside0 (wd.heap.size ≤ g14) := ⟨by rw [hg]; exact Y.size⟩
           have K71 := mz (blk_below K71.out hb)
           refine hK.out _ _ (below_step Y hb) (fun Y => ?_)
           clear hK K hb hbox hg
           refine wpAnyH_ready (rs := [0]) (by kernel_rfl) (by simp) (AllReadyH.cons (by rfl) (fun K hK => ?_) AllReadyH.nil)
           · refine Kd.R_lit_step k41 wd.heap.size 41 (by rfl) (N := 66) rfl (xs := []) (inner := []) (ok := fun _ => True) (okp := fun _ => False) (by first | (go_simp; done) | (go_simp; rfl)) ⟨rfl, fun j p hj => by simp at hj⟩ (fun _ hk => hk.elim) trivial Y Y.size (by decide) ?_
             intro v66 w38_ hR hB hg hat
             have RV := mz hR
             have NE : Aside0 (some g71 ≠ v66.ownBlock) := ⟨by obtain ⟨bb, e, hle⟩ := hat; rw [e]; intro h; injection h with h; have := blk_lt K71.out; omega⟩
             have K71 := mz ((hg.block g71 (blk_lt K71.out) (by simp)).trans K71.out)
             have K14 := mz ((hg.block g14 (blk_lt K14.out) (by simp)).trans K14.out)
             refine hK.out _ _ hB (fun Y => ?_)
             clear hK K hR hB hg hat
             refine wpAnyH_ready (rs := [3]) (by kernel_rfl) (by simp) (AllReadyH.cons (by rfl) (fun K hK => ?_) AllReadyH.nil)
             · refine ap_step rfl (.tmp 66) (.tmp 68) v66 [] l A l.length c RV.out (Kd.C_below HR.out (below_step (below_step B8.out Bd.out) Y)) Y (by have := HL80.out; first | omega | (simp only [List.length_nil]; omega)) ?_
               intro v69 w39_ hR hB hg hat
               have K14 := mz ((hg.block g14 (blk_lt K14.out) (ne_typed RV.out K14.out (by decide))).trans K14.out)
               have NE2 : Aside0 (some g71 ≠ v69.ownBlock) := ⟨by rcases hat with hat | ⟨bb, e, hle⟩; rw [hat]; exact NE.out; rw [e]; intro h; injection h with h; have := blk_lt K71.out; omega⟩
               have K71 := mz ((hg.block g71 (blk_lt K71.out) NE.out).trans K71.out)
               clear NE
               have NE := NE2
               clear NE2
               clear RV
               have RV := mz (show Kd.R k41 41 w39_ wd.heap.size (fun _ => True) v69 l from hR)
               refine hK.out _ _ hB (fun Y => ?_)
               clear hK K hR hB hg hat
               refine wpAnyH_ready (rs := [6]) (by kernel_rfl) (by simp) (AllReadyH.cons (by rfl) (fun K hK => ?_) AllReadyH.nil)
               · refine ap_step rfl (.tmp 69) (.tmp 71) v69 l [y] (some ⟨g71, 0, none⟩) 1 1 RV.out (reads_one K71.out) Y (by have := HL80.out; first | omega | (simp only [List.length_nil]; omega)) ?_
                 intro v72 w40_ hR hB hg hat
                 obtain ⟨A72_, c72_, hv72, _, _⟩ := Kd.R_reads hR
                 rw [show (l ++ [y]).length = l.length + 1 from by rw [List.length_append, List.length_singleton]] at hv72
                 subst hv72
                 have K14 := mz ((hg.block g14 (blk_lt K14.out) (ne_typed RV.out K14.out (by decide))).trans K14.out)
                 clear RV
                 have RV := mz hR
                 refine hK.out _ _ hB (fun Y => ?_)
                 clear hK K hR hB hg hat
                 refine tF_ 7 (fun _ h => h) ?_
                 have x14 : w40_.cell? ⟨g14, 0, none⟩ = some (.slice none 0 0) := (blk_cell K14.out 0).trans rfl
                 have f14 := blk_frozen K14.out 0
                 refine tS_ 9 (w1 := w40_.setCell ⟨g14, 0, none⟩ (.slice A72_ (l.length + 1) c72_)) (below_set Y G14.out) (fun Y2 => ?_)
                 refine wpAnyH_done (by kernel_rfl) ?_ _
                 clear x14 f14
                 go_wp2_with fail
                 go_meet
                 case rel => exact ⟨g14, (.slice A72_ (l.length + 1) c72_), rfl, ⟨blk_put (cs := #[.slice none 0 0]) K14.out 0 _ rfl⟩, ⟨R_past RV.out K14.out (by decide)⟩, ⟨below_set Y G14.out⟩, G14⟩
       · refine box_step (by rfl) (N := 14) rfl (cs := #[.slice none 0 0]) (t := 28) (by first | (go_simp; done) | (go_simp; rfl)) ?_
         intro g14 hg w41_ hbox hb
         have K14 := mz hbox
         have G14 : Aside0 (wd.heap.size ≤ g14) := ⟨by rw [hg]; exact Y.size⟩
         refine hK.out _ _ (below_step Y hb) (fun Y => ?_)
         clear hK K hb hbox hg
         refine wpAnyH_ready (rs := [0, 5]) (by kernel_rfl) (by simp) (AllReadyH.cons (by rfl) (fun K hK => ?_) (AllReadyH.cons (by rfl) (fun K hK => ?_) AllReadyH.nil))
         · refine Kd.R_lit_step k41 wd.heap.size 41 (by rfl) (N := 66) rfl (xs := []) (inner := []) (ok := fun _ => True) (okp := fun _ => False) (by first | (go_simp; done) | (go_simp; rfl)) ⟨rfl, fun j p hj => by simp at hj⟩ (fun _ hk => hk.elim) trivial Y Y.size (by decide) ?_
           intro v66 w42_ hR hB hg hat
           have RV := mz hR
           have K14 := mz ((hg.block g14 (blk_lt K14.out) (by simp)).trans K14.out)
           refine hK.out _ _ hB (fun Y => ?_)
           clear hK K hR hB hg hat
           refine wpAnyH_ready (rs := [3, 5]) (by kernel_rfl) (by simp) (AllReadyH.cons (by rfl) (fun K hK => ?_) (AllReadyH.cons (by rfl) (fun K hK => ?_) AllReadyH.nil))
           · refine ap_step rfl (.tmp 66) (.tmp 68) v66 [] l A l.length c RV.out (Kd.C_below HR.out (below_step (below_step B8.out Bd.out) Y)) Y (by have := HL80.out; first | omega | (simp only [List.length_nil]; omega)) ?_
             intro v69 w43_ hR hB hg hat
             have K14 := mz ((hg.block g14 (blk_lt K14.out) (ne_typed RV.out K14.out (by decide))).trans K14.out)
             clear RV
             have RV := mz (show Kd.R k41 41 w43_ wd.heap.size (fun _ => True) v69 l from hR)
             refine hK.out _ _ hB (fun Y => ?_)
             clear hK K hR hB hg hat
             refine wpAnyH_ready (rs := [5]) (by kernel_rfl) (by simp) (AllReadyH.cons (by rfl) (fun K hK => ?_) AllReadyH.nil)
             · refine event_step (by rfl) (w1 := w43_.alloc (.cells (cA y) 41 (0, 0))) (v := .slice (some ⟨w43_.heap.size, 0, none⟩) 1 1) (by first | (go_simp; done) | (go_simp; rfl)) ?_
               have hbx := blk_new w43_ (.cells (cA y) 41 (0, 0))
               have hb := below_alloc (Below.refl w43_.heap.size w43_) (.cells (cA y) 41 (0, 0))
               obtain ⟨g71, hg71⟩ : ∃ g, g = w43_.heap.size := ⟨_, rfl⟩
               rw [← hg71] at hbx ⊢
               generalize w43_.alloc (.cells (cA y) 41 (0, 0)) = w44_ at hbx hb ⊢
               have K71 := mz hbx
               have NE : Aside0 (some g71 ≠ v69.ownBlock) := ⟨fun h => by have := Kd.R_lt RV.out g71 h.symm; omega⟩
               have RV := mz (Kd.R_below RV.out hb)
               have K14 := mz (blk_below K14.out hb)
               refine hK.out _ _ (below_step Y hb) (fun Y => ?_)
               clear hK K hb hbx hg71
               refine wpAnyH_ready (rs := [6]) (by kernel_rfl) (by simp) (AllReadyH.cons (by rfl) (fun K hK => ?_) AllReadyH.nil)
               · refine ap_step rfl (.tmp 69) (.tmp 71) v69 l [y] (some ⟨g71, 0, none⟩) 1 1 RV.out (reads_one K71.out) Y (by have := HL80.out; first | omega | (simp only [List.length_nil]; omega)) ?_
                 intro v72 w45_ hR hB hg hat
                 obtain ⟨A72_, c72_, hv72, _, _⟩ := Kd.R_reads hR
                 rw [show (l ++ [y]).length = l.length + 1 from by rw [List.length_append, List.length_singleton]] at hv72
                 subst hv72
                 have K14 := mz ((hg.block g14 (blk_lt K14.out) (ne_typed RV.out K14.out (by decide))).trans K14.out)
                 clear RV
                 have RV := mz hR
                 refine hK.out _ _ hB (fun Y => ?_)
                 clear hK K hR hB hg hat
                 refine tF_ 7 (fun _ h => h) ?_
                 have x14 : w45_.cell? ⟨g14, 0, none⟩ = some (.slice none 0 0) := (blk_cell K14.out 0).trans rfl
                 have f14 := blk_frozen K14.out 0
                 refine tS_ 9 (w1 := w45_.setCell ⟨g14, 0, none⟩ (.slice A72_ (l.length + 1) c72_)) (below_set Y G14.out) (fun Y2 => ?_)
                 refine wpAnyH_done (by kernel_rfl) ?_ _
                 clear x14 f14
                 go_wp2_with fail
                 go_meet
                 case rel => exact ⟨g14, (.slice A72_ (l.length + 1) c72_), rfl, ⟨blk_put (cs := #[.slice none 0 0]) K14.out 0 _ rfl⟩, ⟨R_past RV.out K14.out (by decide)⟩, ⟨below_set Y G14.out⟩, G14⟩
           · refine event_step (by rfl) (w1 := w42_.alloc (.cells (cA y) 41 (0, 0))) (v := .slice (some ⟨w42_.heap.size, 0, none⟩) 1 1) (by first | (go_simp; done) | (go_simp; rfl)) ?_
             have hbx := blk_new w42_ (.cells (cA y) 41 (0, 0))
             have hb := below_alloc (Below.refl w42_.heap.size w42_) (.cells (cA y) 41 (0, 0))
             obtain ⟨g71, hg71⟩ : ∃ g, g = w42_.heap.size := ⟨_, rfl⟩
             rw [← hg71] at hbx ⊢
             generalize w42_.alloc (.cells (cA y) 41 (0, 0)) = w46_ at hbx hb ⊢
             have K71 := mz hbx
             have NE : Aside0 (some g71 ≠ v66.ownBlock) := ⟨fun h => by have := Kd.R_lt RV.out g71 h.symm; omega⟩
             have RV := mz (Kd.R_below RV.out hb)
             have K14 := mz (blk_below K14.out hb)
             refine hK.out _ _ (below_step Y hb) (fun Y => ?_)
             clear hK K hb hbx hg71
             refine wpAnyH_ready (rs := [3]) (by kernel_rfl) (by simp) (AllReadyH.cons (by rfl) (fun K hK => ?_) AllReadyH.nil)
             · refine ap_step rfl (.tmp 66) (.tmp 68) v66 [] l A l.length c RV.out (Kd.C_below HR.out (below_step (below_step B8.out Bd.out) Y)) Y (by have := HL80.out; first | omega | (simp only [List.length_nil]; omega)) ?_
               intro v69 w47_ hR hB hg hat
               have K14 := mz ((hg.block g14 (blk_lt K14.out) (ne_typed RV.out K14.out (by decide))).trans K14.out)
               have NE2 : Aside0 (some g71 ≠ v69.ownBlock) := ⟨by rcases hat with hat | ⟨bb, e, hle⟩; rw [hat]; exact NE.out; rw [e]; intro h; injection h with h; have := blk_lt K71.out; omega⟩
               have K71 := mz ((hg.block g71 (blk_lt K71.out) NE.out).trans K71.out)
               clear NE
               have NE := NE2
               clear NE2
               clear RV
               have RV := mz (show Kd.R k41 41 w47_ wd.heap.size (fun _ => True) v69 l from hR)
               refine hK.out _ _ hB (fun Y => ?_)
               clear hK K hR hB hg hat
               refine wpAnyH_ready (rs := [6]) (by kernel_rfl) (by simp) (AllReadyH.cons (by rfl) (fun K hK => ?_) AllReadyH.nil)
               · refine ap_step rfl (.tmp 69) (.tmp 71) v69 l [y] (some ⟨g71, 0, none⟩) 1 1 RV.out (reads_one K71.out) Y (by have := HL80.out; first | omega | (simp only [List.length_nil]; omega)) ?_
                 intro v72 w48_ hR hB hg hat
                 obtain ⟨A72_, c72_, hv72, _, _⟩ := Kd.R_reads hR
                 rw [show (l ++ [y]).length = l.length + 1 from by rw [List.length_append, List.length_singleton]] at hv72
                 subst hv72
                 have K14 := mz ((hg.block g14 (blk_lt K14.out) (ne_typed RV.out K14.out (by decide))).trans K14.out)
                 clear RV
                 have RV := mz hR
                 refine hK.out _ _ hB (fun Y => ?_)
                 clear hK K hR hB hg hat
                 refine tF_ 7 (fun _ h => h) ?_
                 have x14 : w48_.cell? ⟨g14, 0, none⟩ = some (.slice none 0 0) := (blk_cell K14.out 0).trans rfl
                 have f14 := blk_frozen K14.out 0
                 refine tS_ 9 (w1 := w48_.setCell ⟨g14, 0, none⟩ (.slice A72_ (l.length + 1) c72_)) (below_set Y G14.out) (fun Y2 => ?_)
                 refine wpAnyH_done (by kernel_rfl) ?_ _
                 clear x14 f14
                 go_wp2_with fail
                 go_meet
                 case rel => exact ⟨g14, (.slice A72_ (l.length + 1) c72_), rfl, ⟨blk_put (cs := #[.slice none 0 0]) K14.out 0 _ rfl⟩, ⟨R_past RV.out K14.out (by decide)⟩, ⟨below_set Y G14.out⟩, G14⟩
         · refine event_step (by rfl) (w1 := w41_.alloc (.cells (cA y) 41 (0, 0))) (v := .slice (some ⟨w41_.heap.size, 0, none⟩) 1 1) (by first | (go_simp; done) | (go_simp; rfl)) ?_
           have hbx := blk_new w41_ (.cells (cA y) 41 (0, 0))
           have hb := below_alloc (Below.refl w41_.heap.size w41_) (.cells (cA y) 41 (0, 0))
           obtain ⟨g71, hg71⟩ : ∃ g, g = w41_.heap.size := ⟨_, rfl⟩
           rw [← hg71] at hbx ⊢
           generalize w41_.alloc (.cells (cA y) 41 (0, 0)) = w49_ at hbx hb ⊢
           have K71 := mz hbx
           have K14 := mz (blk_below K14.out hb)
           refine hK.out _ _ (below_step Y hb) (fun Y => ?_)
           clear hK K hb hbx hg71
           refine wpAnyH_ready (rs := [0]) (by kernel_rfl) (by simp) (AllReadyH.cons (by rfl) (fun K hK => ?_) AllReadyH.nil)
           · refine Kd.R_lit_step k41 wd.heap.size 41 (by rfl) (N := 66) rfl (xs := []) (inner := []) (ok := fun _ => True) (okp := fun _ => False) (by first | (go_simp; done) | (go_simp; rfl)) ⟨rfl, fun j p hj => by simp at hj⟩ (fun _ hk => hk.elim) trivial Y Y.size (by decide) ?_
             intro v66 w50_ hR hB hg hat
             have RV := mz hR
             have NE : Aside0 (some g71 ≠ v66.ownBlock) := ⟨by obtain ⟨bb, e, hle⟩ := hat; rw [e]; intro h; injection h with h; have := blk_lt K71.out; omega⟩
             have K71 := mz ((hg.block g71 (blk_lt K71.out) (by simp)).trans K71.out)
             have K14 := mz ((hg.block g14 (blk_lt K14.out) (by simp)).trans K14.out)
             refine hK.out _ _ hB (fun Y => ?_)
             clear hK K hR hB hg hat
             refine wpAnyH_ready (rs := [3]) (by kernel_rfl) (by simp) (AllReadyH.cons (by rfl) (fun K hK => ?_) AllReadyH.nil)
             · refine ap_step rfl (.tmp 66) (.tmp 68) v66 [] l A l.length c RV.out (Kd.C_below HR.out (below_step (below_step B8.out Bd.out) Y)) Y (by have := HL80.out; first | omega | (simp only [List.length_nil]; omega)) ?_
               intro v69 w51_ hR hB hg hat
               have K14 := mz ((hg.block g14 (blk_lt K14.out) (ne_typed RV.out K14.out (by decide))).trans K14.out)
               have NE2 : Aside0 (some g71 ≠ v69.ownBlock) := ⟨by rcases hat with hat | ⟨bb, e, hle⟩; rw [hat]; exact NE.out; rw [e]; intro h; injection h with h; have := blk_lt K71.out; omega⟩
               have K71 := mz ((hg.block g71 (blk_lt K71.out) NE.out).trans K71.out)
               clear NE
               have NE := NE2
               clear NE2
               clear RV
               have RV := mz (show Kd.R k41 41 w51_ wd.heap.size (fun _ => True) v69 l from hR)
               refine hK.out _ _ hB (fun Y => ?_)
               clear hK K hR hB hg hat
               refine wpAnyH_ready (rs := [6]) (by kernel_rfl) (by simp) (AllReadyH.cons (by rfl) (fun K hK => ?_) AllReadyH.nil)
               · refine ap_step rfl (.tmp 69) (.tmp 71) v69 l [y] (some ⟨g71, 0, none⟩) 1 1 RV.out (reads_one K71.out) Y (by have := HL80.out; first | omega | (simp only [List.length_nil]; omega)) ?_
                 intro v72 w52_ hR hB hg hat
                 obtain ⟨A72_, c72_, hv72, _, _⟩ := Kd.R_reads hR
                 rw [show (l ++ [y]).length = l.length + 1 from by rw [List.length_append, List.length_singleton]] at hv72
                 subst hv72
                 have K14 := mz ((hg.block g14 (blk_lt K14.out) (ne_typed RV.out K14.out (by decide))).trans K14.out)
                 clear RV
                 have RV := mz hR
                 refine hK.out _ _ hB (fun Y => ?_)
                 clear hK K hR hB hg hat
                 refine tF_ 7 (fun _ h => h) ?_
                 have x14 : w52_.cell? ⟨g14, 0, none⟩ = some (.slice none 0 0) := (blk_cell K14.out 0).trans rfl
                 have f14 := blk_frozen K14.out 0
                 refine tS_ 9 (w1 := w52_.setCell ⟨g14, 0, none⟩ (.slice A72_ (l.length + 1) c72_)) (below_set Y G14.out) (fun Y2 => ?_)
                 refine wpAnyH_done (by kernel_rfl) ?_ _
                 clear x14 f14
                 go_wp2_with fail
                 go_meet
                 case rel => exact ⟨g14, (.slice A72_ (l.length + 1) c72_), rfl, ⟨blk_put (cs := #[.slice none 0 0]) K14.out 0 _ rfl⟩, ⟨R_past RV.out K14.out (by decide)⟩, ⟨below_set Y G14.out⟩, G14⟩
      case rest =>
       obtain ⟨we, hwe⟩ : ∃ x : World, x = wc := ⟨_, rfl⟩
       subst hwe
       obtain ⟨g14, v72, rfl, K14, R72, Be, G14⟩ := hcut
       have x14 : we.cell? ⟨g14, 0, none⟩ = some v72 := (blk_cell K14.out 0).trans rfl
       obtain ⟨A72, c72, hv, hcl72, hC72⟩ := Kd.R_reads R72.out
       have hlen2 : (l ++ [y]).length = l.length + 1 := by rw [List.length_append, List.length_singleton]
       rw [hlen2] at hv
       subst hv
       have hsz2 : sizedA (l ++ [y]) = true := by rw [HY.out]; exact newA_sized l a1 a2 b HP.out h10 h19 h20 h2s HBS.out HS.out
       have hG2 := goodC A72 c72 (l ++ [y]) we hC72 hcl72 (by rw [List.length_append, List.length_singleton]; have := (goodS_of HP.out).1; omega) hsz2
       rw [hlen2] at hG2
       have HG2 := mz hG2
       clear hG2 hC72 hcl72 hsz2 hlen2 x4 y0 y1 y2 y3 y4 y5
       go_wp2_with fail
       refine HG2.out.mono ?_
       rintro e w15 ⟨rfl, hb⟩
       have BL := mz (below_step (below_step Bd.out Be.out) hb)
       have BW := mz (below_step B8.out BL.out)
       have K815 := mz (blk_below K88.out BL.out)
       have B15 := BW
       have R15 := mz (Kd.R_below R72.out hb)
       have K1415 := mz (blk_below K14.out hb)
       clear hb x14
       have x14 : w15.cell? ⟨g14, 0, none⟩ = some (.slice A72 (l.length + 1) c72) := (blk_cell K1415.out 0).trans rfl
       cases p3 : goodS (l ++ [y]) with
       | false =>
        have NONE : Aside0 (putV l a1 a2 b = ([], false)) := ⟨by unfold putV; rw [if_neg (by rintro ⟨q1, q2, q3, q4, q5, q6, q7⟩; rw [← HY.out, p3] at q7; cases q7)]⟩
        clear p3
        have y8 : w15.cell? ⟨g8, 0, none⟩ = some (.slice none 0 0) := (blk_cell K815.out 0).trans rfl
        have z8 := blk_frozen K815.out 0
        go_wp2_with fail
        refine bodyPost_ret (results_ct rfl _ _ g8 28 #[.slice none 0 0] (0, 0) _ rfl (blk_put (cs := #[.slice none 0 0]) K815.out 0 _ rfl) Try.underlying28 rfl (by kernel_rfl)) rfl ?_
        rw [NONE.out]
        exact ⟨.slice none 0 0, rfl, Kd.R_nil _ _ _ _ _, below_set B15.out G8.out⟩
       | true =>
        have hput : Aside0 (putV l a1 a2 b = (l ++ [y], true)) := ⟨by unfold putV; rw [← HY.out, if_pos ⟨HP.out, h10, h19, (plainA_of ((goodS_of p3).2.1 y (by simp))).2.2.2.2 ▸ (by rw [HY4.out]), h20, h2s, p3⟩]⟩
        clear p3
        have y8 : w15.cell? ⟨g8, 0, none⟩ = some (.slice none 0 0) := (blk_cell K815.out 0).trans rfl
        have z8 := blk_frozen K815.out 0
        go_wp2_with fail
        refine bodyPost_ret (results_ct rfl _ _ g8 28 #[.slice A72 (l.length + 1) c72] (0, 0) _ rfl (blk_put (cs := #[.slice none 0 0]) K815.out 0 _ rfl) Try.underlying28 rfl (by kernel_rfl)) rfl ?_
        rw [hput.out]
        exact ⟨_, rfl, Kd.R_lower (R_past R15.out K815.out (by decide)) (by have h1 := B8.out.size; have h2 := Bd.out.size; omega), below_set BW.out G8.out⟩

def spec_PutAtom.f (l0_0 : List (S41)) (a1 : Int) (a2 : Int) (a3 : ByteArray) : Option ((List (S41)) × Bool) := if sizedA l0_0 = true ∧ a3.size ≤ maxLen ∧ l0_0.length ≤ 9223372036854775806 then some (putV l0_0 a1 a2 a3) else none
theorem spec_PutAtom.calls (A0_0 : Option Addr) (c0_0 : Nat) (l0_0 : List (S41)) (a1 : Int) (a2 : Int) (a3 : ByteArray) (r1 : List (S41)) (r2 : Bool) (w : World) (hr0_0 : Kd.C k41 w A0_0 l0_0.length l0_0) (hc0_0 : l0_0.length ≤ c0_0) (h : spec_PutAtom.f l0_0 a1 a2 a3 = some (r1, r2)) :
    Calls Try.prog 5 #[.agg #[.slice A0_0 l0_0.length c0_0], .int .i64 a1, .int .i64 a2, .string a3] w fun e w' => ∃ v0_ : Value, e = .returned (.tuple #[.agg #[v0_], .bool r2]) ∧ Kd.R k41 41 w' w.heap.size (fun _ => True) v0_ r1 ∧ Below w.heap.size w w' := by
  unfold spec_PutAtom.f at h
  by_cases hs : sizedA l0_0 = true ∧ a3.size ≤ maxLen ∧ l0_0.length ≤ 9223372036854775806
  · rw [if_pos hs] at h
    have h0 := Option.some.inj h
    have := specPut_walk A0_0 c0_0 l0_0 a1 a2 a3 w hr0_0 hc0_0 hs.2.2 hs.1 hs.2.1
    rw [h0] at this
    exact this
  · rw [if_neg hs] at h; exact absurd h (by simp)
end Go.Proofs.Ytejilfaioooabaa.X
